/-
  The contracts that the law FnExactMinimumCover needs.
-/
import Derived.Test.YtnmlcebejnlikaaAmO
import Derived.Test.YtnmlcebejnlikaaProg
import Derived.KernelRfl
import Derived.Test.YtnmlcebejnlikaaAmP
import Derived.Test.YtnmlcebejnlikaaAmW
import Derived.Test.YtnmlcebejnlikaaSh
import Derived.Test.YtnmlcebejnlikaaAmX
import Derived.Test.YtnmlcebejnlikaaAmY
import Derived.Test.YtnmlcebejnlikaaAmZ
namespace Go.AM
open Go.Proofs
set_option linter.unusedVariables false
set_option linter.unusedSimpArgs false

theorem iX {P : Program} {ρ : Operand → V} {h : Nat → Option Ob} {dst : Option Nat} {op t x y t' a2 b2 c2 d2} {k a b r} (hx : ρ x = .d (.int k a)) (hy : ρ y = .d (.int k b)) (hv : intV op k a b = some r) : Ev P ρ h (Oper.mk dst (.binOp op t x y t') a2 b2 c2 d2) (.d r) {} := .pure (.int _ _ _ _ _ rfl hx hy hv)
theorem lb {n m : Nat} (h : Nat.ble n m = true) : n ≤ m := Nat.le_of_ble_eq_true h
theorem T_condD {P : Program} {c : Ctx} {Q : Exit → St → Prop} {α : St} {k : Operand} {x y : Code} {p : Prop} [Decidable p] (hk : α.ev k = .d (.bool (decide p))) (ht : p → T P c x Q α) (hf : ¬p → T P c y Q α) : T P c (.cond k x y) Q α := T_cond hk (fun h => ht (of_decide_eq_true h)) (fun h => hf (of_decide_eq_false h))
theorem T_condN {P : Program} {c : Ctx} {Q : Exit → St → Prop} {α : St} {k : Operand} {x y : Code} {b : Bool} (hk : α.ev k = .d (.bool (!b))) (ht : b = false → T P c x Q α) (hf : b = true → T P c y Q α) : T P c (.cond k x y) Q α := T_cond hk (fun h => ht (nott h)) (fun h => hf (notf h))
theorem a53 {p : Prop} (h : p := by first | assumption | omega) : p := h
theorem a52 {p : Prop} (h : p := by first | rfl | (rw [List.map_set]; done)) : p := h
theorem a51 {p : Prop} (h : p := by first | rfl | (rw [cubesMid_all (by omega)]; done)) : p := h
theorem a50 {p : Prop} (h : p := by first | rfl | omega | (simp; done) | (simp; omega)) : p := h
theorem a49 {p : Prop} (h : p := by rw [List.length_append, List.length_singleton]; omega) : p := h
theorem a48 {p : Prop} (h : p := by exact any_no default (fun j hj => hp0.2 j (by omega))) : p := h
theorem a47 {p : Prop} (h : p := by first | (simp_all [upB]; done) | (simp_all [upB]; omega)) : p := h
theorem a46 {p : Prop} (h : p := by rw [D.solid]; exact solids_c (solid_row (fun _ => rfl) _) rfl) : p := h
theorem a45 {p : Prop} (h : p := by first | (rw [primP]; simp_all; done) | (unfold primP; simp_all; done)) : p := h
theorem a44 {p : Prop} (h : p := by first | rfl | (rw [← cubesMid_succ (by omega), List.map_append]; rfl)) : p := h
theorem a43 {p : Prop} (h : p := by rw [cubeN, cubeS, allB_of (fun j hj => hp0.2 j (by omega))]; simp_all) : p := h
theorem a42 {p : Prop} (h : p := by first | (rw [sumTo_zero]; omega) | (rw [sumTo_succ (by omega)]; omega)) : p := h
theorem a41 {p : Prop} (h : p := by first | (simp_all; done) | (exact decide_eq_false (fun e => h2 e.symm))) : p := h
theorem a40 {p : Prop} (h : p := by rw [D.solid]; exact solids_c rfl (solids_c (solid_row (fun _ => rfl) _) rfl)) : p := h
theorem a39 {p : Prop} (h : p := by first | rfl | (simp_all; done) | (exfalso; omega) | (exfalso; simp_all; omega)) : p := h
theorem a38 {p : Prop} (h : p := by first | omega | (simp only [List.length_map, List.length_set]; omega) | (simp; omega)) : p := h
theorem a37 {p : Prop} (h : p := by first | (rw [marked_zero]; done) | (rw [← marked_set xs k (by omega), List.map_set]; done)) : p := h
theorem a36 {p : Prop} (h : p := by first | rfl | (rw [litTo_succ, litOf, show (xs.getD k default).length = m by omega]; done)) : p := h
theorem a35 {p : Prop} (h : p := by rw [D.solid]; exact solids_c rfl (solids_c rfl (solids_c (solid_row (fun _ => rfl) _) rfl))) : p := h
theorem a34 {p : Prop} (h : p := by first | (simp [List.map_take, List.map_drop]; done) | (rw [List.take_length, List.map_drop]; done)) : p := h
theorem a33 {p : Prop} (h : p := by first | exact (hp0.keep (by omega) (by assumption)).1 | exact (hp0.skip (by omega) (by assumption)).1) : p := h
theorem a32 {p : Prop} (h : p := by first | (rw [onoff_impl, h1, h2, h3]; rfl) | (rw [onoff_impl, h1, h2]; rfl) | (rw [onoff_impl, h1]; rfl)) : p := h
theorem a31 {p : Prop} (h : p := by first | rfl | omega | (rw [cntB_yes (by simp_all [isLit])]; omega) | (rw [cntB_no (by simp_all [isLit])]; done)) : p := h
theorem a30 {p : Prop} (h : p := by first | (rw [fill_zero, List.map_replicate]; done) | (rw [← fill_set xs [] default (by omega), List.map_set]; done)) : p := h
theorem a29 {p : Prop} (h : p := by first | (rw [ixF_all h1]; done) | (rw [take_cut (by simp; omega), ← List.map_take, hp0.done (by omega)]; done) | skip) : p := h
theorem a28 {p : Prop} (h : p := by first | (rw [hasB, allB_no k (by omega) (by simp_all [hasCh])]; done) | (rw [hasB, allB_of (fun j hj => hp0.2 j (by omega))]; done)) : p := h
theorem a27 {p : Prop} (h : p := by first | omega | (simp only [List.length_append, List.length_map, List.length_cons, List.length_nil]; omega) | (simp; omega) | (simp; done)) : p := h
theorem a26 {p : Prop} (h : p := by first | (rw [codeN, allB_no k (by omega) (by simp_all [codeCh])]; rfl) | (rw [codeN, allB_of (fun j hj => hp0.2 j (by omega)), Bool.true_and])) : p := h
theorem a25 {p : Prop} (h : p := by first | (rw [primeB, allB_no k (by omega) (by simp_all [isLit, dashAt])]; done) | (rw [primeB, allB_of (fun j hj => hp0.2 j (by omega))]; done)) : p := h
theorem a24 {p : Prop} (h : p := by first | (rw [heldR, heldB, allB_no m (by omega) (by simp_all)]; rfl) | (rw [heldR, heldB, allB_of (fun j hj => hp0.2 j (by omega)), if_pos rfl]; omega)) : p := h
theorem a23 {p : Prop} (h : p := by first | (rw [minS_no (fun j hj => hp0.2 j (by omega))]; first | done | rfl) | (rw [minS_yes (m := m) (by omega) hp0.2 (by assumption)]; first | done | rfl)) : p := h
theorem a22 {p : Prop} (h : p := by (rw [← put14_new (k := k) (by omega) hp0.2 (fun hl => by first | assumption | (exfalso; omega))]; simp only [List.map_append, List.map_take, List.map_drop]; rfl)) : p := h
theorem a21 {p : Prop} (h : p := by first | rfl | (exact push rfl (ftake_yes (by omega) (by rw [primP]; simp_all))) | (exact congrArg (List.map D.str) (ftake_no (by omega) (by rw [primP]; simp_all)))) : p := h
theorem a20 {p : Prop} (h : p := by first | omega | (simp only [List.length_map, List.length_append, List.length_take, List.length_drop, List.length_cons, List.length_nil]; omega) | (simp; omega) | (simp; done)) : p := h
theorem a19 {p : Prop} (h : p := by first | (rw [codesB, allB_no k (by omega) a47]; done) | (rw [codesB, allB_of (fun j hj => hp0.2 j (by omega))]; done)) : p := h
theorem a18 {p : Prop} (h : p := by first | rfl | (rw [betI_eq]; simp only [*, Int.lt_irrefl, decide_true, decide_false, Bool.not_true, Bool.not_false, Bool.true_or, Bool.false_or, Bool.true_and, Bool.false_and]; done)) : p := h
theorem a17 {p : Prop} (h : p := by first | assumption | omega | (rw [List.length_take]; omega) | (have := bulkF_mem hb _ (getD_mem (d := default) (by omega)); assumption) | (unfold bulkS at *; omega) | (simp_all; done)) : p := h
theorem a16 {p : Prop} (h : p := by first | (rw [codesI, allB_no k (by omega) a47]; rfl) | (rw [codesI, allB_of (fun j hj => hp0.2 j (by omega)), Bool.true_and]; done)) : p := h
theorem a15 {p : Prop} (h : p := by first | (simp_all [cmpS]; done) | (unfold cmpS; simp_all; done) | (have hb := @bl_tri u v; have hi := bl_irr v; cases h3 : Op.bytesLess u v <;> cases h4 : Op.bytesLess v u <;> simp_all [cmpS])) : p := h
theorem a14 {p : Prop} (h : p := by first | rfl | (rw [srF_all huh.2 (by omega : pr.length ≤ e)]; done) | (rw [srF_fin hnil, endS_yes (by assumption)]; first | done | rfl) | (rw [srF_fin hnil, endS_no (by assumption)]; first | done | rfl)) : p := h
theorem a13 {p : Prop} (h : p := by first | (rw [mcvF_no0 (by assumption)]; first | done | rfl) | (rw [mcvF_no (by assumption)]; first | done | rfl) | (rw [mcvF_min (by assumption)]; first | done | rfl) | (rw [mcvF_yes (by assumption)]; first | done | rfl)) : p := h
theorem a12 {p : Prop} (h : p := by first | rfl | (rw [← chTo_yes (pr := pr) (m := m - 1) (on := on) (l := l) (p := p) (k := k) (by omega) (by assumption)]; done) | (rw [← chTo_no (pr := pr) (m := m - 1) (on := on) (l := l) (p := p) (k := k) (by omega) (by assumption)]; done)) : p := h
theorem a11 {p : Prop} (h : p := by first | (simp_all [onoffB]; done) | (simp_all [onoffB]; omega) | (rw [onoffB, allOf, allB_no k (by omega) (by simp_all)]; simp; done) | (rw [onoffB, allOf, allB_of (fun j hj => hp0.2 j (by omega))]; first | (simp_all; done) | (simp_all; omega))) : p := h
theorem a10 {p : Prop} (h : p := by first | (rw [hp0.2.2, cmpL_end1 (by omega) (by omega)]; done) | (rw [hp0.2.2, cmpL_next (by omega) (by omega), if_neg (by omega)]; done) | (rw [hp0.2.2, cmpL_end2 (by omega) (by omega)]; done) | (rw [hp0.2.2, cmpL_end3 (by omega) (by omega)]; done)) : p := h
theorem a9 {p : Prop} (h : p := by first | (rw [minI, decide_eq_false h1]; rfl) | (rw [minI, decide_eq_true h1, if_pos rfl, min_no (fun j hj => hp0.2 j (by omega))]; first | done | rfl) | (rw [minI, decide_eq_true h1, if_pos rfl, min_yes (m := m) (by omega) hp0.2 (by assumption)]; first | done | rfl)) : p := h
theorem a8 {p : Prop} (h : p := by first | omega | assumption | (exact hx _ (getD_mem (by omega))) | (exact hx _ (by assumption)) | (exact Nat.le_trans (hx _ (by assumption)) (by omega)) | (simp only [List.length_append, List.length_take, List.length_drop, List.length_cons, List.length_nil]; omega) | (simp_all; done)) : p := h
theorem a7 {p : Prop} (h : p := by first | (obtain ⟨k0, hk0, hk1, hk2⟩ := ixF_first h1; have e : (ixF p xs).toNat = k0 := (by omega); dsimp only; rw [e, hk2, hk1, List.length_take, Nat.min_eq_left (by omega)]; done) | (have e := (hp0.keep (by omega) (by assumption)).2; dsimp only; omega) | (have e := (hp0.skip (by omega) (by assumption)).2; dsimp only; omega)) : p := h
theorem a6 {p : Prop} (h : p := by first | rfl | (rw [chF_end m (by omega), endI_yes (by omega) (by omega) (by assumption)]; done) | (rw [chF_end m (by omega), endI_no1 (by omega)]; done) | (rw [chF_end m (by omega), endI_no2 (by omega)]; done) | (rw [chF_end m (by omega), endI_no3 (by assumption)]; done) | (rw [chF_z (by omega) (by omega)]; done) | (rw [chF_nx (k := k) (by omega) (by omega) (by omega)]; done)) : p := h
theorem a5 {p : Prop} (h : p := by first | rfl | (exact congrArg (fun x : List (List UInt8) × Bool => [V.d (.hole u), V.row _, V.d (.bool x.2)]) (chTo_yes (pr := pr) (m := m - 1) (on := on) (l := l) (p := p) (k := k) (by omega) (by assumption))) | (exact congrArg (fun x : List (List UInt8) × Bool => [V.d (.hole u), V.row _, V.d (.bool x.2)]) (chTo_no (pr := pr) (m := m - 1) (on := on) (l := l) (p := p) (k := k) (by omega) (by assumption)))) : p := h
theorem a4 {p : Prop} (h : p := by first | rfl | (exact congrArg (fun x : List (List UInt8) × Bool => x.1.map D.str) (srT_zero.symm)) | (exact congrArg (fun x : List (List UInt8) × Bool => x.1.map D.str) (srT_yes (pr := pr) (on := on) (m := m) (t := t) (p := p) (v := e) (by omega) (by omega) huh.1 (by assumption))) | (exact congrArg (fun x : List (List UInt8) × Bool => x.1.map D.str) (srT_no1 (pr := pr) (on := on) (m := m) (t := t) (p := p) (v := e) (by omega))) | (exact congrArg (fun x : List (List UInt8) × Bool => x.1.map D.str) (srT_no2 (pr := pr) (on := on) (m := m) (t := t) (p := p) (v := e) (by omega) huh.1 (by assumption)))) : p := h
theorem a3 {p : Prop} (h : p := by first | (rw [primR, primOk, h1]; rfl) | (rw [primR, primOk, h1, decide_eq_true h2]; rfl) | (rw [primR, primOk, h1, decide_eq_false h2]; rfl) | (rw [primR, primOk, h1, decide_eq_true (show ((primL n.toNat on off).length : Int) ≤ 60 by omega)]; rfl) | (rw [primR, primOk, h1, decide_eq_false (show ¬ ((primL n.toNat on off).length : Int) ≤ 60 by omega)]; rfl) | (rw [primOk, h1]; rfl) | (rw [primOk, h1, decide_eq_true h2]; rfl) | (rw [primOk, h1, decide_eq_false h2]; rfl) | (rw [primOk, h1, decide_eq_true (show ((primL n.toNat on off).length : Int) ≤ 60 by omega)]; rfl) | (rw [primOk, h1, decide_eq_false (show ¬ ((primL n.toNat on off).length : Int) ≤ 60 by omega)]; rfl)) : p := h
theorem a2 {p : Prop} (h : p := by first | rfl | (rw [betB_eq, hp0.2, lexB_end (by omega)]; simp only [*, Int.lt_irrefl, decide_true, decide_false, Bool.not_true, Bool.not_false, Bool.true_or, Bool.false_or, Bool.true_and, Bool.false_and, Bool.or_false, Bool.or_true]; done) | (rw [betB_eq, hp0.2, lexB_next (by omega) (by omega), if_neg (by assumption)]; simp only [*, Int.lt_irrefl, decide_true, decide_false, Bool.not_true, Bool.not_false, Bool.true_or, Bool.false_or, Bool.true_and, Bool.false_and, Bool.or_false, Bool.or_true]; done) | (rw [betB_eq]; simp only [*, Int.lt_irrefl, decide_true, decide_false, Bool.not_true, Bool.not_false, Bool.true_or, Bool.false_or, Bool.true_and, Bool.false_and, Bool.or_false, Bool.or_true]; done)) : p := h
theorem a1 {p : Prop} (h : p := by first | rfl | (exact congrArg (fun x : List (List UInt8) × Bool => [V.d (.hole u), V.d (.hole v), V.row _, V.d (.bool x.2)]) (srT_zero.symm)) | (exact congrArg (fun x : List (List UInt8) × Bool => [V.d (.hole u), V.d (.hole v), V.row _, V.d (.bool x.2)]) (srT_yes (pr := pr) (on := on) (m := m) (t := t) (p := p) (v := e) (by omega) (by omega) huh.1 (by assumption))) | (exact congrArg (fun x : List (List UInt8) × Bool => [V.d (.hole u), V.d (.hole v), V.row _, V.d (.bool x.2)]) (srT_no1 (pr := pr) (on := on) (m := m) (t := t) (p := p) (v := e) (by omega))) | (exact congrArg (fun x : List (List UInt8) × Bool => [V.d (.hole u), V.d (.hole v), V.row _, V.d (.bool x.2)]) (srT_no2 (pr := pr) (on := on) (m := m) (t := t) (p := p) (v := e) (by omega) huh.1 (by assumption)))) : p := h

def withinB (n lo hi : Int) : Bool := decide (lo ≤ n) && decide (n ≤ hi)

theorem sp_impl_within (n lo hi : Int) : Sp Try.prog 19 [(.int .i64 n), (.int .i64 lo), (.int .i64 hi)] [.any, .any, .any] (.bool (withinB n lo hi)) := by
 refine Sp_intro (lend := true) Try.func19 rfl rfl rfl (fun _ => rfl) (fun c hc hX => ?_)
 refine T_seq (T_region hc (Ch.s (.d (.bool false)) pa (Ch.nil (T_seq (T_region hc (Ch.s (.d (.int .i64 lo)) pm (Ch.s (.d (.int .i64 n)) pm ?_)))))))
 refine Ch.s (.d (.bool (decide (lo ≤ n)))) (iX rfl rfl rfl) (Ch.s (.d (.bool (decide (lo ≤ n)))) pm ?_)
 cases h1 : (decide (lo ≤ n)) with
 | true =>
  replace h1 := of_decide_eq_true h1
  refine Ch.s (.d (.int .i64 n)) pm (Ch.s (.d (.int .i64 hi)) pm (Ch.s (.d (.bool (decide (n ≤ hi)))) (iX rfl rfl rfl) (Ch.s (.d (.bool (decide (n ≤ hi)))) (.pure (.pickT _ _ _ rfl rfl rfl)) (Ch.s (.d (.bool (decide (n ≤ hi)))) pa (Ch.nil (T_ret ?_))))))
  exact endR [(.d (.bool (decide (n ≤ hi))))] [] [] (.cons (.tmp 6 rfl) .nil) (.cons (.any _) (.cons (.any _) (.cons (.any _) .nil))) (Exp.of (congrArg D.bool (by simp [withinB] <;> omega)) (.d _)) rfl rfl
 | false =>
  replace h1 := of_decide_eq_false h1
  refine Ch.skip rfl rfl (Ch.skip rfl rfl (Ch.skip rfl rfl (Ch.s (.d (.bool false)) (.pure (.pickF _ _ _ rfl rfl rfl)) (Ch.s (.d (.bool false)) pa (Ch.nil (T_ret ?_))))))
  exact endR [(.d (.bool false))] [] [] (.cons (.tmp 6 rfl) .nil) (.cons (.any _) (.cons (.any _) (.cons (.any _) .nil))) (Exp.of (congrArg D.bool (by simp [withinB] <;> omega)) (.d _)) rfl rfl

theorem sp_spec_l1In (n lo hi : Int) : Sp Try.prog 26 [(.int .i64 n), (.int .i64 lo), (.int .i64 hi)] [.any, .any, .any] (.bool (withinB n lo hi)) := by
 refine Sp_intro (lend := true) Try.func26 rfl rfl rfl (fun _ => rfl) (fun c hc hX => ?_)
 refine T_seq (T_region hc (Ch.s (.d (.bool false)) pa (Ch.nil (T_seq (T_region hc (Ch.s (.d (.int .i64 n)) pm (Ch.s (.d (.int .i64 lo)) pm ?_)))))))
 refine Ch.s (.d (.bool (decide (lo ≤ n)))) (iX rfl rfl rfl) (Ch.s (.d (.bool (decide (lo ≤ n)))) pm ?_)
 cases h1 : (decide (lo ≤ n)) with
 | true =>
  replace h1 := of_decide_eq_true h1
  refine Ch.s (.d (.int .i64 n)) pm (Ch.s (.d (.int .i64 hi)) pm (Ch.s (.d (.bool (decide (n ≤ hi)))) (iX rfl rfl rfl) (Ch.s (.d (.bool (decide (n ≤ hi)))) (.pure (.pickT _ _ _ rfl rfl rfl)) (Ch.s (.d (.bool (decide (n ≤ hi)))) pa (Ch.nil (T_ret ?_))))))
  exact endR [(.d (.bool (decide (n ≤ hi))))] [] [] (.cons (.tmp 6 rfl) .nil) (.cons (.any _) (.cons (.any _) (.cons (.any _) .nil))) (Exp.of (congrArg D.bool (by simp [withinB] <;> omega)) (.d _)) rfl rfl
 | false =>
  replace h1 := of_decide_eq_false h1
  refine Ch.skip rfl rfl (Ch.skip rfl rfl (Ch.skip rfl rfl (Ch.s (.d (.bool false)) (.pure (.pickF _ _ _ rfl rfl rfl)) (Ch.s (.d (.bool false)) pa (Ch.nil (T_ret ?_))))))
  exact endR [(.d (.bool false))] [] [] (.cons (.tmp 6 rfl) .nil) (.cons (.any _) (.cons (.any _) (.cons (.any _) .nil))) (Exp.of (congrArg D.bool (by simp [withinB] <;> omega)) (.d _)) rfl rfl

theorem en19 : Enters Try.prog 19 := ⟨_, Try.func19, by kernel_rfl, rfl⟩

def cubeCh (x : UInt8) : Bool := x == 48 || x == 49 || x == 45

def cubeS (s : List UInt8) : Bool := allB s.length (fun j => cubeCh (s.getD j 0))

def cubeN (s : List UInt8) (n : Int) : Bool := cubeS s && decide ((s.length : Int) = n) && withinB n 1 8

theorem sp_impl_isCube (s : List UInt8) (n : Int) (hs : s.length ≤ 1048576) : Sp Try.prog 54 [(.str s), (.int .i64 n)] [.any, .any] (.bool (cubeN s n)) := by
 refine Sp_intro (lend := true) Try.func54 rfl rfl rfl (fun _ => rfl) (fun c hc hX => ?_)
 refine T_seq (T_region hc (Ch.s (.d (.bool false)) pa (Ch.nil (T_seq (T_seq (T_region hc (Ch.s (.d (.int .i64 0)) pa ?_)))))))
 refine Ch.nil (T_block ?_)
 refine T_loop (ι := Nat) (fun k => { n := 36, sl := [(0, (.d (.str s))), (1, (.d (.int .i64 n))), (5, (.d (.int .i64 (k : Int))))], hp := [], pin := [] }) (fun k => k ≤ s.length ∧ ∀ j, j < k → cubeCh (s.getD j 0) = true) (fun k => s.length - k) ⟨0, ⟨by omega, fun j hj => by omega⟩, (Wk.of rfl rfl (ai rfl (ai rfl (ai (vI a50) trivial))) trivial)⟩ (fun k hp0 => ?_)
 refine T_seq (T_seq (T_region hc (Ch.s (.d (.int .i64 (k : Int))) pm (Ch.s (.d (.str s)) pm (Ch.s (.d (.int .i64 (s.length : Int))) (.pure (.lenStr _ _ rfl Try.underlying9 rfl)) (Ch.s (.d (.bool (decide ((k : Int) < (s.length : Int))))) (iX rfl rfl rfl) (Ch.nil ?_)))))))
 refine T_condD (p := ((k : Int) < (s.length : Int))) rfl (fun h1 => ?_) (fun h1 => ?_)
 ·
  refine T_skip (T_seq (T_block (T_seq (T_region hc (Ch.s (.d (.str s)) pm (Ch.s (.d (.int .i64 (k : Int))) pm (Ch.s (.d (.int .u8 ((s.getD k 0).toNat : Int))) (.pure (.idxStr _ _ _ (k) rfl Try.underlying9 rfl rfl rfl get_strA)) ?_)))))))
  refine Ch.s (.d (.bool (!(decide (((s.getD k 0) : UInt8) = 48))))) (iX rfl rfl (u8_neq ((s.getD k 0) : UInt8) 48 rfl rfl)) (Ch.s (.d (.bool (!(decide (((s.getD k 0) : UInt8) = 48))))) pm ?_)
  cases h2 : (decide (((s.getD k 0) : UInt8) = 48)) with
  | true =>
   replace h2 := of_decide_eq_true h2
   refine Ch.skip rfl rfl (Ch.skip rfl rfl (Ch.skip rfl rfl (Ch.skip rfl rfl (Ch.s (.d (.bool false)) (.pure (.pickF _ _ _ rfl rfl rfl)) (Ch.s (.d (.bool false)) pm (Ch.skip rfl rfl (Ch.skip rfl rfl ?_)))))))
   refine Ch.skip rfl rfl (Ch.skip rfl rfl (Ch.s (.d (.bool false)) (.pure (.pickF _ _ _ rfl rfl rfl)) (Ch.nil ?_)))
   refine T_cond (b := false) rfl (fun h => nomatch h) (fun _ => ?_)
   refine T_skip (T_region hc (Ch.s (.d (.int .i64 (k : Int))) pm (Ch.s (.d (.int .i64 ((k : Int) + 1))) (iX rfl rfl intV_addA) (Ch.s (.d (.int .i64 ((k : Int) + 1))) pa (Ch.nil ?_)))))
   exact nx (k + 1) ⟨by omega, upto_succ hp0.2 (by simp_all [cubeCh])⟩ (Wk.of rfl rfl (ai rfl (ai rfl (ai (vI a50) trivial))) trivial)
  | false =>
   replace h2 := of_decide_eq_false h2
   refine Ch.s (.d (.str s)) pm (Ch.s (.d (.int .i64 (k : Int))) pm (Ch.s (.d (.int .u8 ((s.getD k 0).toNat : Int))) (.pure (.idxStr _ _ _ (k) rfl Try.underlying9 rfl rfl rfl get_strA)) (Ch.s (.d (.bool (!(decide (((s.getD k 0) : UInt8) = 49))))) (iX rfl rfl (u8_neq ((s.getD k 0) : UInt8) 49 rfl rfl)) (Ch.s (.d (.bool (!(decide (((s.getD k 0) : UInt8) = 49))))) (.pure (.pickT _ _ _ rfl rfl rfl)) (Ch.s (.d (.bool (!(decide (((s.getD k 0) : UInt8) = 49))))) pm ?_)))))
   cases h3 : (decide (((s.getD k 0) : UInt8) = 49)) with
   | true =>
    replace h3 := of_decide_eq_true h3
    refine Ch.skip rfl rfl (Ch.skip rfl rfl (Ch.skip rfl rfl (Ch.skip rfl rfl (Ch.s (.d (.bool false)) (.pure (.pickF _ _ _ rfl rfl rfl)) (Ch.nil ?_)))))
    refine T_cond (b := false) rfl (fun h => nomatch h) (fun _ => ?_)
    refine T_skip (T_region hc (Ch.s (.d (.int .i64 (k : Int))) pm (Ch.s (.d (.int .i64 ((k : Int) + 1))) (iX rfl rfl intV_addA) (Ch.s (.d (.int .i64 ((k : Int) + 1))) pa (Ch.nil ?_)))))
    exact nx (k + 1) ⟨by omega, upto_succ hp0.2 (by simp_all [cubeCh])⟩ (Wk.of rfl rfl (ai rfl (ai rfl (ai (vI a50) trivial))) trivial)
   | false =>
    replace h3 := of_decide_eq_false h3
    refine Ch.s (.d (.str s)) pm (Ch.s (.d (.int .i64 (k : Int))) pm (Ch.s (.d (.int .u8 ((s.getD k 0).toNat : Int))) (.pure (.idxStr _ _ _ (k) rfl Try.underlying9 rfl rfl rfl get_strA)) (Ch.s (.d (.bool (!(decide (((s.getD k 0) : UInt8) = 45))))) (iX rfl rfl (u8_neq ((s.getD k 0) : UInt8) 45 rfl rfl)) (Ch.s (.d (.bool (!(decide (((s.getD k 0) : UInt8) = 45))))) (.pure (.pickT _ _ _ rfl rfl rfl)) (Ch.nil ?_)))))
    refine T_condN (b := (decide (((s.getD k 0) : UInt8) = 45))) rfl (fun h4 => ?_) (fun h4 => ?_)
    ·
     replace h4 := of_decide_eq_false h4
     refine T_seq (T_region hc (Ch.s (.d (.bool false)) pa (Ch.nil (T_ret ?_))))
     exact endR [(.d (.bool false))] [] [] (.cons (.tmp 4 rfl) .nil) (.cons (.any _) (.cons (.any _) .nil)) (Exp.of (congrArg D.bool (by rw [cubeN, cubeS, allB_no k (by omega) (by simp_all [cubeCh])]; rfl)) (.d _)) rfl rfl
    ·
     replace h4 := of_decide_eq_true h4
     refine T_skip (T_region hc (Ch.s (.d (.int .i64 (k : Int))) pm (Ch.s (.d (.int .i64 ((k : Int) + 1))) (iX rfl rfl intV_addA) (Ch.s (.d (.int .i64 ((k : Int) + 1))) pa (Ch.nil ?_)))))
     exact nx (k + 1) ⟨by omega, upto_succ hp0.2 (by simp_all [cubeCh])⟩ (Wk.of rfl rfl (ai rfl (ai rfl (ai (vI a50) trivial))) trivial)
 ·
  refine T_exit (T_seq (T_region hc (Ch.s (.d (.str s)) pm (Ch.s (.d (.int .i64 (s.length : Int))) (.pure (.lenStr _ _ rfl Try.underlying9 rfl)) (Ch.s (.d (.int .i64 n)) pm (Ch.s (.d (.bool (decide ((s.length : Int) = n)))) (iX rfl rfl rfl) (Ch.s (.d (.bool (decide ((s.length : Int) = n)))) pm ?_)))))))
  cases h5 : (decide ((s.length : Int) = n)) with
  | true =>
   replace h5 := of_decide_eq_true h5
   refine Ch.s (.d (.int .i64 n)) pm (Ch.s (.d (.bool (withinB n 1 8))) (.call 34000 19 _ _ _ en19 rfl (.inl rfl) (.cons (.d _) (.cons (.d _) (.cons (.d _) .nil))) rfl rfl (sp_impl_within n 1 8) (.skip _ _ (.skip _ _ (.skip _ _ .nil))) rfl) (Ch.s (.d (.bool (withinB n 1 8))) (.pure (.pickT _ _ _ rfl rfl rfl)) (Ch.s (.d (.bool (withinB n 1 8))) pa (Ch.nil (T_ret ?_)))))
   exact endR [(.d (.bool (withinB n 1 8)))] [] [] (.cons (.tmp 4 rfl) .nil) (.cons (.any _) (.cons (.any _) .nil)) (Exp.of (congrArg D.bool a43) (.d _)) rfl rfl
  | false =>
   replace h5 := of_decide_eq_false h5
   refine Ch.skip rfl rfl (Ch.skip rfl rfl (Ch.s (.d (.bool false)) (.pure (.pickF _ _ _ rfl rfl rfl)) (Ch.s (.d (.bool false)) pa (Ch.nil (T_ret ?_)))))
   exact endR [(.d (.bool false))] [] [] (.cons (.tmp 4 rfl) .nil) (.cons (.any _) (.cons (.any _) .nil)) (Exp.of (congrArg D.bool a43) (.d _)) rfl rfl

def meetOf (x y : UInt8) : UInt8 := if x = y ∨ y = 45 then x else y

def meetS (a b : List UInt8) (k : Nat) : List UInt8 := tab k fun j => meetOf (a.getD j 0) (b.getD j 0)

@[simp] theorem meetS_length (a b : List UInt8) (k : Nat) : (meetS a b k).length = k := by simp [meetS]

theorem sz9 : SizeIs Try.prog 9 1 := by unfold SizeIs; kernel_rfl

theorem ag9 : AggIs Try.prog 9 false := by unfold AggIs; kernel_rfl

theorem zr9 : (Try.prog.info? 9).bind (·.zero) = some (.string .empty) := by kernel_rfl

theorem zer9 : ∃ i z, Try.prog.info? 9 = some i ∧ i.zero = some z ∧ z.cells = List.toArray [.string .empty] := zero_mk zr9 rfl

theorem sty22 : SlotTy Try.prog 22 9 1 16 := slotTy_mk (by kernel_rfl)

theorem en37 : Enters Try.prog 37 := ⟨_, Try.func37, by kernel_rfl, rfl⟩

theorem sp_laws_szStringS (xs : List (List UInt8)) (left : Int) (h0 : 0 ≤ left) (h0u : left ≤ 1048576) (hn : xs.length ≤ 9223372036854775807) (hx : ∀ x ∈ xs, x.length ≤ 9223372036854775807) : Sp Try.prog 4 [(.slice false 1 (xs.map D.str)), (.int .i64 left)] [.any, .any] (.int .i64 (szS xs left)) := by
 refine Sp_intro (lend := true) Try.func4 rfl rfl rfl (fun _ => rfl) (fun c hc hX => ?_)
 refine T_seq (T_region hc (Ch.s (.d (.int .i64 0)) pa (Ch.nil (T_seq (T_region hc (Ch.s (.d (.int .i64 left)) pm (Ch.s (.d (.slice false 1 (xs.map D.str))) pm ?_)))))))
 refine Ch.s (.d (.int .i64 (xs.length : Int))) (.pure (.len _ _ 9 rfl Try.underlying22 (.sh _ _) (by simp))) (Ch.s (.d (.int .i64 (left - (xs.length : Int)))) (iX rfl rfl intV_subA) (Ch.s (.d (.int .i64 (left - (xs.length : Int)))) pa (Ch.nil (T_seq (T_seq (T_region hc (Ch.s (.d (.int .i64 (left - (xs.length : Int)))) pm ?_)))))))
 refine Ch.s (.d (.bool (decide ((left - (xs.length : Int)) < 0)))) (iX rfl rfl rfl) (Ch.nil ?_)
 refine T_condD (p := ((left - (xs.length : Int)) < 0)) rfl (fun h1 => ?_) (fun h1 => ?_)
 ·
  refine T_seq (T_region hc (Ch.s (.d (.int .i64 (-1))) pa (Ch.nil (T_ret ?_))))
  exact endR [(.d (.int .i64 (-1)))] [] [] (.cons (.tmp 4 rfl) .nil) (.cons (.any _) (.cons (.any _) .nil)) (Exp.of (congrArg (D.int .i64) (by rw [szS, if_neg (by unfold bulkS; omega)])) (.d _)) rfl rfl
 ·
  refine T_skip (T_seq (T_seq (T_region hc (Ch.s (.d (.int .i64 0)) pa (Ch.nil (T_block ?_))))))
  refine T_loop (ι := Nat) (fun k => { n := 28, sl := [(0, (.d (.slice false 1 (xs.map D.str)))), (1, (.d (.int .i64 (left - xs.length - sumTo xs k)))), (5, (.d (.int .i64 (k : Int))))], hp := [], pin := [] }) (fun k => k ≤ xs.length ∧ 0 ≤ left - xs.length - sumTo xs k) (fun k => xs.length - k) ⟨0, ⟨by omega, by rw [sumTo_zero]; omega⟩, (Wk.of rfl rfl (ai rfl (ai (vI a42) (ai (vI a50) trivial))) trivial)⟩ (fun k hp0 => ?_)
  refine T_seq (T_seq (T_region hc (Ch.s (.d (.int .i64 (k : Int))) pm (Ch.s (.d (.slice false 1 (xs.map D.str))) pm (Ch.s (.d (.int .i64 (xs.length : Int))) (.pure (.len _ _ 9 rfl Try.underlying22 (.sh _ _) (by simp))) (Ch.s (.d (.bool (decide ((k : Int) < (xs.length : Int))))) (iX rfl rfl rfl) (Ch.nil ?_)))))))
  refine T_condD (p := ((k : Int) < (xs.length : Int))) rfl (fun h2 => ?_) (fun h2 => ?_)
  ·
   try have hk := hx _ (getD_mem (l := xs) (j := k) (d := default) (by omega))
   refine T_skip (T_seq (T_block (T_seq (T_region hc (Ch.s (.d (.int .i64 (left - xs.length - sumTo xs k))) pm (Ch.s (.d (.slice false 1 (xs.map D.str))) pm (Ch.s (.d (.int .i64 (k : Int))) pm ?_)))))))
   refine Ch.s (.d (.ref (.str (xs.getD k default)))) (.pure (.idx _ _ _ 9 (k) rfl Try.underlying22 sz9 rfl rfl rfl get_mapA)) (Ch.s (.d (.str (xs.getD k default))) (.pure (.loadRef1 _ _ rfl ag9 rfl rfl)) (Ch.s (.d (.int .i64 ((xs.getD k default).length : Int))) (.pure (.lenStr _ _ rfl Try.underlying9 rfl)) (Ch.s (.d (.int .i64 ((left - xs.length - sumTo xs k) - ((xs.getD k default).length : Int)))) (iX rfl rfl intV_subA) (Ch.s (.d (.int .i64 ((left - xs.length - sumTo xs k) - ((xs.getD k default).length : Int)))) pa (Ch.nil (T_seq (T_region hc ?_)))))))
   refine Ch.s (.d (.int .i64 ((left - xs.length - sumTo xs k) - ((xs.getD k default).length : Int)))) pm (Ch.s (.d (.bool (decide (((left - xs.length - sumTo xs k) - ((xs.getD k default).length : Int)) < 0)))) (iX rfl rfl rfl) (Ch.nil ?_))
   refine T_condD (p := (((left - xs.length - sumTo xs k) - ((xs.getD k default).length : Int)) < 0)) rfl (fun h3 => ?_) (fun h3 => ?_)
   ·
    refine T_seq (T_region hc (Ch.s (.d (.int .i64 (-1))) pa (Ch.nil (T_ret ?_))))
    exact endR [(.d (.int .i64 (-1)))] [] [] (.cons (.tmp 4 rfl) .nil) (.cons (.any _) (.cons (.any _) .nil)) (Exp.of (congrArg (D.int .i64) (by rw [szS, if_neg (by have h4 := sumTo_le xs (k + 1); rw [sumTo_succ (by omega)] at h4; unfold bulkS; omega)])) (.d _)) rfl rfl
   ·
    refine T_skip (T_region hc (Ch.s (.d (.int .i64 (k : Int))) pm (Ch.s (.d (.int .i64 ((k : Int) + 1))) (iX rfl rfl intV_addA) (Ch.s (.d (.int .i64 ((k : Int) + 1))) pa (Ch.nil ?_)))))
    exact nx (k + 1) ⟨by omega, by rw [sumTo_succ (by omega)]; omega⟩ (Wk.of rfl rfl (ai rfl (ai (vI a42) (ai (vI a50) trivial))) trivial)
  ·
   try have hk := hx _ (getD_mem (l := xs) (j := k) (d := default) (by omega))
   refine T_exit (T_seq (T_region hc (Ch.s (.d (.int .i64 (left - xs.length - sumTo xs k))) pm (Ch.s (.d (.int .i64 (left - xs.length - sumTo xs k))) pa (Ch.nil (T_ret ?_))))))
   exact endR [(.d (.int .i64 (left - xs.length - sumTo xs k)))] [] [] (.cons (.tmp 4 rfl) .nil) (.cons (.any _) (.cons (.any _) .nil)) (Exp.of (congrArg (D.int .i64) (by have h4 := sumTo_all (xs := xs) (k := k) (by omega); rw [szS, if_pos (by unfold bulkS; omega)]; unfold bulkS; omega)) (.d _)) rfl rfl

theorem sp_laws_toStringS (xs : List (List UInt8)) (hn : xs.length ≤ 1048576) : Sp Try.prog 6 [(.slice false 1 (xs.map D.str))] [.any] (.slice true 1 (xs.map D.str)) := by
 refine Sp_intro (lend := true) Try.func6 rfl rfl rfl (fun _ => rfl) (fun c hc hX => ?_)
 refine T_seq (T_region hc (Ch.s (.c (.slice none 0 0)) pa (Ch.nil (T_seq (T_region hc (Ch.s (.d (.slice false 1 (xs.map D.str))) pm (Ch.s (.d (.int .i64 (xs.length : Int))) (.pure (.len _ _ 9 rfl Try.underlying22 (.sh _ _) (by simp))) ?_)))))))
 refine Ch.s (.row 7000) (.make 7000 _ 9 _ _ (xs.length) (xs.length) rfl sty22 rfl rfl rfl rfl a20 a20 a20 (zeroD_mk (zd := (.str [])) zr9 (by intro S w; rw [DR]; exact ⟨rfl, rfl⟩) rfl)) (Ch.s (.row 7000) pa (Ch.nil (T_seq (T_seq (T_region hc (Ch.s (.d (.int .i64 0)) pa (Ch.nil ?_)))))))
 refine T_block ?_
 refine T_loop (ι := Nat) (fun k => { n := 22, sl := [(0, (.d (.slice false 1 (xs.map D.str)))), (3, (.row 3)), (4, (.d (.int .i64 (k : Int))))], hp := [(3, (some (.row 1 ((fill xs [] k).map D.str))))], pin := [] }) (fun k => k ≤ xs.length) (fun k => xs.length - k) ⟨0, (by omega), (Wk.ren [(3, 7000)] rfl rfl rfl rfl (ai rfl (ai rfl (ai (vI a50) trivial))) (ai (oR a30) trivial))⟩ (fun k hp0 => ?_)
 refine T_seq (T_seq (T_region hc (Ch.s (.d (.int .i64 (k : Int))) pm (Ch.s (.d (.slice false 1 (xs.map D.str))) pm (Ch.s (.d (.int .i64 (xs.length : Int))) (.pure (.len _ _ 9 rfl Try.underlying22 (.sh _ _) (by simp))) (Ch.s (.d (.bool (decide ((k : Int) < (xs.length : Int))))) (iX rfl rfl rfl) (Ch.nil ?_)))))))
 refine T_condD (p := ((k : Int) < (xs.length : Int))) rfl (fun h1 => ?_) (fun h1 => ?_)
 ·
  refine T_skip (T_seq (T_block (T_region hc (Ch.s (.row 3) pm (Ch.s (.d (.int .i64 (k : Int))) pm (Ch.s (.d (.slice false 1 (xs.map D.str))) pm (Ch.s (.d (.int .i64 (k : Int))) pm ?_)))))))
  refine Ch.s (.d (.ref (.str (xs.getD k default)))) (.pure (.idx _ _ _ 9 (k) rfl Try.underlying22 sz9 rfl rfl rfl get_mapA)) (Ch.s (.d (.str (xs.getD k default))) (.pure (.loadRef1 _ _ rfl ag9 rfl rfl)) (Ch.s (.el 3 1 k 0) (.pure (.idxRow _ _ _ 9 (k) rfl Try.underlying22 sz9 rfl rfl rfl rfl a38)) (Ch.s .junk (.storeEl (y' := (.str (xs.getD k default))) _ _ _ rfl rfl rfl (.d _) rfl sz9 rfl get_mapA rfl rfl) (Ch.nil (T_region hc (Ch.s (.d (.int .i64 (k : Int))) pm (Ch.s (.d (.int .i64 ((k : Int) + 1))) (iX rfl rfl intV_addA) ?_)))))))
  refine Ch.s (.d (.int .i64 ((k : Int) + 1))) pa (Ch.nil ?_)
  exact nx (k + 1) (by omega) (Wk.of rfl rfl (ai rfl (ai rfl (ai (vI a50) trivial))) (ai (oR a30) trivial))
 ·
  refine T_exit (T_seq (T_region hc (Ch.s (.row 3) pm (Ch.s (.row 3) pa (Ch.nil (T_ret ?_))))))
  exact endR [(.row 3)] [] [3] (.cons (.tmp 2 rfl) .nil) (.cons (.any _) .nil) (Exp.of (congrArg (D.slice true 1) (by rw [fill_all xs [] (by omega)])) (.row rfl)) rfl rfl

theorem sp_laws_eqStringS (xs ys : List (List UInt8)) (hn : xs.length ≤ 1048576) : Sp Try.prog 8 [(.slice false 1 (xs.map D.str)), (.slice false 1 (ys.map D.str))] [.any, .any] (.bool (decide (xs = ys))) := by
 refine Sp_intro (lend := true) Try.func8 rfl rfl rfl (fun _ => rfl) (fun c hc hX => ?_)
 refine T_seq (T_region hc (Ch.s (.d (.bool false)) pa (Ch.nil (T_seq (T_seq (T_region hc (Ch.s (.d (.slice false 1 (xs.map D.str))) pm ?_)))))))
 refine Ch.s (.d (.int .i64 (xs.length : Int))) (.pure (.len _ _ 9 rfl Try.underlying22 (.sh _ _) (by simp))) (Ch.s (.d (.slice false 1 (ys.map D.str))) pm (Ch.s (.d (.int .i64 (ys.length : Int))) (.pure (.len _ _ 9 rfl Try.underlying22 (.sh _ _) (by simp))) (Ch.s (.d (.bool (!(decide ((xs.length : Int) = (ys.length : Int)))))) (iX rfl rfl rfl) (Ch.nil ?_))))
 refine T_condN (b := (decide ((xs.length : Int) = (ys.length : Int)))) rfl (fun h1 => ?_) (fun h1 => ?_)
 ·
  replace h1 := of_decide_eq_false h1
  refine T_seq (T_region hc (Ch.s (.d (.bool false)) pa (Ch.nil (T_ret ?_))))
  exact endR [(.d (.bool false))] [] [] (.cons (.tmp 4 rfl) .nil) (.cons (.any _) (.cons (.any _) .nil)) (Exp.of (congrArg D.bool (by exact eqL_len (by omega))) (.d _)) rfl rfl
 ·
  replace h1 := of_decide_eq_true h1
  refine T_skip (T_seq (T_seq (T_region hc (Ch.s (.d (.int .i64 0)) pa (Ch.nil (T_block ?_))))))
  refine T_loop (ι := Nat) (fun k => { n := 26, sl := [(0, (.d (.slice false 1 (xs.map D.str)))), (1, (.d (.slice false 1 (ys.map D.str)))), (5, (.d (.int .i64 (k : Int))))], hp := [], pin := [] }) (fun k => k ≤ xs.length ∧ ∀ j, j < k → xs.getD j default = ys.getD j default) (fun k => xs.length - k) ⟨0, ⟨by omega, fun j hj => by omega⟩, (Wk.of rfl rfl (ai rfl (ai rfl (ai (vI a50) trivial))) trivial)⟩ (fun k hp0 => ?_)
  refine T_seq (T_seq (T_region hc (Ch.s (.d (.int .i64 (k : Int))) pm (Ch.s (.d (.slice false 1 (xs.map D.str))) pm (Ch.s (.d (.int .i64 (xs.length : Int))) (.pure (.len _ _ 9 rfl Try.underlying22 (.sh _ _) (by simp))) (Ch.s (.d (.bool (decide ((k : Int) < (xs.length : Int))))) (iX rfl rfl rfl) (Ch.nil ?_)))))))
  refine T_condD (p := ((k : Int) < (xs.length : Int))) rfl (fun h2 => ?_) (fun h2 => ?_)
  ·
   refine T_skip (T_seq (T_block (T_seq ?_)))
   refine T_regionD hc (by kernel_rfl) ?_
   refine ChD.s (.d (.slice false 1 (xs.map D.str))) [] pm (ChD.s (.d (.int .i64 (k : Int))) [] pm (ChD.s (.d (.ref (.str (xs.getD k default)))) [] (.pure (.idx _ _ _ 9 (k) rfl Try.underlying22 sz9 rfl rfl rfl get_mapA)) (ChD.s (.d (.str (xs.getD k default))) [] (.pure (.loadRef1 _ _ rfl ag9 rfl rfl)) (ChD.s (.d (.slice false 1 (ys.map D.str))) [] pm (ChD.s (.d (.int .i64 (k : Int))) [] pm (ChD.s (.d (.ref (.str (ys.getD k default)))) [] (.pure (.idx _ _ _ 9 (k) rfl Try.underlying22 sz9 rfl rfl rfl get_mapA)) (ChD.s (.d (.str (ys.getD k default))) [] (.pure (.loadRef1 _ _ rfl ag9 rfl rfl)) ?_)))))))
   refine ChD.s (.d (.bool (!(decide ((xs.getD k default) = (ys.getD k default)))))) [] (.pure (.str _ _ _ _ _ rfl rfl rfl rfl)) ?_
   refine ChD.nil (And.intro ?_ (by kernel_rfl))
   refine T_condN (b := (decide ((xs.getD k default) = (ys.getD k default)))) rfl (fun h3 => ?_) (fun h3 => ?_)
   ·
    replace h3 := of_decide_eq_false h3
    refine T_seq (T_region hc (Ch.s (.d (.bool false)) pa (Ch.nil (T_ret ?_))))
    exact endR [(.d (.bool false))] [] [] (.cons (.tmp 4 rfl) .nil) (.cons (.any _) (.cons (.any _) .nil)) (Exp.of (congrArg D.bool (by exact eqL_at default k (by assumption))) (.d _)) rfl rfl
   ·
    replace h3 := of_decide_eq_true h3
    refine T_skip (T_region hc (Ch.s (.d (.int .i64 (k : Int))) pm (Ch.s (.d (.int .i64 ((k : Int) + 1))) (iX rfl rfl intV_addA) (Ch.s (.d (.int .i64 ((k : Int) + 1))) pa (Ch.nil ?_)))))
    exact nx (k + 1) ⟨by omega, upto_succ hp0.2 (by assumption)⟩ (Wk.of rfl rfl (ai rfl (ai rfl (ai (vI a50) trivial))) trivial)
  ·
   refine T_exit (T_seq (T_region hc (Ch.s (.d (.bool true)) pa (Ch.nil (T_ret ?_)))))
   exact endR [(.d (.bool true))] [] [] (.cons (.tmp 4 rfl) .nil) (.cons (.any _) (.cons (.any _) .nil)) (Exp.of (congrArg D.bool (by exact eqL_all default (by omega) (fun j hj => hp0.2 j (by omega)))) (.d _)) rfl rfl

theorem sp_IndexFunc_str (xs : List (List UInt8)) (f : FuncId) (caps : List D) (p : List UInt8 → Bool) (hf : Enters Try.prog f) (hp : ∀ x ∈ xs, Sp Try.prog f (D.str x :: caps) (.any :: anys caps) (.bool (p x))) (hn : xs.length ≤ 1048576) : Sp Try.prog 37 [(.slice false 1 (xs.map D.str)), (.fn f caps)] [.any, .any] (.int .i64 (ixF p xs)) := by
 refine Sp_intro (lend := true) Try.func37 rfl rfl rfl (fun _ => rfl) (fun c hc hX => ?_)
 refine T_seq (T_region hc (Ch.s (.d (.int .i64 0)) pa (Ch.nil (T_seq (T_seq (T_region hc (Ch.s (.d (.slice false 1 (xs.map D.str))) pm ?_)))))))
 refine Ch.s (.d (.int .i64 (xs.length : Int))) (.pure (.len _ _ 9 rfl Try.underlying22 (.sh _ _) (by simp))) (Ch.s (.d (.int .i64 0)) pm (Ch.nil (T_block ?_)))
 refine T_loop (ι := Nat) (fun k => { n := 19, sl := [(0, (.d (.slice false 1 (xs.map D.str)))), (1, (.d (.fn f caps))), (7, (.d (.int .i64 (xs.length : Int)))), (8, (.d (.int .i64 (k : Int))))], hp := [], pin := [] }) (fun k => k ≤ xs.length ∧ ∀ j, j < k → p (xs.getD j default) = false) (fun k => xs.length - k) ⟨0, ⟨by omega, fun j hj => by omega⟩, (Wk.of rfl rfl (ai rfl (ai rfl (ai rfl (ai (vI a50) trivial)))) trivial)⟩ (fun k hp0 => ?_)
 refine T_seq (T_region hc (Ch.s (.d (.bool (decide ((k : Int) < (xs.length : Int))))) (iX rfl rfl rfl) (Ch.nil (T_seq ?_))))
 refine T_condD (p := ((k : Int) < (xs.length : Int))) rfl (fun h1 => ?_) (fun h1 => ?_)
 ·
  refine T_skip (T_seq (T_block (T_seq (T_region hc (Ch.s (.d (.int .i64 (k : Int))) pm (Ch.s (.d (.int .i64 (k : Int))) pa (Ch.nil ?_)))))))
  refine T_seq (T_region hc (Ch.s (.d (.fn f caps)) pm (Ch.s (.d (.slice false 1 (xs.map D.str))) pm (Ch.s (.d (.int .i64 (k : Int))) pm (Ch.s (.d (.ref (.str (xs.getD k default)))) (.pure (.idx _ _ _ 9 (k) rfl Try.underlying22 sz9 rfl rfl rfl get_mapA)) (Ch.s (.d (.str (xs.getD k default))) (.pure (.loadRef1 _ _ rfl ag9 rfl rfl)) ?_))))))
  refine Ch.step (v := (.d (.bool (p (xs.getD k default))))) rfl (.callS 16000 f _ #[.tmp 15] _ hf rfl (.inr ⟨caps, rfl, rfl⟩) (.cons (.d _) (exps_ds caps)) rfl (hp _ (getD_mem (by omega))) (.skip _ _ (back_anys caps)) rfl) rfl rfl ?_
  refine Ch.nil ?_
  refine T_cond (b := (p (xs.getD k default))) rfl (fun h2 => ?_) (fun h2 => ?_)
  ·
   refine T_seq (T_region hc (Ch.s (.d (.int .i64 (k : Int))) pm (Ch.s (.d (.int .i64 (k : Int))) pa (Ch.nil (T_ret ?_)))))
   exact endR [(.d (.int .i64 (k : Int)))] [] [] (.cons (.tmp 4 rfl) .nil) (.cons (.any _) (.cons (.any _) .nil)) (Exp.of (congrArg (D.int .i64) (by exact (ixF_some (by omega) hp0.2 (by assumption)).symm)) (.d _)) rfl rfl
  ·
   refine T_skip (T_region hc (Ch.s (.d (.int .i64 ((k : Int) + 1))) (iX rfl rfl intV_addA) (Ch.s (.d (.int .i64 ((k : Int) + 1))) pm (Ch.nil ?_))))
   exact nx (k + 1) ⟨by omega, upto_succ hp0.2 (by assumption)⟩ (Wk.of rfl rfl (ai rfl (ai rfl (ai rfl (ai (vI a50) trivial)))) trivial)
 ·
  refine T_exit (T_seq (T_region hc (Ch.s (.d (.int .i64 (-1))) pa (Ch.nil (T_ret ?_)))))
  exact endR [(.d (.int .i64 (-1)))] [] [] (.cons (.tmp 4 rfl) .nil) (.cons (.any _) (.cons (.any _) .nil)) (Exp.of (congrArg (D.int .i64) (by exact (ixF_none (fun j hj => hp0.2 j (by omega))).symm)) (.d _)) rfl rfl

theorem sp_ContainsFunc_str (xs : List (List UInt8)) (f : FuncId) (caps : List D) (p : List UInt8 → Bool) (hf : Enters Try.prog f) (hp : ∀ x ∈ xs, Sp Try.prog f (D.str x :: caps) (.any :: anys caps) (.bool (p x))) (hn : xs.length ≤ 1048576) : Sp Try.prog 21 [(.slice false 1 (xs.map D.str)), (.fn f caps)] [.any, .any] (.bool (xs.any p)) := by
 refine Sp_intro (lend := true) Try.func21 rfl rfl rfl (fun _ => rfl) (fun c hc hX => ?_)
 refine T_seq (T_region hc (Ch.s (.d (.bool false)) pa (Ch.nil (T_seq (T_region hc (Ch.s (.d (.slice false 1 (xs.map D.str))) pm (Ch.s (.d (.fn f caps)) pm ?_)))))))
 refine Ch.s (.d (.int .i64 (ixF p xs))) (.call 7000 37 _ _ _ en37 rfl (.inl rfl) (.cons (.d _) (.cons (.d _) .nil)) rfl rfl (sp_IndexFunc_str xs f caps p hf hp a8) (.skip _ _ (.skip _ _ .nil)) rfl) (Ch.s (.d (.bool (decide (0 ≤ (ixF p xs))))) (iX rfl rfl rfl) (Ch.s (.d (.bool (decide (0 ≤ (ixF p xs))))) pa (Ch.nil (T_ret ?_))))
 exact endR [(.d (.bool (decide (0 ≤ (ixF p xs)))))] [] [] (.cons (.tmp 4 rfl) .nil) (.cons (.any _) (.cons (.any _) .nil)) (Exp.of (congrArg D.bool (by exact ixF_nonneg p xs)) (.d _)) rfl rfl

def allOf {τ : Type} [Inhabited τ] (xs : List τ) (q : τ → Bool) : Bool := allB xs.length fun j => q (xs.getD j default)

theorem any_not {τ : Type} [Inhabited τ] (xs : List τ) (q : τ → Bool) : xs.any (fun c => !q c) = !allOf xs q := by
 cases h : allOf xs q with
 | true =>
  rw [Bool.not_true, List.any_eq_false]
  intro x hx
  obtain ⟨j, hj, rfl⟩ := List.mem_iff_getElem.1 hx
  have := allB_true.1 h j hj
  simp [hj] at this
  simp [this]
 | false =>
  rw [Bool.not_false, List.any_eq_true]
  apply Classical.byContradiction
  intro hno
  have : allOf xs q = true := allB_of fun j hj => by
   cases hq : q (xs.getD j default) with
   | true => rfl
   | false => exact absurd ⟨_, getD_mem hj, by rw [hq]; rfl⟩ hno
  rw [h] at this; cases this

def isLit (u : List UInt8) (j : Nat) : Bool := u.getD j 0 != 45

def litOf (u : List UInt8) : Nat := cntB u.length (isLit u)

def litTo (xs : List (List UInt8)) (k : Nat) : Nat := sumN k fun j => litOf (xs.getD j default)

def lits (xs : List (List UInt8)) : Nat := litTo xs xs.length

theorem litOf_le (u : List UInt8) : litOf u ≤ u.length := cntB_le _ _

theorem litTo_le (xs : List (List UInt8)) : ∀ k, k ≤ xs.length → litTo xs k ≤ sumTo xs k
 | 0, _ => by simp [litTo]
 | k + 1, h => by
  have h1 := litTo_le xs k (by omega)
  have h2 := litOf_le (xs.getD k default)
  rw [sumTo_succ (by omega)]
  unfold litTo at h1 ⊢
  rw [sumN_succ]; omega

theorem litTo_succ (xs : List (List UInt8)) (k : Nat) : litTo xs (k + 1) = litTo xs k + litOf (xs.getD k default) := sumN_succ _ _

theorem sp_spec_l14Literals (xs : List (List UInt8)) (hb : bulkS xs ≤ 1048576) : Sp Try.prog 53 [(.slice false 1 (xs.map D.str))] [.any] (.int .i64 (lits xs : Int)) := by
 refine Sp_intro (lend := true) Try.func53 rfl rfl rfl (fun _ => rfl) (fun c hc hX => ?_)
 have hb2 : (xs.map List.length).sum ≤ 1048576 := by (unfold bulkS at hb; omega)
 have hb3 := bulk_len hb
 refine T_seq (T_region hc (Ch.s (.d (.int .i64 0)) pa (Ch.nil (T_seq (T_region hc (Ch.s (.d (.int .i64 0)) pa (Ch.nil ?_)))))))
 refine T_seq (T_seq (T_region hc (Ch.s (.d (.slice false 1 (xs.map D.str))) pm (Ch.s (.d (.int .i64 (xs.length : Int))) (.pure (.len _ _ 9 rfl Try.underlying22 (.sh _ _) (by simp))) (Ch.s (.d (.int .i64 0)) pm (Ch.nil (T_block ?_)))))))
 refine T_loop (ι := Nat) (fun k => { n := 27, sl := [(3, (.d (.int .i64 (litTo xs k : Int)))), (7, (.d (.slice false 1 (xs.map D.str)))), (8, (.d (.int .i64 (xs.length : Int)))), (9, (.d (.int .i64 (k : Int))))], hp := [], pin := [] }) (fun k => k ≤ xs.length) (fun k => xs.length - k) ⟨0, (by omega), (Wk.of rfl rfl (ai (vI a36) (ai rfl (ai rfl (ai (vI a50) trivial)))) trivial)⟩ (fun k hp0 => ?_)
 have hs1 := sumTo_le xs k; have hs2 := litTo_le xs k hp0
 refine T_seq (T_region hc (Ch.s (.d (.bool (decide ((k : Int) < (xs.length : Int))))) (iX rfl rfl rfl) (Ch.nil (T_seq ?_))))
 refine T_condD (p := ((k : Int) < (xs.length : Int))) rfl (fun h1 => ?_) (fun h1 => ?_)
 ·
  refine T_skip (T_seq (T_block (T_seq (T_region hc (Ch.s (.d (.ref (.str (xs.getD k default)))) (.pure (.idx _ _ _ 9 (k) rfl Try.underlying22 sz9 rfl rfl rfl get_mapA)) (Ch.s (.d (.str (xs.getD k default))) (.pure (.loadRef1 _ _ rfl ag9 rfl rfl)) (Ch.s (.d (.str (xs.getD k default))) pa ?_)))))))
  refine Ch.nil (T_seq (T_region hc (Ch.s (.d (.int .i64 0)) pa (Ch.nil (T_block ?_)))))
  refine T_loop (ι := Nat) (fun m => { n := 27, sl := [(3, (.d (.int .i64 ((litTo xs k + cntB m (isLit (xs.getD k default)) : Nat) : Int)))), (5, (.d (.str (xs.getD k default)))), (6, (.d (.int .i64 (m : Int)))), (7, (.d (.slice false 1 (xs.map D.str)))), (8, (.d (.int .i64 (xs.length : Int)))), (9, (.d (.int .i64 (k : Int))))], hp := [], pin := [] }) (fun m => m ≤ (xs.getD k default).length) (fun m => (xs.getD k default).length - m) ⟨0, (by omega), (Wk.of rfl rfl (ai (vI a31) (ai rfl (ai (vI a50) (ai rfl (ai rfl (ai rfl trivial)))))) trivial)⟩ (fun m hp1 => ?_)
  have hs3 := cntB_le m (isLit (xs.getD k default)); have hs4 := bulk_mem hb _ (getD_mem (l := xs) (j := k) (d := default) (by omega))
  refine T_seq (T_seq (T_region hc (Ch.s (.d (.int .i64 (m : Int))) pm (Ch.s (.d (.str (xs.getD k default))) pm (Ch.s (.d (.int .i64 ((xs.getD k default).length : Int))) (.pure (.lenStr _ _ rfl Try.underlying9 rfl)) (Ch.s (.d (.bool (decide ((m : Int) < ((xs.getD k default).length : Int))))) (iX rfl rfl rfl) (Ch.nil ?_)))))))
  refine T_condD (p := ((m : Int) < ((xs.getD k default).length : Int))) rfl (fun h2 => ?_) (fun h2 => ?_)
  ·
   refine T_skip (T_seq (T_block (T_seq (T_region hc (Ch.s (.d (.str (xs.getD k default))) pm (Ch.s (.d (.int .i64 (m : Int))) pm (Ch.s (.d (.int .u8 (((xs.getD k default).getD m 0).toNat : Int))) (.pure (.idxStr _ _ _ (m) rfl Try.underlying9 rfl rfl rfl get_strA)) ?_)))))))
   refine Ch.s (.d (.bool (!(decide ((((xs.getD k default).getD m 0) : UInt8) = 45))))) (iX rfl rfl (u8_neq (((xs.getD k default).getD m 0) : UInt8) 45 rfl rfl)) (Ch.nil ?_)
   refine T_condN (b := (decide ((((xs.getD k default).getD m 0) : UInt8) = 45))) rfl (fun h3 => ?_) (fun h3 => ?_)
   ·
    replace h3 := of_decide_eq_false h3
    refine T_region hc (Ch.s (.d (.int .i64 ((litTo xs k + cntB m (isLit (xs.getD k default)) : Nat) : Int))) pm (Ch.s (.d (.int .i64 (((litTo xs k + cntB m (isLit (xs.getD k default)) : Nat) : Int) + 1))) (iX rfl rfl intV_addA) (Ch.s (.d (.int .i64 (((litTo xs k + cntB m (isLit (xs.getD k default)) : Nat) : Int) + 1))) pa (Ch.nil (T_region hc (Ch.s (.d (.int .i64 (m : Int))) pm (Ch.s (.d (.int .i64 ((m : Int) + 1))) (iX rfl rfl intV_addA) ?_)))))))
    refine Ch.s (.d (.int .i64 ((m : Int) + 1))) pa (Ch.nil ?_)
    exact nx (m + 1) (by omega) (Wk.of rfl rfl (ai (vI a31) (ai rfl (ai (vI a50) (ai rfl (ai rfl (ai rfl trivial)))))) trivial)
   ·
    replace h3 := of_decide_eq_true h3
    refine T_skip (T_region hc (Ch.s (.d (.int .i64 (m : Int))) pm (Ch.s (.d (.int .i64 ((m : Int) + 1))) (iX rfl rfl intV_addA) (Ch.s (.d (.int .i64 ((m : Int) + 1))) pa (Ch.nil ?_)))))
    exact nx (m + 1) (by omega) (Wk.of rfl rfl (ai (vI a31) (ai rfl (ai (vI a50) (ai rfl (ai rfl (ai rfl trivial)))))) trivial)
  ·
   refine T_exit (T_region hc (Ch.s (.d (.int .i64 ((k : Int) + 1))) (iX rfl rfl intV_addA) (Ch.s (.d (.int .i64 ((k : Int) + 1))) pm (Ch.nil ?_))))
   exact nx (k + 1) (by omega) (Wk.of rfl rfl (ai (vI a36) (ai rfl (ai rfl (ai (vI a50) trivial)))) trivial)
 ·
  refine T_exit (T_seq (T_region hc (Ch.s (.d (.int .i64 (litTo xs k : Int))) pm (Ch.s (.d (.int .i64 (litTo xs k : Int))) pa (Ch.nil (T_ret ?_))))))
  exact endR [(.d (.int .i64 (litTo xs k : Int)))] [] [] (.cons (.tmp 2 rfl) .nil) (.cons (.any _) .nil) (Exp.of (congrArg (D.int .i64) (by rw [lits, show xs.length = k by omega])) (.d _)) rfl rfl

theorem sp_impl_literals (xs : List (List UInt8)) (hb : bulkS xs ≤ 1048576) : Sp Try.prog 59 [(.slice false 1 (xs.map D.str))] [.any] (.int .i64 (lits xs : Int)) := by
 refine Sp_intro (lend := true) Try.func59 rfl rfl rfl (fun _ => rfl) (fun c hc hX => ?_)
 have hb2 : (xs.map List.length).sum ≤ 1048576 := by (unfold bulkS at hb; omega)
 have hb3 := bulk_len hb
 refine T_seq (T_region hc (Ch.s (.d (.int .i64 0)) pa (Ch.nil (T_seq (T_region hc (Ch.s (.d (.int .i64 0)) pa (Ch.nil ?_)))))))
 refine T_seq (T_seq (T_region hc (Ch.s (.d (.slice false 1 (xs.map D.str))) pm (Ch.s (.d (.int .i64 (xs.length : Int))) (.pure (.len _ _ 9 rfl Try.underlying22 (.sh _ _) (by simp))) (Ch.s (.d (.int .i64 0)) pm (Ch.nil (T_block ?_)))))))
 refine T_loop (ι := Nat) (fun k => { n := 27, sl := [(3, (.d (.int .i64 (litTo xs k : Int)))), (7, (.d (.slice false 1 (xs.map D.str)))), (8, (.d (.int .i64 (xs.length : Int)))), (9, (.d (.int .i64 (k : Int))))], hp := [], pin := [] }) (fun k => k ≤ xs.length) (fun k => xs.length - k) ⟨0, (by omega), (Wk.of rfl rfl (ai (vI a36) (ai rfl (ai rfl (ai (vI a50) trivial)))) trivial)⟩ (fun k hp0 => ?_)
 have hs1 := sumTo_le xs k; have hs2 := litTo_le xs k hp0
 refine T_seq (T_region hc (Ch.s (.d (.bool (decide ((k : Int) < (xs.length : Int))))) (iX rfl rfl rfl) (Ch.nil (T_seq ?_))))
 refine T_condD (p := ((k : Int) < (xs.length : Int))) rfl (fun h1 => ?_) (fun h1 => ?_)
 ·
  refine T_skip (T_seq (T_block (T_seq (T_region hc (Ch.s (.d (.ref (.str (xs.getD k default)))) (.pure (.idx _ _ _ 9 (k) rfl Try.underlying22 sz9 rfl rfl rfl get_mapA)) (Ch.s (.d (.str (xs.getD k default))) (.pure (.loadRef1 _ _ rfl ag9 rfl rfl)) (Ch.s (.d (.str (xs.getD k default))) pa ?_)))))))
  refine Ch.nil (T_seq (T_region hc (Ch.s (.d (.str (xs.getD k default))) pm (Ch.s (.d (.int .i64 ((xs.getD k default).length : Int))) (.pure (.lenStr _ _ rfl Try.underlying9 rfl)) (Ch.s (.d (.int .i64 0)) pm (Ch.nil (T_block ?_)))))))
  refine T_loop (ι := Nat) (fun m => { n := 27, sl := [(3, (.d (.int .i64 ((litTo xs k + cntB m (isLit (xs.getD k default)) : Nat) : Int)))), (5, (.d (.str (xs.getD k default)))), (7, (.d (.slice false 1 (xs.map D.str)))), (8, (.d (.int .i64 (xs.length : Int)))), (9, (.d (.int .i64 (k : Int)))), (14, (.d (.int .i64 ((xs.getD k default).length : Int)))), (15, (.d (.int .i64 (m : Int))))], hp := [], pin := [] }) (fun m => m ≤ (xs.getD k default).length) (fun m => (xs.getD k default).length - m) ⟨0, (by omega), (Wk.of rfl rfl (ai (vI a31) (ai rfl (ai rfl (ai rfl (ai rfl (ai rfl (ai (vI a50) trivial))))))) trivial)⟩ (fun m hp1 => ?_)
  have hs3 := cntB_le m (isLit (xs.getD k default)); have hs4 := bulk_mem hb _ (getD_mem (l := xs) (j := k) (d := default) (by omega))
  refine T_seq (T_region hc (Ch.s (.d (.bool (decide ((m : Int) < ((xs.getD k default).length : Int))))) (iX rfl rfl rfl) (Ch.nil (T_seq ?_))))
  refine T_condD (p := ((m : Int) < ((xs.getD k default).length : Int))) rfl (fun h2 => ?_) (fun h2 => ?_)
  ·
   refine T_skip (T_seq (T_block (T_seq (T_region hc (Ch.s (.d (.int .i64 (m : Int))) pm (Ch.s (.d (.int .i64 (m : Int))) pa (Ch.nil ?_)))))))
   refine T_seq (T_region hc (Ch.s (.d (.str (xs.getD k default))) pm (Ch.s (.d (.int .i64 (m : Int))) pm (Ch.s (.d (.int .u8 (((xs.getD k default).getD m 0).toNat : Int))) (.pure (.idxStr _ _ _ (m) rfl Try.underlying9 rfl rfl rfl get_strA)) (Ch.s (.d (.bool (!(decide ((((xs.getD k default).getD m 0) : UInt8) = 45))))) (iX rfl rfl (u8_neq (((xs.getD k default).getD m 0) : UInt8) 45 rfl rfl)) (Ch.nil ?_))))))
   refine T_condN (b := (decide ((((xs.getD k default).getD m 0) : UInt8) = 45))) rfl (fun h3 => ?_) (fun h3 => ?_)
   ·
    replace h3 := of_decide_eq_false h3
    refine T_region hc (Ch.s (.d (.int .i64 ((litTo xs k + cntB m (isLit (xs.getD k default)) : Nat) : Int))) pm (Ch.s (.d (.int .i64 (((litTo xs k + cntB m (isLit (xs.getD k default)) : Nat) : Int) + 1))) (iX rfl rfl intV_addA) (Ch.s (.d (.int .i64 (((litTo xs k + cntB m (isLit (xs.getD k default)) : Nat) : Int) + 1))) pa (Ch.nil (T_region hc (Ch.s (.d (.int .i64 ((m : Int) + 1))) (iX rfl rfl intV_addA) (Ch.s (.d (.int .i64 ((m : Int) + 1))) pm ?_)))))))
    refine Ch.nil ?_
    exact nx (m + 1) (by omega) (Wk.of rfl rfl (ai (vI a31) (ai rfl (ai rfl (ai rfl (ai rfl (ai rfl (ai (vI a50) trivial))))))) trivial)
   ·
    replace h3 := of_decide_eq_true h3
    refine T_skip (T_region hc (Ch.s (.d (.int .i64 ((m : Int) + 1))) (iX rfl rfl intV_addA) (Ch.s (.d (.int .i64 ((m : Int) + 1))) pm (Ch.nil ?_))))
    exact nx (m + 1) (by omega) (Wk.of rfl rfl (ai (vI a31) (ai rfl (ai rfl (ai rfl (ai rfl (ai rfl (ai (vI a50) trivial))))))) trivial)
  ·
   refine T_exit (T_region hc (Ch.s (.d (.int .i64 ((k : Int) + 1))) (iX rfl rfl intV_addA) (Ch.s (.d (.int .i64 ((k : Int) + 1))) pm (Ch.nil ?_))))
   exact nx (k + 1) (by omega) (Wk.of rfl rfl (ai (vI a36) (ai rfl (ai rfl (ai (vI a50) trivial)))) trivial)
 ·
  refine T_exit (T_seq (T_region hc (Ch.s (.d (.int .i64 (litTo xs k : Int))) pm (Ch.s (.d (.int .i64 (litTo xs k : Int))) pa (Ch.nil (T_ret ?_))))))
  exact endR [(.d (.int .i64 (litTo xs k : Int)))] [] [] (.cons (.tmp 2 rfl) .nil) (.cons (.any _) .nil) (Exp.of (congrArg (D.int .i64) (by rw [lits, show xs.length = k by omega])) (.d _)) rfl rfl

theorem en81 : Enters Try.prog 81 := ⟨_, Try.func81, by kernel_rfl, rfl⟩

theorem en74 : Enters Try.prog 74 := ⟨_, Try.func74, by kernel_rfl, rfl⟩

theorem en61 : Enters Try.prog 61 := ⟨_, Try.func61, by kernel_rfl, rfl⟩

theorem en54 : Enters Try.prog 54 := ⟨_, Try.func54, by kernel_rfl, rfl⟩

theorem en55 : Enters Try.prog 55 := ⟨_, Try.func55, by kernel_rfl, rfl⟩

theorem en33 : Enters Try.prog 33 := ⟨_, Try.func33, by kernel_rfl, rfl⟩

def codeCh (x : UInt8) : Bool := x == 48 || x == 49

def codeN (u : List UInt8) (n : Int) : Bool := allB u.length (fun j => codeCh (u.getD j 0)) && decide ((u.length : Int) = n)

def hasCh (x y : UInt8) : Bool := x == 45 || x == y

def hasB (a b : List UInt8) : Bool := allB a.length fun j => hasCh (a.getD j 0) (b.getD j 0)

def dashB (u : List UInt8) : Bool := decide (0 ≤ Lib.indexByte u 45)

def isCodeB (u : List UInt8) (n : Int) : Bool := cubeN u n && !dashB u

def inB (xs : List (List UInt8)) (u : List UInt8) : Bool := xs.any fun a => hasB a u

theorem dashB_iff (u : List UInt8) : dashB u = true ↔ 45 ∈ u := by
  unfold dashB
  rw [decide_eq_true_iff]
  induction u with
  | nil => exact ⟨fun h => absurd h (by decide), fun h => by cases h⟩
  | cons x u ih =>
    have hge := Lib.indexByte_ge u 45
    rw [Lib.indexByte, List.mem_cons]
    split
    · rename_i h
      have h : x = 45 := by simpa using h
      exact ⟨fun _ => .inl h.symm, fun _ => Int.le_refl 0⟩
    · rename_i h
      have hx : ¬ (45 : UInt8) = x := fun e => h (by rw [e]; simp)
      split
      · rename_i h2
        have h2 : Lib.indexByte u 45 = -1 := by simpa using h2
        rw [h2] at ih
        constructor
        · intro h3; exact absurd h3 (by decide)
        · rintro (h3 | h3)
          · exact absurd h3 hx
          · exact absurd (ih.2 h3) (by decide)
      · rename_i h2
        have h2 : ¬ Lib.indexByte u 45 = -1 := by simpa using h2
        constructor
        · intro h3
          have h4 : 0 ≤ Lib.indexByte u 45 := by generalize Lib.indexByte u 45 = z at *; omega
          exact .inr (ih.1 h4)
        · rintro (h3 | h3)
          · exact absurd h3 hx
          · have h4 := ih.2 h3; generalize Lib.indexByte u 45 = z at *; omega

theorem code_eq (u : List UInt8) (n : Int) : isCodeB u n = (codeN u n && withinB n 1 8) := by
  rw [Bool.eq_iff_iff]
  unfold isCodeB cubeN cubeS codeN
  simp only [Bool.and_eq_true, Bool.not_eq_true', allB_true, ← Bool.not_eq_true, dashB_iff, decide_eq_true_iff]
  have hm : (∃ j, j < u.length ∧ u.getD j 0 = 45) ↔ 45 ∈ u := by
    constructor
    · rintro ⟨j, hj, h⟩; rw [← h]; exact getD_mem hj
    · intro h; obtain ⟨j, hj, h⟩ := List.mem_iff_getElem.1 h; exact ⟨j, hj, by simp [hj, h]⟩
  constructor
  · rintro ⟨⟨⟨h1, h2⟩, h3⟩, h4⟩
    refine ⟨⟨fun j hj => ?_, h2⟩, h3⟩
    have h5 := h1 j hj
    have h6 : ¬ u.getD j 0 = 45 := fun e => h4 (hm.1 ⟨j, hj, e⟩)
    unfold cubeCh at h5
    unfold codeCh
    simp only [Bool.or_eq_true, beq_iff_eq] at h5 ⊢
    exact h5.resolve_right h6
  · rintro ⟨⟨h1, h2⟩, h3⟩
    refine ⟨⟨⟨fun j hj => ?_, h2⟩, h3⟩, fun h => ?_⟩
    · have h5 := h1 j hj
      unfold codeCh at h5
      unfold cubeCh
      simp only [Bool.or_eq_true] at h5 ⊢
      exact .inl h5
    · obtain ⟨j, hj, h6⟩ := hm.2 h
      have h5 := h1 j hj
      rw [h6] at h5
      exact absurd h5 (by decide)

theorem sp_spec_l5Code (u : List UInt8) (n : Int) (hs : u.length ≤ 1048576) : Sp Try.prog 50 [(.str u), (.int .i64 n)] [.any, .any] (.bool (codeN u n)) := by
 refine Sp_intro (lend := true) Try.func50 rfl rfl rfl (fun _ => rfl) (fun c hc hX => ?_)
 refine T_seq (T_region hc (Ch.s (.d (.bool false)) pa (Ch.nil (T_seq (T_seq (T_region hc (Ch.s (.d (.int .i64 0)) pa ?_)))))))
 refine Ch.nil (T_block ?_)
 refine T_loop (ι := Nat) (fun k => { n := 26, sl := [(0, (.d (.str u))), (1, (.d (.int .i64 n))), (5, (.d (.int .i64 (k : Int))))], hp := [], pin := [] }) (fun k => k ≤ u.length ∧ ∀ j, j < k → codeCh (u.getD j 0) = true) (fun k => u.length - k) ⟨0, ⟨by omega, fun j hj => by omega⟩, (Wk.of rfl rfl (ai rfl (ai rfl (ai (vI a50) trivial))) trivial)⟩ (fun k hp0 => ?_)
 refine T_seq (T_seq (T_region hc (Ch.s (.d (.int .i64 (k : Int))) pm (Ch.s (.d (.str u)) pm (Ch.s (.d (.int .i64 (u.length : Int))) (.pure (.lenStr _ _ rfl Try.underlying9 rfl)) (Ch.s (.d (.bool (decide ((k : Int) < (u.length : Int))))) (iX rfl rfl rfl) (Ch.nil ?_)))))))
 refine T_condD (p := ((k : Int) < (u.length : Int))) rfl (fun h1 => ?_) (fun h1 => ?_)
 ·
  refine T_skip (T_seq (T_block (T_seq (T_region hc (Ch.s (.d (.str u)) pm (Ch.s (.d (.int .i64 (k : Int))) pm (Ch.s (.d (.int .u8 ((u.getD k 0).toNat : Int))) (.pure (.idxStr _ _ _ (k) rfl Try.underlying9 rfl rfl rfl get_strA)) ?_)))))))
  refine Ch.s (.d (.bool (!(decide (((u.getD k 0) : UInt8) = 48))))) (iX rfl rfl (u8_neq ((u.getD k 0) : UInt8) 48 rfl rfl)) (Ch.s (.d (.bool (!(decide (((u.getD k 0) : UInt8) = 48))))) pm ?_)
  cases h2 : (decide (((u.getD k 0) : UInt8) = 48)) with
  | true =>
   replace h2 := of_decide_eq_true h2
   refine Ch.skip rfl rfl (Ch.skip rfl rfl (Ch.skip rfl rfl (Ch.skip rfl rfl (Ch.s (.d (.bool false)) (.pure (.pickF _ _ _ rfl rfl rfl)) (Ch.nil ?_)))))
   refine T_cond (b := false) rfl (fun h => nomatch h) (fun _ => ?_)
   refine T_skip (T_region hc (Ch.s (.d (.int .i64 (k : Int))) pm (Ch.s (.d (.int .i64 ((k : Int) + 1))) (iX rfl rfl intV_addA) (Ch.s (.d (.int .i64 ((k : Int) + 1))) pa (Ch.nil ?_)))))
   exact nx (k + 1) ⟨by omega, upto_succ hp0.2 (by simp_all [codeCh])⟩ (Wk.of rfl rfl (ai rfl (ai rfl (ai (vI a50) trivial))) trivial)
  | false =>
   replace h2 := of_decide_eq_false h2
   refine Ch.s (.d (.str u)) pm (Ch.s (.d (.int .i64 (k : Int))) pm (Ch.s (.d (.int .u8 ((u.getD k 0).toNat : Int))) (.pure (.idxStr _ _ _ (k) rfl Try.underlying9 rfl rfl rfl get_strA)) (Ch.s (.d (.bool (!(decide (((u.getD k 0) : UInt8) = 49))))) (iX rfl rfl (u8_neq ((u.getD k 0) : UInt8) 49 rfl rfl)) (Ch.s (.d (.bool (!(decide (((u.getD k 0) : UInt8) = 49))))) (.pure (.pickT _ _ _ rfl rfl rfl)) (Ch.nil ?_)))))
   refine T_condN (b := (decide (((u.getD k 0) : UInt8) = 49))) rfl (fun h3 => ?_) (fun h3 => ?_)
   ·
    replace h3 := of_decide_eq_false h3
    refine T_seq (T_region hc (Ch.s (.d (.bool false)) pa (Ch.nil (T_ret ?_))))
    exact endR [(.d (.bool false))] [] [] (.cons (.tmp 4 rfl) .nil) (.cons (.any _) (.cons (.any _) .nil)) (Exp.of (congrArg D.bool a26) (.d _)) rfl rfl
   ·
    replace h3 := of_decide_eq_true h3
    refine T_skip (T_region hc (Ch.s (.d (.int .i64 (k : Int))) pm (Ch.s (.d (.int .i64 ((k : Int) + 1))) (iX rfl rfl intV_addA) (Ch.s (.d (.int .i64 ((k : Int) + 1))) pa (Ch.nil ?_)))))
    exact nx (k + 1) ⟨by omega, upto_succ hp0.2 (by simp_all [codeCh])⟩ (Wk.of rfl rfl (ai rfl (ai rfl (ai (vI a50) trivial))) trivial)
 ·
  refine T_exit (T_seq (T_region hc (Ch.s (.d (.str u)) pm (Ch.s (.d (.int .i64 (u.length : Int))) (.pure (.lenStr _ _ rfl Try.underlying9 rfl)) (Ch.s (.d (.int .i64 n)) pm (Ch.s (.d (.bool (decide ((u.length : Int) = n)))) (iX rfl rfl rfl) (Ch.s (.d (.bool (decide ((u.length : Int) = n)))) pa ?_)))))))
  refine Ch.nil (T_ret ?_)
  exact endR [(.d (.bool (decide ((u.length : Int) = n))))] [] [] (.cons (.tmp 4 rfl) .nil) (.cons (.any _) (.cons (.any _) .nil)) (Exp.of (congrArg D.bool a26) (.d _)) rfl rfl

theorem sp_spec_l13Has (a b : List UInt8) (ha : a.length ≤ 1048576) (hl : a.length ≤ b.length) : Sp Try.prog 33 [(.str a), (.str b)] [.any, .any] (.bool (hasB a b)) := by
 refine Sp_intro (lend := true) Try.func33 rfl rfl rfl (fun _ => rfl) (fun c hc hX => ?_)
 refine T_seq (T_region hc (Ch.s (.d (.bool false)) pa (Ch.nil (T_seq (T_seq (T_region hc (Ch.s (.d (.int .i64 0)) pa ?_)))))))
 refine Ch.nil (T_block ?_)
 refine T_loop (ι := Nat) (fun k => { n := 25, sl := [(0, (.d (.str a))), (1, (.d (.str b))), (5, (.d (.int .i64 (k : Int))))], hp := [], pin := [] }) (fun k => k ≤ a.length ∧ ∀ j, j < k → hasCh (a.getD j 0) (b.getD j 0) = true) (fun k => a.length - k) ⟨0, ⟨by omega, fun j hj => by omega⟩, (Wk.of rfl rfl (ai rfl (ai rfl (ai (vI a50) trivial))) trivial)⟩ (fun k hp0 => ?_)
 refine T_seq (T_seq (T_region hc (Ch.s (.d (.int .i64 (k : Int))) pm (Ch.s (.d (.str a)) pm (Ch.s (.d (.int .i64 (a.length : Int))) (.pure (.lenStr _ _ rfl Try.underlying9 rfl)) (Ch.s (.d (.bool (decide ((k : Int) < (a.length : Int))))) (iX rfl rfl rfl) (Ch.nil ?_)))))))
 refine T_condD (p := ((k : Int) < (a.length : Int))) rfl (fun h1 => ?_) (fun h1 => ?_)
 ·
  refine T_skip (T_seq (T_block (T_seq ?_)))
  refine T_regionD hc (by kernel_rfl) ?_
  refine ChD.s (.d (.str a)) [] pm (ChD.s (.d (.int .i64 (k : Int))) [] pm (ChD.s (.d (.int .u8 ((a.getD k 0).toNat : Int))) [] (.pure (.idxStr _ _ _ (k) rfl Try.underlying9 rfl rfl rfl get_strA)) (ChD.s (.d (.bool (!(decide (((a.getD k 0) : UInt8) = 45))))) [] (iX rfl rfl (u8_neq ((a.getD k 0) : UInt8) 45 rfl rfl)) (ChD.s (.d (.bool (!(decide (((a.getD k 0) : UInt8) = 45))))) [] pm ?_))))
  cases h2 : (decide (((a.getD k 0) : UInt8) = 45)) with
  | true =>
   replace h2 := of_decide_eq_true h2
   refine ChD.skip rfl rfl (ChD.skip rfl rfl (ChD.skip rfl rfl (ChD.skip rfl rfl (ChD.skip rfl rfl (ChD.skip rfl rfl (ChD.skip rfl rfl (ChD.s (.d (.bool false)) [] (.pure (.pickF _ _ _ rfl rfl rfl)) ?_)))))))
   refine ChD.nil (And.intro ?_ (by kernel_rfl))
   refine T_cond (b := false) rfl (fun h => nomatch h) (fun _ => ?_)
   refine T_skip (T_region hc (Ch.s (.d (.int .i64 (k : Int))) pm (Ch.s (.d (.int .i64 ((k : Int) + 1))) (iX rfl rfl intV_addA) (Ch.s (.d (.int .i64 ((k : Int) + 1))) pa (Ch.nil ?_)))))
   exact nx (k + 1) ⟨by omega, upto_succ hp0.2 (by simp_all [hasCh])⟩ (Wk.of rfl rfl (ai rfl (ai rfl (ai (vI a50) trivial))) trivial)
  | false =>
   replace h2 := of_decide_eq_false h2
   refine ChD.s (.d (.str a)) [] pm (ChD.s (.d (.int .i64 (k : Int))) [] pm (ChD.s (.d (.int .u8 ((a.getD k 0).toNat : Int))) [] (.pure (.idxStr _ _ _ (k) rfl Try.underlying9 rfl rfl rfl get_strA)) (ChD.s (.d (.str b)) [] pm (ChD.s (.d (.int .i64 (k : Int))) [] pm (ChD.s (.d (.int .u8 ((b.getD k 0).toNat : Int))) [] (.pure (.idxStr _ _ _ (k) rfl Try.underlying9 rfl rfl rfl get_strA)) (ChD.s (.d (.bool (!(decide (((a.getD k 0) : UInt8) = (b.getD k 0)))))) [] (iX rfl rfl (u8_neq ((a.getD k 0) : UInt8) (b.getD k 0) rfl rfl)) (ChD.s (.d (.bool (!(decide (((a.getD k 0) : UInt8) = (b.getD k 0)))))) [] (.pure (.pickT _ _ _ rfl rfl rfl)) ?_)))))))
   refine ChD.nil (And.intro ?_ (by kernel_rfl))
   refine T_condN (b := (decide (((a.getD k 0) : UInt8) = (b.getD k 0)))) rfl (fun h3 => ?_) (fun h3 => ?_)
   ·
    replace h3 := of_decide_eq_false h3
    refine T_seq (T_region hc (Ch.s (.d (.bool false)) pa (Ch.nil (T_ret ?_))))
    exact endR [(.d (.bool false))] [] [] (.cons (.tmp 4 rfl) .nil) (.cons (.any _) (.cons (.any _) .nil)) (Exp.of (congrArg D.bool a28) (.d _)) rfl rfl
   ·
    replace h3 := of_decide_eq_true h3
    refine T_skip (T_region hc (Ch.s (.d (.int .i64 (k : Int))) pm (Ch.s (.d (.int .i64 ((k : Int) + 1))) (iX rfl rfl intV_addA) (Ch.s (.d (.int .i64 ((k : Int) + 1))) pa (Ch.nil ?_)))))
    exact nx (k + 1) ⟨by omega, upto_succ hp0.2 (by simp_all [hasCh])⟩ (Wk.of rfl rfl (ai rfl (ai rfl (ai (vI a50) trivial))) trivial)
 ·
  refine T_exit (T_seq (T_region hc (Ch.s (.d (.bool true)) pa (Ch.nil (T_ret ?_)))))
  exact endR [(.d (.bool true))] [] [] (.cons (.tmp 4 rfl) .nil) (.cons (.any _) (.cons (.any _) .nil)) (Exp.of (congrArg D.bool a28) (.d _)) rfl rfl

theorem sp_impl_contains (a b : List UInt8) (ha : a.length ≤ 1048576) (hl : a.length ≤ b.length) : Sp Try.prog 48 [(.str a), (.str b)] [.any, .any] (.bool (hasB a b)) := by
 refine Sp_intro (lend := true) Try.func48 rfl rfl rfl (fun _ => rfl) (fun c hc hX => ?_)
 refine T_seq (T_region hc (Ch.s (.d (.bool false)) pa (Ch.nil (T_seq (T_seq (T_region hc (Ch.s (.d (.str a)) pm ?_)))))))
 refine Ch.s (.d (.int .i64 (a.length : Int))) (.pure (.lenStr _ _ rfl Try.underlying9 rfl)) (Ch.s (.d (.int .i64 0)) pm (Ch.nil (T_block ?_)))
 refine T_loop (ι := Nat) (fun k => { n := 25, sl := [(0, (.d (.str a))), (1, (.d (.str b))), (7, (.d (.int .i64 (a.length : Int)))), (8, (.d (.int .i64 (k : Int))))], hp := [], pin := [] }) (fun k => k ≤ a.length ∧ ∀ j, j < k → hasCh (a.getD j 0) (b.getD j 0) = true) (fun k => a.length - k) ⟨0, ⟨by omega, fun j hj => by omega⟩, (Wk.of rfl rfl (ai rfl (ai rfl (ai rfl (ai (vI a50) trivial)))) trivial)⟩ (fun k hp0 => ?_)
 refine T_seq (T_region hc (Ch.s (.d (.bool (decide ((k : Int) < (a.length : Int))))) (iX rfl rfl rfl) (Ch.nil (T_seq ?_))))
 refine T_condD (p := ((k : Int) < (a.length : Int))) rfl (fun h1 => ?_) (fun h1 => ?_)
 ·
  refine T_skip (T_seq (T_block (T_seq (T_region hc (Ch.s (.d (.int .i64 (k : Int))) pm (Ch.s (.d (.int .i64 (k : Int))) pa (Ch.nil ?_)))))))
  refine T_seq ?_
  refine T_regionD hc (by kernel_rfl) ?_
  refine ChD.s (.d (.str a)) [] pm (ChD.s (.d (.int .i64 (k : Int))) [] pm (ChD.s (.d (.int .u8 ((a.getD k 0).toNat : Int))) [] (.pure (.idxStr _ _ _ (k) rfl Try.underlying9 rfl rfl rfl get_strA)) (ChD.s (.d (.bool (!(decide (((a.getD k 0) : UInt8) = 45))))) [] (iX rfl rfl (u8_neq ((a.getD k 0) : UInt8) 45 rfl rfl)) (ChD.s (.d (.bool (!(decide (((a.getD k 0) : UInt8) = 45))))) [] pm ?_))))
  cases h2 : (decide (((a.getD k 0) : UInt8) = 45)) with
  | true =>
   replace h2 := of_decide_eq_true h2
   refine ChD.skip rfl rfl (ChD.skip rfl rfl (ChD.skip rfl rfl (ChD.skip rfl rfl (ChD.skip rfl rfl (ChD.skip rfl rfl (ChD.skip rfl rfl (ChD.s (.d (.bool false)) [] (.pure (.pickF _ _ _ rfl rfl rfl)) ?_)))))))
   refine ChD.nil (And.intro ?_ (by kernel_rfl))
   refine T_cond (b := false) rfl (fun h => nomatch h) (fun _ => ?_)
   refine T_skip (T_region hc (Ch.s (.d (.int .i64 ((k : Int) + 1))) (iX rfl rfl intV_addA) (Ch.s (.d (.int .i64 ((k : Int) + 1))) pm (Ch.nil ?_))))
   exact nx (k + 1) ⟨by omega, upto_succ hp0.2 (by simp_all [hasCh])⟩ (Wk.of rfl rfl (ai rfl (ai rfl (ai rfl (ai (vI a50) trivial)))) trivial)
  | false =>
   replace h2 := of_decide_eq_false h2
   refine ChD.s (.d (.str a)) [] pm (ChD.s (.d (.int .i64 (k : Int))) [] pm (ChD.s (.d (.int .u8 ((a.getD k 0).toNat : Int))) [] (.pure (.idxStr _ _ _ (k) rfl Try.underlying9 rfl rfl rfl get_strA)) (ChD.s (.d (.str b)) [] pm (ChD.s (.d (.int .i64 (k : Int))) [] pm (ChD.s (.d (.int .u8 ((b.getD k 0).toNat : Int))) [] (.pure (.idxStr _ _ _ (k) rfl Try.underlying9 rfl rfl rfl get_strA)) (ChD.s (.d (.bool (!(decide (((a.getD k 0) : UInt8) = (b.getD k 0)))))) [] (iX rfl rfl (u8_neq ((a.getD k 0) : UInt8) (b.getD k 0) rfl rfl)) (ChD.s (.d (.bool (!(decide (((a.getD k 0) : UInt8) = (b.getD k 0)))))) [] (.pure (.pickT _ _ _ rfl rfl rfl)) ?_)))))))
   refine ChD.nil (And.intro ?_ (by kernel_rfl))
   refine T_condN (b := (decide (((a.getD k 0) : UInt8) = (b.getD k 0)))) rfl (fun h3 => ?_) (fun h3 => ?_)
   ·
    replace h3 := of_decide_eq_false h3
    refine T_seq (T_region hc (Ch.s (.d (.bool false)) pa (Ch.nil (T_ret ?_))))
    exact endR [(.d (.bool false))] [] [] (.cons (.tmp 4 rfl) .nil) (.cons (.any _) (.cons (.any _) .nil)) (Exp.of (congrArg D.bool a28) (.d _)) rfl rfl
   ·
    replace h3 := of_decide_eq_true h3
    refine T_skip (T_region hc (Ch.s (.d (.int .i64 ((k : Int) + 1))) (iX rfl rfl intV_addA) (Ch.s (.d (.int .i64 ((k : Int) + 1))) pm (Ch.nil ?_))))
    exact nx (k + 1) ⟨by omega, upto_succ hp0.2 (by simp_all [hasCh])⟩ (Wk.of rfl rfl (ai rfl (ai rfl (ai rfl (ai (vI a50) trivial)))) trivial)
 ·
  refine T_exit (T_seq (T_region hc (Ch.s (.d (.bool true)) pa (Ch.nil (T_ret ?_)))))
  exact endR [(.d (.bool true))] [] [] (.cons (.tmp 4 rfl) .nil) (.cons (.any _) (.cons (.any _) .nil)) (Exp.of (congrArg D.bool a28) (.d _)) rfl rfl

theorem sp_stringslite_IndexByte (u : List UInt8) (x : UInt8) : Sp Try.prog 81 [(.str u), (.int .u8 (x.toNat : Int))] [.any, .any] (.int .i64 (Lib.indexByte u x)) := by
 refine Sp_intro (lend := true) Try.func81 rfl rfl rfl (fun _ => rfl) (fun c hc hX => ?_)
 refine T_seq (T_region hc (Ch.s (.d (.int .i64 0)) pa (Ch.nil (T_seq (T_region hc (Ch.s (.d (.str u)) pm (Ch.s (.d (.int .u8 (x.toNat : Int))) pm ?_)))))))
 refine Ch.step (v := (.d (.int .i64 (Lib.indexByte u x)))) rfl (.pure (.ext 86 _ _ _ (ext_indexByte Try.func86 (by kernel_rfl) rfl (by kernel_rfl) (by kernel_rfl) u x) rfl rfl rfl)) rfl rfl ?_
 refine Ch.s (.d (.int .i64 (Lib.indexByte u x))) pa (Ch.nil (T_ret ?_))
 exact endR [(.d (.int .i64 (Lib.indexByte u x)))] [] [] (.cons (.tmp 4 rfl) .nil) (.cons (.any _) (.cons (.any _) .nil)) (.d _) rfl rfl

theorem sp_stringslite_Index (u : List UInt8) : Sp Try.prog 74 [(.str u), (.str ([45]))] [.any, .any] (.int .i64 (Lib.indexByte u 45)) := by
 refine Sp_intro (lend := true) Try.func74 rfl rfl rfl (fun _ => rfl) (fun c hc hX => ?_)
 refine T_seq (T_region hc (Ch.s (.d (.int .i64 0)) pa (Ch.nil (T_seq (T_region hc (Ch.s (.d (.str ([45]))) pm (Ch.s (.d (.int .i64 1)) (.pure (.lenStr (s := ([45])) _ _ rfl Try.underlying9 rfl)) ?_)))))))
 refine Ch.s (.d (.int .i64 1)) pa (Ch.nil (T_seq (T_block (T_seq (T_region hc (Ch.s (.d (.int .i64 1)) pm (Ch.s (.d (.bool false)) (iX rfl rfl rfl) ?_)))))))
 refine Ch.s (.d (.bool false)) pm (Ch.s (.d (.str ([45]))) pm (Ch.s (.d (.str u)) pm (Ch.s (.d (.bool (decide (([45]) = u)))) (.pure (.str _ _ _ _ _ rfl rfl rfl rfl)) (Ch.s (.d (.bool (decide (([45]) = u)))) (.pure (.pickF _ _ _ rfl rfl rfl)) (Ch.s (.d (.bool (decide (([45]) = u)))) pa (Ch.nil ?_))))))
 refine T_condD (p := (([45]) = u)) rfl (fun h1 => ?_) (fun h1 => ?_)
 ·
  refine T_seq (T_region hc (Ch.s (.d (.int .i64 0)) pa (Ch.nil (T_ret ?_))))
  exact endR [(.d (.int .i64 0))] [] [] (.cons (.tmp 4 rfl) .nil) (.cons (.any _) (.cons (.any _) .nil)) (Exp.of (congrArg (D.int .i64) (by first | rfl | (subst_vars; rfl) | (simp_all; done))) (.d _)) rfl rfl
 ·
  refine T_seq (T_region hc (Ch.s (.d (.int .i64 1)) pm (Ch.s (.d (.bool true)) (iX rfl rfl rfl) (Ch.s (.d (.bool true)) pa (Ch.nil ?_)))))
  refine T_cond (b := true) rfl (fun _ => ?_) (fun h => nomatch h)
  refine T_seq (T_region hc (Ch.s (.d (.str u)) pm (Ch.s (.d (.str ([45]))) pm (Ch.s (.d (.int .u8 ((45 : UInt8).toNat : Int))) (.pure (.idxStr _ _ _ (0) rfl Try.underlying9 rfl rfl rfl rfl)) (Ch.s (.d (.int .i64 (Lib.indexByte u ((45 : UInt8) : UInt8)))) (.call 30000 81 _ _ _ en81 rfl (.inl rfl) (.cons (.d _) (.cons (.d _) .nil)) rfl rfl (sp_stringslite_IndexByte u ((45 : UInt8) : UInt8)) (.skip _ _ (.skip _ _ .nil)) rfl) (Ch.s (.d (.int .i64 (Lib.indexByte u ((45 : UInt8) : UInt8)))) pa (Ch.nil ?_)))))))
  refine T_ret ?_
  exact endR [(.d (.int .i64 (Lib.indexByte u ((45 : UInt8) : UInt8))))] [] [] (.cons (.tmp 4 rfl) .nil) (.cons (.any _) (.cons (.any _) .nil)) (Exp.of (congrArg (D.int .i64) (by first | rfl | (subst_vars; rfl) | (simp_all; done))) (.d _)) rfl rfl

theorem sp_strings_Index (u : List UInt8) : Sp Try.prog 61 [(.str u), (.str ([45]))] [.any, .any] (.int .i64 (Lib.indexByte u 45)) := by
 refine Sp_intro (lend := true) Try.func61 rfl rfl rfl (fun _ => rfl) (fun c hc hX => ?_)
 refine T_seq (T_region hc (Ch.s (.d (.int .i64 0)) pa (Ch.nil (T_seq (T_region hc (Ch.s (.d (.str u)) pm (Ch.s (.d (.str ([45]))) pm ?_)))))))
 refine Ch.s (.d (.int .i64 (Lib.indexByte u 45))) (.call 7000 74 _ _ _ en74 rfl (.inl rfl) (.cons (.d _) (.cons (.d _) .nil)) rfl rfl (sp_stringslite_Index u) (.skip _ _ (.skip _ _ .nil)) rfl) (Ch.s (.d (.int .i64 (Lib.indexByte u 45))) pa (Ch.nil (T_ret ?_)))
 exact endR [(.d (.int .i64 (Lib.indexByte u 45)))] [] [] (.cons (.tmp 4 rfl) .nil) (.cons (.any _) (.cons (.any _) .nil)) (.d _) rfl rfl

theorem sp_strings_Contains (u : List UInt8) : Sp Try.prog 55 [(.str u), (.str ([45]))] [.any, .any] (.bool (dashB u)) := by
 refine Sp_intro (lend := true) Try.func55 rfl rfl rfl (fun _ => rfl) (fun c hc hX => ?_)
 refine T_seq (T_region hc (Ch.s (.d (.bool false)) pa (Ch.nil (T_seq (T_region hc (Ch.s (.d (.str u)) pm (Ch.s (.d (.str ([45]))) pm ?_)))))))
 refine Ch.s (.d (.int .i64 (Lib.indexByte u 45))) (.call 7000 61 _ _ _ en61 rfl (.inl rfl) (.cons (.d _) (.cons (.d _) .nil)) rfl rfl (sp_strings_Index u) (.skip _ _ (.skip _ _ .nil)) rfl) (Ch.s (.d (.bool (decide (0 ≤ (Lib.indexByte u 45))))) (iX rfl rfl rfl) (Ch.s (.d (.bool (decide (0 ≤ (Lib.indexByte u 45))))) pa (Ch.nil (T_ret ?_))))
 exact endR [(.d (.bool (decide (0 ≤ (Lib.indexByte u 45)))))] [] [] (.cons (.tmp 4 rfl) .nil) (.cons (.any _) (.cons (.any _) .nil)) (Exp.of (congrArg D.bool (by rfl)) (.d _)) rfl rfl

theorem sp_impl_isCode (u : List UInt8) (n : Int) (hs : u.length ≤ 1048576) : Sp Try.prog 36 [(.str u), (.int .i64 n)] [.any, .any] (.bool (isCodeB u n)) := by
 refine Sp_intro (lend := true) Try.func36 rfl rfl rfl (fun _ => rfl) (fun c hc hX => ?_)
 refine T_seq (T_region hc (Ch.s (.d (.bool false)) pa (Ch.nil (T_seq (T_region hc (Ch.s (.d (.str u)) pm (Ch.s (.d (.int .i64 n)) pm ?_)))))))
 refine Ch.s (.d (.bool (cubeN u n))) (.call 7000 54 _ _ _ en54 rfl (.inl rfl) (.cons (.d _) (.cons (.d _) .nil)) rfl rfl (sp_impl_isCube u n a8) (.skip _ _ (.skip _ _ .nil)) rfl) (Ch.s (.d (.bool (cubeN u n))) pm ?_)
 cases h1 : (cubeN u n) with
 | true =>
  refine Ch.s (.d (.str u)) pm (Ch.s (.d (.bool (dashB u))) (.call 10000 55 _ _ _ en55 rfl (.inl rfl) (.cons (.d _) (.cons (.d _) .nil)) rfl rfl (sp_strings_Contains u) (.skip _ _ (.skip _ _ .nil)) rfl) (Ch.s (.d (.bool (!(dashB u)))) (.pure (.not _ _ rfl rfl)) (Ch.s (.d (.bool (!(dashB u)))) (.pure (.pickT _ _ _ rfl rfl rfl)) (Ch.s (.d (.bool (!(dashB u)))) pa (Ch.nil (T_ret ?_))))))
  exact endR [(.d (.bool (!(dashB u))))] [] [] (.cons (.tmp 4 rfl) .nil) (.cons (.any _) (.cons (.any _) .nil)) (Exp.of (congrArg D.bool (by first | (simp_all; done) | simp_all [isCodeB])) (.d _)) rfl rfl
 | false =>
  refine Ch.skip rfl rfl (Ch.skip rfl rfl (Ch.skip rfl rfl (Ch.s (.d (.bool false)) (.pure (.pickF _ _ _ rfl rfl rfl)) (Ch.s (.d (.bool false)) pa (Ch.nil (T_ret ?_))))))
  exact endR [(.d (.bool false))] [] [] (.cons (.tmp 4 rfl) .nil) (.cons (.any _) (.cons (.any _) .nil)) (Exp.of (congrArg D.bool (by first | (simp_all; done) | simp_all [isCodeB])) (.d _)) rfl rfl

theorem any_yes {τ : Type} {l : List τ} {p : τ → Bool} (d : τ) (k : Nat) (hk : k < l.length) (h : p (l.getD k d) = true) : true = l.any p := (List.any_eq_true.2 ⟨_, getD_mem hk, h⟩).symm

theorem any_no {τ : Type} {l : List τ} {p : τ → Bool} (d : τ) (h : ∀ j, j < l.length → p (l.getD j d) = false) : false = l.any p := by
 symm
 rw [List.any_eq_false]
 intro x hx
 obtain ⟨j, hj, rfl⟩ := List.mem_iff_getElem.1 hx
 have := h j hj
 simp [hj] at this
 simp [this]

theorem sp_spec_l13In (xs : List (List UInt8)) (u : List UInt8) (hn : xs.length ≤ 1048576) (hx : ∀ a ∈ xs, a.length ≤ u.length) (hu : u.length ≤ 1048576) : Sp Try.prog 32 [(.slice false 1 (xs.map D.str)), (.str u)] [.any, .any] (.bool (inB xs u)) := by
 refine Sp_intro (lend := true) Try.func32 rfl rfl rfl (fun _ => rfl) (fun c hc hX => ?_)
 refine T_seq (T_region hc (Ch.s (.d (.bool false)) pa (Ch.nil (T_seq (T_seq (T_region hc (Ch.s (.d (.slice false 1 (xs.map D.str))) pm ?_)))))))
 refine Ch.s (.d (.int .i64 (xs.length : Int))) (.pure (.len _ _ 9 rfl Try.underlying22 (.sh _ _) (by simp))) (Ch.s (.d (.int .i64 0)) pm (Ch.nil (T_block ?_)))
 refine T_loop (ι := Nat) (fun k => { n := 17, sl := [(1, (.d (.str u))), (7, (.d (.slice false 1 (xs.map D.str)))), (8, (.d (.int .i64 (xs.length : Int)))), (9, (.d (.int .i64 (k : Int))))], hp := [], pin := [] }) (fun k => k ≤ xs.length ∧ ∀ j, j < k → hasB (xs.getD j default) u = false) (fun k => xs.length - k) ⟨0, ⟨by omega, fun j hj => by omega⟩, (Wk.of rfl rfl (ai rfl (ai rfl (ai rfl (ai (vI a50) trivial)))) trivial)⟩ (fun k hp0 => ?_)
 refine T_seq (T_region hc (Ch.s (.d (.bool (decide ((k : Int) < (xs.length : Int))))) (iX rfl rfl rfl) (Ch.nil (T_seq ?_))))
 refine T_condD (p := ((k : Int) < (xs.length : Int))) rfl (fun h1 => ?_) (fun h1 => ?_)
 ·
  try have hk := hx _ (getD_mem (l := xs) (j := k) (d := default) (by omega))
  refine T_skip (T_seq (T_block (T_seq (T_region hc (Ch.s (.d (.ref (.str (xs.getD k default)))) (.pure (.idx _ _ _ 9 (k) rfl Try.underlying22 sz9 rfl rfl rfl get_mapA)) (Ch.s (.d (.str (xs.getD k default))) (.pure (.loadRef1 _ _ rfl ag9 rfl rfl)) (Ch.s (.d (.str (xs.getD k default))) pa ?_)))))))
  refine Ch.nil (T_seq (T_region hc (Ch.s (.d (.str (xs.getD k default))) pm (Ch.s (.d (.str u)) pm (Ch.s (.d (.bool (hasB (xs.getD k default) u))) (.call 15000 33 _ _ _ en33 rfl (.inl rfl) (.cons (.d _) (.cons (.d _) .nil)) rfl rfl (sp_spec_l13Has (xs.getD k default) u a8 a8) (.skip _ _ (.skip _ _ .nil)) rfl) (Ch.nil ?_))))))
  refine T_cond (b := (hasB (xs.getD k default) u)) rfl (fun h2 => ?_) (fun h2 => ?_)
  ·
   refine T_seq (T_region hc (Ch.s (.d (.bool true)) pa (Ch.nil (T_ret ?_))))
   exact endR [(.d (.bool true))] [] [] (.cons (.tmp 4 rfl) .nil) (.cons (.any _) (.cons (.any _) .nil)) (Exp.of (congrArg D.bool (by exact any_yes default k (by omega) (by assumption))) (.d _)) rfl rfl
  ·
   refine T_skip (T_region hc (Ch.s (.d (.int .i64 ((k : Int) + 1))) (iX rfl rfl intV_addA) (Ch.s (.d (.int .i64 ((k : Int) + 1))) pm (Ch.nil ?_))))
   exact nx (k + 1) ⟨by omega, upto_succ hp0.2 (by assumption)⟩ (Wk.of rfl rfl (ai rfl (ai rfl (ai rfl (ai (vI a50) trivial)))) trivial)
 ·
  try have hk := hx _ (getD_mem (l := xs) (j := k) (d := default) (by omega))
  refine T_exit (T_seq (T_region hc (Ch.s (.d (.bool false)) pa (Ch.nil (T_ret ?_)))))
  exact endR [(.d (.bool false))] [] [] (.cons (.tmp 4 rfl) .nil) (.cons (.any _) (.cons (.any _) .nil)) (Exp.of (congrArg D.bool a48) (.d _)) rfl rfl

theorem en38 : Enters Try.prog 38 := ⟨_, Try.func38, by kernel_rfl, rfl⟩

theorem en50 : Enters Try.prog 50 := ⟨_, Try.func50, by kernel_rfl, rfl⟩

theorem en36 : Enters Try.prog 36 := ⟨_, Try.func36, by kernel_rfl, rfl⟩

theorem en26 : Enters Try.prog 26 := ⟨_, Try.func26, by kernel_rfl, rfl⟩

theorem en27 : Enters Try.prog 27 := ⟨_, Try.func27, by kernel_rfl, rfl⟩

theorem en28 : Enters Try.prog 28 := ⟨_, Try.func28, by kernel_rfl, rfl⟩

theorem ag22 : AggIs Try.prog 22 false := by unfold AggIs; kernel_rfl

theorem en23 : Enters Try.prog 23 := ⟨_, Try.func23, by kernel_rfl, rfl⟩

theorem en20 : Enters Try.prog 20 := ⟨_, Try.func20, by kernel_rfl, rfl⟩

theorem en22 : Enters Try.prog 22 := ⟨_, Try.func22, by kernel_rfl, rfl⟩

theorem en21 : Enters Try.prog 21 := ⟨_, Try.func21, by kernel_rfl, rfl⟩

def hasS (xs : List (List UInt8)) (u : List UInt8) : Bool := xs.any fun a => decide (a = u)

def upB (xs : List (List UInt8)) (j : Nat) : Bool := decide (j = 0) || Op.bytesLess (xs.getD (j - 1) default) (xs.getD j default)

def codesB (n : Int) (xs : List (List UInt8)) : Bool := allB xs.length fun j => codeN (xs.getD j default) n && upB xs j

def codesI (n : Int) (xs : List (List UInt8)) : Bool := allB xs.length fun j => isCodeB (xs.getD j default) n && upB xs j

def onoffB (n : Int) (xs ys : List (List UInt8)) : Bool := withinB n 1 8 && (decide ((xs.length : Int) ≤ 64) && (decide ((ys.length : Int) ≤ 256) && (codesB n xs && (codesB n ys && allOf xs (fun u => !hasS ys u)))))

theorem codesI_eq {n : Int} (h : withinB n 1 8 = true) (xs : List (List UInt8)) : codesI n xs = codesB n xs := by
 unfold codesI codesB
 apply allB_congr
 intro j _
 rw [code_eq, h, Bool.and_true]

theorem has_any (xs ys : List (List UInt8)) : (xs.any fun u => hasS ys u) = !allOf xs (fun u => !hasS ys u) := by
 rw [← any_not]; congr 1; funext u; rw [Bool.not_not]

theorem onoff_impl (n : Int) (xs ys : List (List UInt8)) : onoffB n xs ys = (withinB n 1 8 && ((codesI n xs && decide ((xs.length : Int) ≤ 64)) && ((codesI n ys && decide ((ys.length : Int) ≤ 256)) && !(xs.any fun u => hasS ys u)))) := by
  unfold onoffB
  cases hw : withinB n 1 8 with
  | false => rfl
  | true =>
    rw [codesI_eq hw, codesI_eq hw, has_any, Bool.not_not]
    cases codesB n xs <;> cases codesB n ys <;> cases decide ((xs.length : Int) ≤ 64) <;> cases decide ((ys.length : Int) ≤ 256) <;> simp

theorem sp_spec_l1HasS (xs : List (List UInt8)) (u : List UInt8) (hn : xs.length ≤ 1048576) : Sp Try.prog 28 [(.slice false 1 (xs.map D.str)), (.str u)] [.any, .any] (.bool (hasS xs u)) := by
 refine Sp_intro (lend := true) Try.func28 rfl rfl rfl (fun _ => rfl) (fun c hc hX => ?_)
 refine T_seq (T_region hc (Ch.s (.d (.bool false)) pa (Ch.nil (T_seq (T_seq (T_region hc (Ch.s (.d (.slice false 1 (xs.map D.str))) pm ?_)))))))
 refine Ch.s (.d (.int .i64 (xs.length : Int))) (.pure (.len _ _ 9 rfl Try.underlying22 (.sh _ _) (by simp))) (Ch.s (.d (.int .i64 0)) pm (Ch.nil (T_block ?_)))
 refine T_loop (ι := Nat) (fun k => { n := 17, sl := [(1, (.d (.str u))), (7, (.d (.slice false 1 (xs.map D.str)))), (8, (.d (.int .i64 (xs.length : Int)))), (9, (.d (.int .i64 (k : Int))))], hp := [], pin := [] }) (fun k => k ≤ xs.length ∧ ∀ j, j < k → decide (xs.getD j default = u) = false) (fun k => xs.length - k) ⟨0, ⟨by omega, fun j hj => by omega⟩, (Wk.of rfl rfl (ai rfl (ai rfl (ai rfl (ai (vI a50) trivial)))) trivial)⟩ (fun k hp0 => ?_)
 refine T_seq (T_region hc (Ch.s (.d (.bool (decide ((k : Int) < (xs.length : Int))))) (iX rfl rfl rfl) (Ch.nil (T_seq ?_))))
 refine T_condD (p := ((k : Int) < (xs.length : Int))) rfl (fun h1 => ?_) (fun h1 => ?_)
 ·
  refine T_skip (T_seq (T_block (T_seq (T_region hc (Ch.s (.d (.ref (.str (xs.getD k default)))) (.pure (.idx _ _ _ 9 (k) rfl Try.underlying22 sz9 rfl rfl rfl get_mapA)) (Ch.s (.d (.str (xs.getD k default))) (.pure (.loadRef1 _ _ rfl ag9 rfl rfl)) (Ch.s (.d (.str (xs.getD k default))) pa ?_)))))))
  refine Ch.nil (T_seq (T_region hc (Ch.s (.d (.str (xs.getD k default))) pm (Ch.s (.d (.str u)) pm (Ch.s (.d (.bool (decide ((xs.getD k default) = u)))) (.pure (.str _ _ _ _ _ rfl rfl rfl rfl)) (Ch.nil ?_))))))
  refine T_condD (p := ((xs.getD k default) = u)) rfl (fun h2 => ?_) (fun h2 => ?_)
  ·
   refine T_seq (T_region hc (Ch.s (.d (.bool true)) pa (Ch.nil (T_ret ?_))))
   exact endR [(.d (.bool true))] [] [] (.cons (.tmp 4 rfl) .nil) (.cons (.any _) (.cons (.any _) .nil)) (Exp.of (congrArg D.bool (by exact any_yes default k (by omega) (by simp_all))) (.d _)) rfl rfl
  ·
   refine T_skip (T_region hc (Ch.s (.d (.int .i64 ((k : Int) + 1))) (iX rfl rfl intV_addA) (Ch.s (.d (.int .i64 ((k : Int) + 1))) pm (Ch.nil ?_))))
   exact nx (k + 1) ⟨by omega, upto_succ hp0.2 a41⟩ (Wk.of rfl rfl (ai rfl (ai rfl (ai rfl (ai (vI a50) trivial)))) trivial)
 ·
  refine T_exit (T_seq (T_region hc (Ch.s (.d (.bool false)) pa (Ch.nil (T_ret ?_)))))
  exact endR [(.d (.bool false))] [] [] (.cons (.tmp 4 rfl) .nil) (.cons (.any _) (.cons (.any _) .nil)) (Exp.of (congrArg D.bool a48) (.d _)) rfl rfl

theorem sp_Index_str (xs : List (List UInt8)) (u : List UInt8) (hn : xs.length ≤ 1048576) : Sp Try.prog 38 [(.slice false 1 (xs.map D.str)), (.str u)] [.any, .any] (.int .i64 (ixF (fun a => decide (a = u)) xs)) := by
 refine Sp_intro (lend := true) Try.func38 rfl rfl rfl (fun _ => rfl) (fun c hc hX => ?_)
 refine T_seq (T_region hc (Ch.s (.d (.int .i64 0)) pa (Ch.nil (T_seq (T_seq (T_region hc (Ch.s (.d (.slice false 1 (xs.map D.str))) pm ?_)))))))
 refine Ch.s (.d (.int .i64 (xs.length : Int))) (.pure (.len _ _ 9 rfl Try.underlying22 (.sh _ _) (by simp))) (Ch.s (.d (.int .i64 0)) pm (Ch.nil (T_block ?_)))
 refine T_loop (ι := Nat) (fun k => { n := 19, sl := [(0, (.d (.slice false 1 (xs.map D.str)))), (1, (.d (.str u))), (7, (.d (.int .i64 (xs.length : Int)))), (8, (.d (.int .i64 (k : Int))))], hp := [], pin := [] }) (fun k => k ≤ xs.length ∧ ∀ j, j < k → decide (xs.getD j default = u) = false) (fun k => xs.length - k) ⟨0, ⟨by omega, fun j hj => by omega⟩, (Wk.of rfl rfl (ai rfl (ai rfl (ai rfl (ai (vI a50) trivial)))) trivial)⟩ (fun k hp0 => ?_)
 refine T_seq (T_region hc (Ch.s (.d (.bool (decide ((k : Int) < (xs.length : Int))))) (iX rfl rfl rfl) (Ch.nil (T_seq ?_))))
 refine T_condD (p := ((k : Int) < (xs.length : Int))) rfl (fun h1 => ?_) (fun h1 => ?_)
 ·
  refine T_skip (T_seq (T_block (T_seq (T_region hc (Ch.s (.d (.int .i64 (k : Int))) pm (Ch.s (.d (.int .i64 (k : Int))) pa (Ch.nil ?_)))))))
  refine T_seq (T_region hc (Ch.s (.d (.str u)) pm (Ch.s (.d (.slice false 1 (xs.map D.str))) pm (Ch.s (.d (.int .i64 (k : Int))) pm (Ch.s (.d (.ref (.str (xs.getD k default)))) (.pure (.idx _ _ _ 9 (k) rfl Try.underlying22 sz9 rfl rfl rfl get_mapA)) (Ch.s (.d (.str (xs.getD k default))) (.pure (.loadRef1 _ _ rfl ag9 rfl rfl)) (Ch.s (.d (.bool (decide (u = (xs.getD k default))))) (.pure (.str _ _ _ _ _ rfl rfl rfl rfl)) ?_)))))))
  refine Ch.nil ?_
  refine T_condD (p := (u = (xs.getD k default))) rfl (fun h2 => ?_) (fun h2 => ?_)
  ·
   refine T_seq (T_region hc (Ch.s (.d (.int .i64 (k : Int))) pm (Ch.s (.d (.int .i64 (k : Int))) pa (Ch.nil (T_ret ?_)))))
   exact endR [(.d (.int .i64 (k : Int)))] [] [] (.cons (.tmp 4 rfl) .nil) (.cons (.any _) (.cons (.any _) .nil)) (Exp.of (congrArg (D.int .i64) (by exact (ixF_some (d := default) (by omega) hp0.2 (by simp_all)).symm)) (.d _)) rfl rfl
  ·
   refine T_skip (T_region hc (Ch.s (.d (.int .i64 ((k : Int) + 1))) (iX rfl rfl intV_addA) (Ch.s (.d (.int .i64 ((k : Int) + 1))) pm (Ch.nil ?_))))
   exact nx (k + 1) ⟨by omega, upto_succ hp0.2 a41⟩ (Wk.of rfl rfl (ai rfl (ai rfl (ai rfl (ai (vI a50) trivial)))) trivial)
 ·
  refine T_exit (T_seq (T_region hc (Ch.s (.d (.int .i64 (-1))) pa (Ch.nil (T_ret ?_)))))
  exact endR [(.d (.int .i64 (-1)))] [] [] (.cons (.tmp 4 rfl) .nil) (.cons (.any _) (.cons (.any _) .nil)) (Exp.of (congrArg (D.int .i64) (by exact (ixF_none (d := default) (fun j hj => hp0.2 j (by omega))).symm)) (.d _)) rfl rfl

theorem sp_Contains_str (xs : List (List UInt8)) (u : List UInt8) (hn : xs.length ≤ 1048576) : Sp Try.prog 23 [(.slice false 1 (xs.map D.str)), (.str u)] [.any, .any] (.bool (hasS xs u)) := by
 refine Sp_intro (lend := true) Try.func23 rfl rfl rfl (fun _ => rfl) (fun c hc hX => ?_)
 refine T_seq (T_region hc (Ch.s (.d (.bool false)) pa (Ch.nil (T_seq (T_region hc (Ch.s (.d (.slice false 1 (xs.map D.str))) pm (Ch.s (.d (.str u)) pm ?_)))))))
 refine Ch.s (.d (.int .i64 (ixF (fun a => decide (a = u)) xs))) (.call 7000 38 _ _ _ en38 rfl (.inl rfl) (.cons (.d _) (.cons (.d _) .nil)) rfl rfl (sp_Index_str xs u a8) (.skip _ _ (.skip _ _ .nil)) rfl) (Ch.s (.d (.bool (decide (0 ≤ (ixF (fun a => decide (a = u)) xs))))) (iX rfl rfl rfl) (Ch.s (.d (.bool (decide (0 ≤ (ixF (fun a => decide (a = u)) xs))))) pa (Ch.nil (T_ret ?_))))
 exact endR [(.d (.bool (decide (0 ≤ (ixF (fun a => decide (a = u)) xs)))))] [] [] (.cons (.tmp 4 rfl) .nil) (.cons (.any _) (.cons (.any _) .nil)) (Exp.of (congrArg D.bool (by exact ixF_nonneg _ xs)) (.d _)) rfl rfl

theorem sp_spec_l14Codes (n : Int) (xs : List (List UInt8)) (hn : xs.length ≤ 1048576) (hx : ∀ x ∈ xs, x.length ≤ 1048576) : Sp Try.prog 27 [(.int .i64 n), (.slice false 1 (xs.map D.str))] [.any, .any] (.bool (codesB n xs)) := by
 refine Sp_intro (lend := true) Try.func27 rfl rfl rfl (fun _ => rfl) (fun c hc hX => ?_)
 refine T_seq (T_region hc (Ch.s (.d (.bool false)) pa (Ch.nil (T_seq (T_seq (T_region hc (Ch.s (.d (.slice false 1 (xs.map D.str))) pm ?_)))))))
 refine Ch.s (.d (.int .i64 (xs.length : Int))) (.pure (.len _ _ 9 rfl Try.underlying22 (.sh _ _) (by simp))) (Ch.s (.d (.int .i64 0)) pm (Ch.nil (T_block ?_)))
 refine T_loop (ι := Nat) (fun k => { n := 32, sl := [(0, (.d (.int .i64 n))), (1, (.d (.slice false 1 (xs.map D.str)))), (7, (.d (.slice false 1 (xs.map D.str)))), (8, (.d (.int .i64 (xs.length : Int)))), (9, (.d (.int .i64 (k : Int))))], hp := [], pin := [] }) (fun k => k ≤ xs.length ∧ ∀ j, j < k → (codeN (xs.getD j default) n && upB xs j) = true) (fun k => xs.length - k) ⟨0, ⟨by omega, fun j hj => by omega⟩, (Wk.of rfl rfl (ai rfl (ai rfl (ai rfl (ai rfl (ai (vI a50) trivial))))) trivial)⟩ (fun k hp0 => ?_)
 refine T_seq (T_region hc (Ch.s (.d (.bool (decide ((k : Int) < (xs.length : Int))))) (iX rfl rfl rfl) (Ch.nil (T_seq ?_))))
 refine T_condD (p := ((k : Int) < (xs.length : Int))) rfl (fun h1 => ?_) (fun h1 => ?_)
 ·
  refine T_skip (T_seq (T_block (T_seq (T_region hc (Ch.s (.d (.int .i64 (k : Int))) pm (Ch.s (.d (.ref (.str (xs.getD k default)))) (.pure (.idx _ _ _ 9 (k) rfl Try.underlying22 sz9 rfl rfl rfl get_mapA)) (Ch.s (.d (.str (xs.getD k default))) (.pure (.loadRef1 _ _ rfl ag9 rfl rfl)) ?_)))))))
  refine Ch.s (.d (.int .i64 (k : Int))) pa (Ch.s (.d (.str (xs.getD k default))) pa (Ch.nil (T_seq (T_region hc (Ch.s (.d (.str (xs.getD k default))) pm (Ch.s (.d (.int .i64 n)) pm (Ch.s (.d (.bool (codeN (xs.getD k default) n))) (.call 16000 50 _ _ _ en50 rfl (.inl rfl) (.cons (.d _) (.cons (.d _) .nil)) rfl rfl (sp_spec_l5Code (xs.getD k default) n a8) (.skip _ _ (.skip _ _ .nil)) rfl) ?_)))))))
  refine Ch.s (.d (.bool (!(codeN (xs.getD k default) n)))) (.pure (.not _ _ rfl rfl)) (Ch.s (.d (.bool (!(codeN (xs.getD k default) n)))) pm ?_)
  cases h2 : (codeN (xs.getD k default) n) with
  | true =>
   refine Ch.s (.d (.int .i64 (k : Int))) pm (Ch.s (.d (.bool (decide (0 < (k : Int))))) (iX rfl rfl rfl) (Ch.s (.d (.bool (decide (0 < (k : Int))))) pm ?_))
   cases h3 : (decide (0 < (k : Int))) with
   | true =>
    replace h3 := of_decide_eq_true h3
    refine Ch.s (.d (.slice false 1 (xs.map D.str))) pm (Ch.s (.d (.int .i64 (k : Int))) pm (Ch.s (.d (.int .i64 ((k : Int) - 1))) (iX rfl rfl intV_subA) (Ch.s (.d (.ref (.str (xs.getD (k - 1) default)))) (.pure (.idx _ _ _ 9 ((k - 1)) rfl Try.underlying22 sz9 rfl rfl (by omega) get_mapA)) (Ch.s (.d (.str (xs.getD (k - 1) default))) (.pure (.loadRef1 _ _ rfl ag9 rfl rfl)) (Ch.s (.d (.str (xs.getD k default))) pm (Ch.s (.d (.bool (!(Op.bytesLess (xs.getD (k - 1) default) (xs.getD k default))))) (.pure (.str _ _ _ _ _ rfl rfl rfl rfl)) (Ch.s (.d (.bool (!(Op.bytesLess (xs.getD (k - 1) default) (xs.getD k default))))) (.pure (.pickT _ _ _ rfl rfl rfl)) ?_)))))))
    refine Ch.s (.d (.bool (!(Op.bytesLess (xs.getD (k - 1) default) (xs.getD k default))))) (.pure (.pickF _ _ _ rfl rfl rfl)) (Ch.nil ?_)
    refine T_condN (b := (Op.bytesLess (xs.getD (k - 1) default) (xs.getD k default))) rfl (fun h4 => ?_) (fun h4 => ?_)
    ·
     refine T_seq (T_region hc (Ch.s (.d (.bool false)) pa (Ch.nil (T_ret ?_))))
     exact endR [(.d (.bool false))] [] [] (.cons (.tmp 4 rfl) .nil) (.cons (.any _) (.cons (.any _) .nil)) (Exp.of (congrArg D.bool a19) (.d _)) rfl rfl
    ·
     refine T_skip (T_region hc (Ch.s (.d (.int .i64 ((k : Int) + 1))) (iX rfl rfl intV_addA) (Ch.s (.d (.int .i64 ((k : Int) + 1))) pm (Ch.nil ?_))))
     exact nx (k + 1) ⟨by omega, upto_succ hp0.2 a47⟩ (Wk.of rfl rfl (ai rfl (ai rfl (ai rfl (ai rfl (ai (vI a50) trivial))))) trivial)
   | false =>
    replace h3 := of_decide_eq_false h3
    refine Ch.skip rfl rfl (Ch.skip rfl rfl (Ch.skip rfl rfl (Ch.skip rfl rfl (Ch.skip rfl rfl (Ch.skip rfl rfl (Ch.skip rfl rfl (Ch.s (.d (.bool false)) (.pure (.pickF _ _ _ rfl rfl rfl)) ?_)))))))
    refine Ch.s (.d (.bool false)) (.pure (.pickF _ _ _ rfl rfl rfl)) (Ch.nil ?_)
    refine T_cond (b := false) rfl (fun h => nomatch h) (fun _ => ?_)
    refine T_skip (T_region hc (Ch.s (.d (.int .i64 ((k : Int) + 1))) (iX rfl rfl intV_addA) (Ch.s (.d (.int .i64 ((k : Int) + 1))) pm (Ch.nil ?_))))
    exact nx (k + 1) ⟨by omega, upto_succ hp0.2 a47⟩ (Wk.of rfl rfl (ai rfl (ai rfl (ai rfl (ai rfl (ai (vI a50) trivial))))) trivial)
  | false =>
   refine Ch.skip rfl rfl (Ch.skip rfl rfl (Ch.skip rfl rfl (Ch.skip rfl rfl (Ch.skip rfl rfl (Ch.skip rfl rfl (Ch.skip rfl rfl (Ch.skip rfl rfl ?_)))))))
   refine Ch.skip rfl rfl (Ch.skip rfl rfl (Ch.skip rfl rfl (Ch.s (.d (.bool true)) (.pure (.pickT _ _ _ rfl rfl rfl)) (Ch.nil ?_))))
   refine T_cond (b := true) rfl (fun _ => ?_) (fun h => nomatch h)
   refine T_seq (T_region hc (Ch.s (.d (.bool false)) pa (Ch.nil (T_ret ?_))))
   exact endR [(.d (.bool false))] [] [] (.cons (.tmp 4 rfl) .nil) (.cons (.any _) (.cons (.any _) .nil)) (Exp.of (congrArg D.bool a19) (.d _)) rfl rfl
 ·
  refine T_exit (T_seq (T_region hc (Ch.s (.d (.bool true)) pa (Ch.nil (T_ret ?_)))))
  exact endR [(.d (.bool true))] [] [] (.cons (.tmp 4 rfl) .nil) (.cons (.any _) (.cons (.any _) .nil)) (Exp.of (congrArg D.bool a19) (.d _)) rfl rfl

theorem sp_impl_areCodes (n : Int) (xs : List (List UInt8)) (most : Int) (hn : xs.length ≤ 1048576) (hx : ∀ x ∈ xs, x.length ≤ 1048576) : Sp Try.prog 20 [(.int .i64 n), (.slice false 1 (xs.map D.str)), (.int .i64 most)] [.any, .any, .any] (.bool (codesI n xs && decide ((xs.length : Int) ≤ most))) := by
 refine Sp_intro (lend := true) Try.func20 rfl rfl rfl (fun _ => rfl) (fun c hc hX => ?_)
 refine T_seq (T_region hc (Ch.s (.d (.bool false)) pa (Ch.nil (T_seq (T_seq (T_region hc (Ch.s (.d (.slice false 1 (xs.map D.str))) pm ?_)))))))
 refine Ch.s (.d (.int .i64 (xs.length : Int))) (.pure (.len _ _ 9 rfl Try.underlying22 (.sh _ _) (by simp))) (Ch.s (.d (.int .i64 0)) pm (Ch.nil (T_block ?_)))
 refine T_loop (ι := Nat) (fun k => { n := 38, sl := [(0, (.d (.int .i64 n))), (1, (.d (.slice false 1 (xs.map D.str)))), (2, (.d (.int .i64 most))), (9, (.d (.slice false 1 (xs.map D.str)))), (10, (.d (.int .i64 (xs.length : Int)))), (11, (.d (.int .i64 (k : Int))))], hp := [], pin := [] }) (fun k => k ≤ xs.length ∧ ∀ j, j < k → (isCodeB (xs.getD j default) n && upB xs j) = true) (fun k => xs.length - k) ⟨0, ⟨by omega, fun j hj => by omega⟩, (Wk.of rfl rfl (ai rfl (ai rfl (ai rfl (ai rfl (ai rfl (ai (vI a50) trivial)))))) trivial)⟩ (fun k hp0 => ?_)
 refine T_seq (T_region hc (Ch.s (.d (.bool (decide ((k : Int) < (xs.length : Int))))) (iX rfl rfl rfl) (Ch.nil (T_seq ?_))))
 refine T_condD (p := ((k : Int) < (xs.length : Int))) rfl (fun h1 => ?_) (fun h1 => ?_)
 ·
  refine T_skip (T_seq (T_block (T_seq (T_region hc (Ch.s (.d (.int .i64 (k : Int))) pm (Ch.s (.d (.ref (.str (xs.getD k default)))) (.pure (.idx _ _ _ 9 (k) rfl Try.underlying22 sz9 rfl rfl rfl get_mapA)) (Ch.s (.d (.str (xs.getD k default))) (.pure (.loadRef1 _ _ rfl ag9 rfl rfl)) ?_)))))))
  refine Ch.s (.d (.int .i64 (k : Int))) pa (Ch.s (.d (.str (xs.getD k default))) pa (Ch.nil (T_seq (T_region hc (Ch.s (.d (.str (xs.getD k default))) pm (Ch.s (.d (.int .i64 n)) pm (Ch.s (.d (.bool (isCodeB (xs.getD k default) n))) (.call 18000 36 _ _ _ en36 rfl (.inl rfl) (.cons (.d _) (.cons (.d _) .nil)) rfl rfl (sp_impl_isCode (xs.getD k default) n a8) (.skip _ _ (.skip _ _ .nil)) rfl) ?_)))))))
  refine Ch.s (.d (.bool (!(isCodeB (xs.getD k default) n)))) (.pure (.not _ _ rfl rfl)) (Ch.s (.d (.bool (!(isCodeB (xs.getD k default) n)))) pm ?_)
  cases h2 : (isCodeB (xs.getD k default) n) with
  | true =>
   refine Ch.s (.d (.int .i64 (k : Int))) pm (Ch.s (.d (.bool (decide (0 < (k : Int))))) (iX rfl rfl rfl) (Ch.s (.d (.bool (decide (0 < (k : Int))))) pm ?_))
   cases h3 : (decide (0 < (k : Int))) with
   | true =>
    replace h3 := of_decide_eq_true h3
    refine Ch.s (.d (.slice false 1 (xs.map D.str))) pm (Ch.s (.d (.int .i64 (k : Int))) pm (Ch.s (.d (.int .i64 ((k : Int) - 1))) (iX rfl rfl intV_subA) (Ch.s (.d (.ref (.str (xs.getD (k - 1) default)))) (.pure (.idx _ _ _ 9 ((k - 1)) rfl Try.underlying22 sz9 rfl rfl (by omega) get_mapA)) (Ch.s (.d (.str (xs.getD (k - 1) default))) (.pure (.loadRef1 _ _ rfl ag9 rfl rfl)) (Ch.s (.d (.str (xs.getD k default))) pm (Ch.s (.d (.bool (!(Op.bytesLess (xs.getD (k - 1) default) (xs.getD k default))))) (.pure (.str _ _ _ _ _ rfl rfl rfl rfl)) (Ch.s (.d (.bool (!(Op.bytesLess (xs.getD (k - 1) default) (xs.getD k default))))) (.pure (.pickT _ _ _ rfl rfl rfl)) ?_)))))))
    refine Ch.s (.d (.bool (!(Op.bytesLess (xs.getD (k - 1) default) (xs.getD k default))))) (.pure (.pickF _ _ _ rfl rfl rfl)) (Ch.nil ?_)
    refine T_condN (b := (Op.bytesLess (xs.getD (k - 1) default) (xs.getD k default))) rfl (fun h4 => ?_) (fun h4 => ?_)
    ·
     refine T_seq (T_region hc (Ch.s (.d (.bool false)) pa (Ch.nil (T_ret ?_))))
     exact endR [(.d (.bool false))] [] [] (.cons (.tmp 6 rfl) .nil) (.cons (.any _) (.cons (.any _) (.cons (.any _) .nil))) (Exp.of (congrArg D.bool a16) (.d _)) rfl rfl
    ·
     refine T_skip (T_region hc (Ch.s (.d (.int .i64 ((k : Int) + 1))) (iX rfl rfl intV_addA) (Ch.s (.d (.int .i64 ((k : Int) + 1))) pm (Ch.nil ?_))))
     exact nx (k + 1) ⟨by omega, upto_succ hp0.2 a47⟩ (Wk.of rfl rfl (ai rfl (ai rfl (ai rfl (ai rfl (ai rfl (ai (vI a50) trivial)))))) trivial)
   | false =>
    replace h3 := of_decide_eq_false h3
    refine Ch.skip rfl rfl (Ch.skip rfl rfl (Ch.skip rfl rfl (Ch.skip rfl rfl (Ch.skip rfl rfl (Ch.skip rfl rfl (Ch.skip rfl rfl (Ch.s (.d (.bool false)) (.pure (.pickF _ _ _ rfl rfl rfl)) ?_)))))))
    refine Ch.s (.d (.bool false)) (.pure (.pickF _ _ _ rfl rfl rfl)) (Ch.nil ?_)
    refine T_cond (b := false) rfl (fun h => nomatch h) (fun _ => ?_)
    refine T_skip (T_region hc (Ch.s (.d (.int .i64 ((k : Int) + 1))) (iX rfl rfl intV_addA) (Ch.s (.d (.int .i64 ((k : Int) + 1))) pm (Ch.nil ?_))))
    exact nx (k + 1) ⟨by omega, upto_succ hp0.2 a47⟩ (Wk.of rfl rfl (ai rfl (ai rfl (ai rfl (ai rfl (ai rfl (ai (vI a50) trivial)))))) trivial)
  | false =>
   refine Ch.skip rfl rfl (Ch.skip rfl rfl (Ch.skip rfl rfl (Ch.skip rfl rfl (Ch.skip rfl rfl (Ch.skip rfl rfl (Ch.skip rfl rfl (Ch.skip rfl rfl ?_)))))))
   refine Ch.skip rfl rfl (Ch.skip rfl rfl (Ch.skip rfl rfl (Ch.s (.d (.bool true)) (.pure (.pickT _ _ _ rfl rfl rfl)) (Ch.nil ?_))))
   refine T_cond (b := true) rfl (fun _ => ?_) (fun h => nomatch h)
   refine T_seq (T_region hc (Ch.s (.d (.bool false)) pa (Ch.nil (T_ret ?_))))
   exact endR [(.d (.bool false))] [] [] (.cons (.tmp 6 rfl) .nil) (.cons (.any _) (.cons (.any _) (.cons (.any _) .nil))) (Exp.of (congrArg D.bool a16) (.d _)) rfl rfl
 ·
  refine T_exit (T_seq (T_region hc (Ch.s (.d (.slice false 1 (xs.map D.str))) pm (Ch.s (.d (.int .i64 (xs.length : Int))) (.pure (.len _ _ 9 rfl Try.underlying22 (.sh _ _) (by simp))) (Ch.s (.d (.int .i64 most)) pm (Ch.s (.d (.bool (decide ((xs.length : Int) ≤ most)))) (iX rfl rfl rfl) (Ch.s (.d (.bool (decide ((xs.length : Int) ≤ most)))) pa ?_)))))))
  refine Ch.nil (T_ret ?_)
  exact endR [(.d (.bool (decide ((xs.length : Int) ≤ most))))] [] [] (.cons (.tmp 6 rfl) .nil) (.cons (.any _) (.cons (.any _) (.cons (.any _) .nil))) (Exp.of (congrArg D.bool a16) (.d _)) rfl rfl

theorem sp_spec_l14Sets (n : Int) (xs ys : List (List UInt8)) (hn : xs.length ≤ 1048576) (hx : ∀ x ∈ xs, x.length ≤ 1048576) (hm : ys.length ≤ 1048576) (hy : ∀ x ∈ ys, x.length ≤ 1048576) : Sp Try.prog 16 [(.int .i64 n), (.slice false 1 (xs.map D.str)), (.slice false 1 (ys.map D.str))] [.any, .any, .any] (.bool (onoffB n xs ys)) := by
 refine Sp_intro (lend := true) Try.func16 rfl rfl rfl (fun _ => rfl) (fun c hc hX => ?_)
 refine T_seq (T_region hc (Ch.s (.d (.bool false)) pa (Ch.nil (T_seq (T_seq (T_region hc (Ch.s (.d (.int .i64 n)) pm ?_)))))))
 refine Ch.s (.d (.bool (withinB n 1 8))) (.call 10000 26 _ _ _ en26 rfl (.inl rfl) (.cons (.d _) (.cons (.d _) (.cons (.d _) .nil))) rfl rfl (sp_spec_l1In n 1 8) (.skip _ _ (.skip _ _ (.skip _ _ .nil))) rfl) (Ch.s (.d (.bool (!(withinB n 1 8)))) (.pure (.not _ _ rfl rfl)) (Ch.s (.d (.bool (!(withinB n 1 8)))) pm ?_))
 cases h1 : (withinB n 1 8) with
 | true =>
  refine Ch.s (.d (.slice false 1 (xs.map D.str))) pm (Ch.s (.d (.int .i64 (xs.length : Int))) (.pure (.len _ _ 9 rfl Try.underlying22 (.sh _ _) (by simp))) (Ch.s (.d (.bool (decide (64 < (xs.length : Int))))) (iX rfl rfl rfl) (Ch.s (.d (.bool (decide (64 < (xs.length : Int))))) (.pure (.pickF _ _ _ rfl rfl rfl)) (Ch.s (.d (.bool (decide (64 < (xs.length : Int))))) pm ?_))))
  cases h2 : (decide (64 < (xs.length : Int))) with
  | true =>
   replace h2 := of_decide_eq_true h2
   refine Ch.skip rfl rfl (Ch.skip rfl rfl (Ch.skip rfl rfl (Ch.s (.d (.bool true)) (.pure (.pickT _ _ _ rfl rfl rfl)) (Ch.s (.d (.bool true)) pm (Ch.skip rfl rfl (Ch.skip rfl rfl (Ch.skip rfl rfl ?_)))))))
   refine Ch.skip rfl rfl (Ch.s (.d (.bool true)) (.pure (.pickT _ _ _ rfl rfl rfl)) (Ch.s (.d (.bool true)) pm (Ch.skip rfl rfl (Ch.skip rfl rfl (Ch.skip rfl rfl (Ch.skip rfl rfl (Ch.s (.d (.bool true)) (.pure (.pickT _ _ _ rfl rfl rfl)) ?_)))))))
   refine Ch.nil ?_
   refine T_cond (b := true) rfl (fun _ => ?_) (fun h => nomatch h)
   refine T_seq (T_region hc (Ch.s (.d (.bool false)) pa (Ch.nil (T_ret ?_))))
   exact endR [(.d (.bool false))] [] [] (.cons (.tmp 6 rfl) .nil) (.cons (.any _) (.cons (.any _) (.cons (.any _) .nil))) (Exp.of (congrArg D.bool a11) (.d _)) rfl rfl
  | false =>
   replace h2 := of_decide_eq_false h2
   refine Ch.s (.d (.slice false 1 (ys.map D.str))) pm (Ch.s (.d (.int .i64 (ys.length : Int))) (.pure (.len _ _ 9 rfl Try.underlying22 (.sh _ _) (by simp))) (Ch.s (.d (.bool (decide (256 < (ys.length : Int))))) (iX rfl rfl rfl) (Ch.s (.d (.bool (decide (256 < (ys.length : Int))))) (.pure (.pickF _ _ _ rfl rfl rfl)) (Ch.s (.d (.bool (decide (256 < (ys.length : Int))))) pm ?_))))
   cases h3 : (decide (256 < (ys.length : Int))) with
   | true =>
    replace h3 := of_decide_eq_true h3
    refine Ch.skip rfl rfl (Ch.skip rfl rfl (Ch.skip rfl rfl (Ch.skip rfl rfl (Ch.s (.d (.bool true)) (.pure (.pickT _ _ _ rfl rfl rfl)) (Ch.s (.d (.bool true)) pm (Ch.skip rfl rfl (Ch.skip rfl rfl ?_)))))))
    refine Ch.skip rfl rfl (Ch.skip rfl rfl (Ch.s (.d (.bool true)) (.pure (.pickT _ _ _ rfl rfl rfl)) (Ch.nil ?_)))
    refine T_cond (b := true) rfl (fun _ => ?_) (fun h => nomatch h)
    refine T_seq (T_region hc (Ch.s (.d (.bool false)) pa (Ch.nil (T_ret ?_))))
    exact endR [(.d (.bool false))] [] [] (.cons (.tmp 6 rfl) .nil) (.cons (.any _) (.cons (.any _) (.cons (.any _) .nil))) (Exp.of (congrArg D.bool a11) (.d _)) rfl rfl
   | false =>
    replace h3 := of_decide_eq_false h3
    refine Ch.s (.d (.int .i64 n)) pm (Ch.s (.d (.slice false 1 (xs.map D.str))) pm (Ch.s (.d (.bool (codesB n xs))) (.call 25000 27 _ _ _ en27 rfl (.inl rfl) (.cons (.d _) (.cons (.d _) .nil)) rfl rfl (sp_spec_l14Codes n xs a8 a8) (.skip _ _ (.skip _ _ .nil)) rfl) (Ch.s (.d (.bool (!(codesB n xs)))) (.pure (.not _ _ rfl rfl)) (Ch.s (.d (.bool (!(codesB n xs)))) (.pure (.pickF _ _ _ rfl rfl rfl)) (Ch.s (.d (.bool (!(codesB n xs)))) pm ?_)))))
    cases h4 : (codesB n xs) with
    | true =>
     refine Ch.s (.d (.int .i64 n)) pm (Ch.s (.d (.slice false 1 (ys.map D.str))) pm (Ch.s (.d (.bool (codesB n ys))) (.call 31000 27 _ _ _ en27 rfl (.inl rfl) (.cons (.d _) (.cons (.d _) .nil)) rfl rfl (sp_spec_l14Codes n ys a8 a8) (.skip _ _ (.skip _ _ .nil)) rfl) (Ch.s (.d (.bool (!(codesB n ys)))) (.pure (.not _ _ rfl rfl)) (Ch.s (.d (.bool (!(codesB n ys)))) (.pure (.pickF _ _ _ rfl rfl rfl)) (Ch.nil ?_)))))
     refine T_condN (b := (codesB n ys)) rfl (fun h5 => ?_) (fun h5 => ?_)
     ·
      refine T_seq (T_region hc (Ch.s (.d (.bool false)) pa (Ch.nil (T_ret ?_))))
      exact endR [(.d (.bool false))] [] [] (.cons (.tmp 6 rfl) .nil) (.cons (.any _) (.cons (.any _) (.cons (.any _) .nil))) (Exp.of (congrArg D.bool a11) (.d _)) rfl rfl
     ·
      refine T_skip (T_seq (T_seq (T_region hc (Ch.s (.d (.slice false 1 (xs.map D.str))) pm (Ch.s (.d (.int .i64 (xs.length : Int))) (.pure (.len _ _ 9 rfl Try.underlying22 (.sh _ _) (by simp))) (Ch.s (.d (.int .i64 0)) pm (Ch.nil ?_)))))))
      refine T_block ?_
      refine T_loop (ι := Nat) (fun k => { n := 44, sl := [(2, (.d (.slice false 1 (ys.map D.str)))), (34, (.d (.slice false 1 (xs.map D.str)))), (35, (.d (.int .i64 (xs.length : Int)))), (36, (.d (.int .i64 (k : Int))))], hp := [], pin := [] }) (fun k => k ≤ xs.length ∧ ∀ j, j < k → (!hasS ys (xs.getD j default)) = true) (fun k => xs.length - k) ⟨0, ⟨by omega, fun j hj => by omega⟩, (Wk.of rfl rfl (ai rfl (ai rfl (ai rfl (ai (vI a50) trivial)))) trivial)⟩ (fun k hp0 => ?_)
      refine T_seq (T_region hc (Ch.s (.d (.bool (decide ((k : Int) < (xs.length : Int))))) (iX rfl rfl rfl) (Ch.nil (T_seq ?_))))
      refine T_condD (p := ((k : Int) < (xs.length : Int))) rfl (fun h6 => ?_) (fun h6 => ?_)
      ·
       refine T_skip (T_seq (T_block (T_seq (T_region hc (Ch.s (.d (.ref (.str (xs.getD k default)))) (.pure (.idx _ _ _ 9 (k) rfl Try.underlying22 sz9 rfl rfl rfl get_mapA)) (Ch.s (.d (.str (xs.getD k default))) (.pure (.loadRef1 _ _ rfl ag9 rfl rfl)) (Ch.s (.d (.str (xs.getD k default))) pa ?_)))))))
       refine Ch.nil (T_seq (T_region hc (Ch.s (.d (.slice false 1 (ys.map D.str))) pm (Ch.s (.d (.str (xs.getD k default))) pm (Ch.s (.d (.bool (hasS ys (xs.getD k default)))) (.call 42000 28 _ _ _ en28 rfl (.inl rfl) (.cons (.d _) (.cons (.d _) .nil)) rfl rfl (sp_spec_l1HasS ys (xs.getD k default) a8) (.skip _ _ (.skip _ _ .nil)) rfl) (Ch.nil ?_))))))
       refine T_cond (b := (hasS ys (xs.getD k default))) rfl (fun h7 => ?_) (fun h7 => ?_)
       ·
        refine T_seq (T_region hc (Ch.s (.d (.bool false)) pa (Ch.nil (T_ret ?_))))
        exact endR [(.d (.bool false))] [] [] (.cons (.tmp 6 rfl) .nil) (.cons (.any _) (.cons (.any _) (.cons (.any _) .nil))) (Exp.of (congrArg D.bool a11) (.d _)) rfl rfl
       ·
        refine T_skip (T_region hc (Ch.s (.d (.int .i64 ((k : Int) + 1))) (iX rfl rfl intV_addA) (Ch.s (.d (.int .i64 ((k : Int) + 1))) pm (Ch.nil ?_))))
        exact nx (k + 1) ⟨by omega, upto_succ hp0.2 (by simp_all)⟩ (Wk.of rfl rfl (ai rfl (ai rfl (ai rfl (ai (vI a50) trivial)))) trivial)
      ·
       refine T_exit (T_seq (T_region hc (Ch.s (.d (.bool true)) pa (Ch.nil (T_ret ?_)))))
       exact endR [(.d (.bool true))] [] [] (.cons (.tmp 6 rfl) .nil) (.cons (.any _) (.cons (.any _) (.cons (.any _) .nil))) (Exp.of (congrArg D.bool a11) (.d _)) rfl rfl
    | false =>
     refine Ch.skip rfl rfl (Ch.skip rfl rfl (Ch.skip rfl rfl (Ch.skip rfl rfl (Ch.s (.d (.bool true)) (.pure (.pickT _ _ _ rfl rfl rfl)) (Ch.nil ?_)))))
     refine T_cond (b := true) rfl (fun _ => ?_) (fun h => nomatch h)
     refine T_seq (T_region hc (Ch.s (.d (.bool false)) pa (Ch.nil (T_ret ?_))))
     exact endR [(.d (.bool false))] [] [] (.cons (.tmp 6 rfl) .nil) (.cons (.any _) (.cons (.any _) (.cons (.any _) .nil))) (Exp.of (congrArg D.bool a11) (.d _)) rfl rfl
 | false =>
  refine Ch.skip rfl rfl (Ch.skip rfl rfl (Ch.skip rfl rfl (Ch.s (.d (.bool true)) (.pure (.pickT _ _ _ rfl rfl rfl)) (Ch.s (.d (.bool true)) pm (Ch.skip rfl rfl (Ch.skip rfl rfl (Ch.skip rfl rfl ?_)))))))
  refine Ch.s (.d (.bool true)) (.pure (.pickT _ _ _ rfl rfl rfl)) (Ch.s (.d (.bool true)) pm (Ch.skip rfl rfl (Ch.skip rfl rfl (Ch.skip rfl rfl (Ch.skip rfl rfl (Ch.s (.d (.bool true)) (.pure (.pickT _ _ _ rfl rfl rfl)) (Ch.s (.d (.bool true)) pm ?_)))))))
  refine Ch.skip rfl rfl (Ch.skip rfl rfl (Ch.skip rfl rfl (Ch.skip rfl rfl (Ch.s (.d (.bool true)) (.pure (.pickT _ _ _ rfl rfl rfl)) (Ch.nil ?_)))))
  refine T_cond (b := true) rfl (fun _ => ?_) (fun h => nomatch h)
  refine T_seq (T_region hc (Ch.s (.d (.bool false)) pa (Ch.nil (T_ret ?_))))
  exact endR [(.d (.bool false))] [] [] (.cons (.tmp 6 rfl) .nil) (.cons (.any _) (.cons (.any _) (.cons (.any _) .nil))) (Exp.of (congrArg D.bool a11) (.d _)) rfl rfl

theorem sp_impl_IsValidOnOff_1 (u : List UInt8) (ys : List (List UInt8)) (hm : ys.length ≤ 1048576) : Sp Try.prog 22 [(.str u), (.ref (.slice false 1 (ys.map D.str)))] [.any, .any] (.bool (hasS ys u)) := by
 refine Sp_intro (lend := true) Try.func22 rfl rfl rfl (fun _ => rfl) (fun c hc hX => ?_)
 refine T_seq (T_region hc (Ch.s (.d (.bool false)) pa (Ch.nil (T_seq (T_region hc (Ch.s (.d (.slice false 1 (ys.map D.str))) (.pure (.loadRef1 _ _ rfl ag22 rfl rfl)) (Ch.s (.d (.str u)) pm ?_)))))))
 refine Ch.s (.d (.bool (hasS ys u))) (.call 6000 23 _ _ _ en23 rfl (.inl rfl) (.cons (.d _) (.cons (.d _) .nil)) rfl rfl (sp_Contains_str ys u a8) (.skip _ _ (.skip _ _ .nil)) rfl) (Ch.s (.d (.bool (hasS ys u))) pa (Ch.nil (T_ret ?_)))
 exact endR [(.d (.bool (hasS ys u)))] [] [] (.cons (.tmp 3 rfl) .nil) (.cons (.any _) (.cons (.any _) .nil)) (.d _) rfl rfl

theorem sp_impl_IsValidOnOff (n : Int) (xs ys : List (List UInt8)) (hn : xs.length ≤ 1048576) (hx : ∀ x ∈ xs, x.length ≤ 1048576) (hm : ys.length ≤ 1048576) (hy : ∀ x ∈ ys, x.length ≤ 1048576) : Sp Try.prog 13 [(.int .i64 n), (.slice false 1 (xs.map D.str)), (.slice false 1 (ys.map D.str))] [.any, .any, .any] (.bool (onoffB n xs ys)) := by
 refine Sp_intro (lend := true) Try.func13 rfl rfl rfl (fun _ => rfl) (fun c hc hX => ?_)
 refine T_seq (T_region hc (Ch.s (.ptr 5000 0) (.box 5000 _ _ rfl (.one _ rfl)) (Ch.s (.d (.bool false)) pa (Ch.nil (T_seq (T_region hc (Ch.s (.d (.int .i64 n)) pm ?_)))))))
 refine Ch.s (.d (.bool (withinB n 1 8))) (.call 8000 19 _ _ _ en19 rfl (.inl rfl) (.cons (.d _) (.cons (.d _) (.cons (.d _) .nil))) rfl rfl (sp_impl_within n 1 8) (.skip _ _ (.skip _ _ (.skip _ _ .nil))) rfl) (Ch.s (.d (.bool (withinB n 1 8))) pm ?_)
 cases h1 : (withinB n 1 8) with
 | true =>
  refine Ch.s (.d (.int .i64 n)) pm (Ch.s (.d (.slice false 1 (xs.map D.str))) pm (Ch.s (.d (.bool (codesI n xs && decide ((xs.length : Int) ≤ 64)))) (.call 12000 20 _ _ _ en20 rfl (.inl rfl) (.cons (.d _) (.cons (.d _) (.cons (.d _) .nil))) rfl rfl (sp_impl_areCodes n xs 64 a8 a8) (.skip _ _ (.skip _ _ (.skip _ _ .nil))) rfl) (Ch.s (.d (.bool (codesI n xs && decide ((xs.length : Int) ≤ 64)))) (.pure (.pickT _ _ _ rfl rfl rfl)) (Ch.s (.d (.bool (codesI n xs && decide ((xs.length : Int) ≤ 64)))) pm ?_))))
  cases h2 : (codesI n xs && decide ((xs.length : Int) ≤ 64)) with
  | true =>
   refine Ch.s (.d (.int .i64 n)) pm (Ch.s (.d (.slice false 1 (ys.map D.str))) (.pure (.loadPtr1 _ _ rfl ag22 rfl rfl rfl)) (Ch.s (.d (.bool (codesI n ys && decide ((ys.length : Int) ≤ 256)))) (.call 17000 20 _ _ _ en20 rfl (.inl rfl) (.cons (.d _) (.cons (.d _) (.cons (.d _) .nil))) rfl rfl (sp_impl_areCodes n ys 256 a8 a8) (.skip _ _ (.skip _ _ (.skip _ _ .nil))) rfl) (Ch.s (.d (.bool (codesI n ys && decide ((ys.length : Int) ≤ 256)))) (.pure (.pickT _ _ _ rfl rfl rfl)) (Ch.s (.d (.bool (codesI n ys && decide ((ys.length : Int) ≤ 256)))) pm ?_))))
   cases h3 : (codesI n ys && decide ((ys.length : Int) ≤ 256)) with
   | true =>
    refine Ch.s (.d (.slice false 1 (xs.map D.str))) pm (Ch.s (.fn 22 [(.ptr 5000 0)]) (.pure (.func _ _ rfl rfl)) (Ch.s (.d (.bool (xs.any (fun u => hasS ys u)))) (.call 22000 21 _ _ _ en21 rfl (.inl rfl) (.cons (.d _) (.cons (.lend (.fn (.cons (.ptr rfl (.one (.d _) rfl)) .nil))) .nil)) rfl rfl (sp_ContainsFunc_str xs 22 [(.ref (.slice false 1 (ys.map D.str)))] (fun u => hasS ys u) en22 (fun u _ => sp_impl_IsValidOnOff_1 u ys a8) a8) (.skip _ _ (.skip _ _ .nil)) rfl) (Ch.s (.d (.bool (!(xs.any (fun u => hasS ys u))))) (.pure (.not _ _ rfl rfl)) (Ch.s (.d (.bool (!(xs.any (fun u => hasS ys u))))) (.pure (.pickT _ _ _ rfl rfl rfl)) (Ch.s (.d (.bool (!(xs.any (fun u => hasS ys u))))) pa (Ch.nil (T_ret ?_)))))))
    exact endR [(.d (.bool (!(xs.any (fun u => hasS ys u)))))] [] [] (.cons (.tmp 6 rfl) .nil) (.cons (.any _) (.cons (.any _) (.cons (.any _) .nil))) (Exp.of (congrArg D.bool a32) (.d _)) rfl rfl
   | false =>
    refine Ch.skip rfl rfl (Ch.skip rfl rfl (Ch.skip rfl rfl (Ch.skip rfl rfl (Ch.s (.d (.bool false)) (.pure (.pickF _ _ _ rfl rfl rfl)) (Ch.s (.d (.bool false)) pa (Ch.nil (T_ret ?_)))))))
    exact endR [(.d (.bool false))] [] [] (.cons (.tmp 6 rfl) .nil) (.cons (.any _) (.cons (.any _) (.cons (.any _) .nil))) (Exp.of (congrArg D.bool a32) (.d _)) rfl rfl
  | false =>
   refine Ch.skip rfl rfl (Ch.skip rfl rfl (Ch.skip rfl rfl (Ch.s (.d (.bool false)) (.pure (.pickF _ _ _ rfl rfl rfl)) (Ch.s (.d (.bool false)) pm (Ch.skip rfl rfl (Ch.skip rfl rfl (Ch.skip rfl rfl ?_)))))))
   refine Ch.skip rfl rfl (Ch.s (.d (.bool false)) (.pure (.pickF _ _ _ rfl rfl rfl)) (Ch.s (.d (.bool false)) pa (Ch.nil (T_ret ?_))))
   exact endR [(.d (.bool false))] [] [] (.cons (.tmp 6 rfl) .nil) (.cons (.any _) (.cons (.any _) (.cons (.any _) .nil))) (Exp.of (congrArg D.bool a32) (.d _)) rfl rfl
 | false =>
  refine Ch.skip rfl rfl (Ch.skip rfl rfl (Ch.skip rfl rfl (Ch.s (.d (.bool false)) (.pure (.pickF _ _ _ rfl rfl rfl)) (Ch.s (.d (.bool false)) pm (Ch.skip rfl rfl (Ch.skip rfl rfl (Ch.skip rfl rfl ?_)))))))
  refine Ch.s (.d (.bool false)) (.pure (.pickF _ _ _ rfl rfl rfl)) (Ch.s (.d (.bool false)) pm (Ch.skip rfl rfl (Ch.skip rfl rfl (Ch.skip rfl rfl (Ch.skip rfl rfl (Ch.s (.d (.bool false)) (.pure (.pickF _ _ _ rfl rfl rfl)) (Ch.s (.d (.bool false)) pa ?_)))))))
  refine Ch.nil (T_ret ?_)
  exact endR [(.d (.bool false))] [] [] (.cons (.tmp 6 rfl) .nil) (.cons (.any _) (.cons (.any _) (.cons (.any _) .nil))) (Exp.of (congrArg D.bool a32) (.d _)) rfl rfl

theorem sty44 : SlotTy Try.prog 44 5 1 1 := slotTy_mk (by kernel_rfl)

theorem en15 : Enters Try.prog 15 := ⟨_, Try.func15, by kernel_rfl, rfl⟩

theorem sp_laws_markText (k : Nat) (hk : k ≤ 4194304) : Sp Try.prog 15 [(.int .i64 (k : Int))] [.any] (.str (mtext k)) := by
 refine Sp_intro (lend := true) Try.func15 rfl rfl rfl (fun _ => rfl) (fun c hc hX => ?_)
 refine T_seq (T_region hc (Ch.s (.d (.str [])) pa (Ch.nil (T_seq (T_seq (T_region hc (Ch.s (.d (.int .i64 (k : Int))) pm ?_)))))))
 refine Ch.s (.d (.bool (decide ((k : Int) ≤ 0)))) (iX rfl rfl rfl) (Ch.nil ?_)
 refine T_condD (p := ((k : Int) ≤ 0)) rfl (fun h1 => ?_) (fun h1 => ?_)
 ·
  refine T_seq (T_region hc (Ch.s (.d (.str [109, 48])) pa (Ch.nil (T_ret ?_))))
  exact endR [(.d (.str [109, 48]))] [] [] (.cons (.tmp 2 rfl) .nil) (.cons (.any _) .nil) (Exp.of (congrArg D.str (by rw [mtext, if_pos (by omega)])) (.d _)) rfl rfl
 ·
  refine T_skip (T_seq (T_region hc (Ch.s (.d (.str [])) pa (Ch.nil (T_seq (T_block ?_))))))
  refine T_loop (ι := Nat × List UInt8) (fun p => { n := 20, sl := [(0, (.d (.int .i64 (p.1 : Int)))), (3, (.d (.str p.2)))], hp := [], pin := [] }) (fun p => p.1 + p.2.length ≤ k ∧ digs p.1 p.2 = digs k []) (fun p => p.1) ⟨(k, []), ⟨by simp, rfl⟩, (Wk.of rfl rfl (ai (vI a50) (ai (vS a50) trivial)) trivial)⟩ (fun p hp0 => ?_)
  refine T_seq (T_seq (T_region hc (Ch.s (.d (.int .i64 (p.1 : Int))) pm (Ch.s (.d (.bool (decide (0 < (p.1 : Int))))) (iX rfl rfl rfl) (Ch.nil ?_)))))
  refine T_condD (p := (0 < (p.1 : Int))) rfl (fun h2 => ?_) (fun h2 => ?_)
  ·
   refine T_skip (T_block (T_seq (T_region hc (Ch.s (.d (.int .i64 (p.1 : Int))) pm (Ch.s (.d (.int .i64 ((p.1 % 10 : Nat) : Int))) (iX rfl rfl (remN (n := p.1) (d := 10) rfl rfl (by decide))) (Ch.s (.d (.int .i64 (48 + ((p.1 % 10 : Nat) : Int)))) (iX rfl rfl intV_addA) (Ch.s (.d (.int .u8 ((UInt8.ofNat (48 + p.1 % 10)).toNat : Int))) (.pure (EvP.of (convU8 (n := (48 + p.1 % 10)) (by omega) a20) (.convInt _ _ _ rfl (isSome_of Try.underlying3) Try.underlying5 rfl))) ?_)))))))
   refine Ch.s (.row 12000) (.slice 12000 _ 5 _ rfl sty44 (xs := [.tmp 11]) rfl rfl (.cons (.d _) .nil) rfl rfl (by decide)) (Ch.s (.d (.str [(UInt8.ofNat (48 + p.1 % 10))])) (.string (l := [(UInt8.ofNat (48 + p.1 % 10))]) _ _ _ _ rfl Try.underlying44 Try.underlying5 Try.underlying9 (by first | exact (.row rfl rfl) | exact (.row rfl rfl))) (Ch.s (.d (.str p.2)) pm (Ch.s (.d (.str ([(UInt8.ofNat (48 + p.1 % 10))] ++ p.2))) (.pure (.str _ _ _ _ _ rfl rfl rfl (strV_add a20))) (Ch.s (.d (.str ([(UInt8.ofNat (48 + p.1 % 10))] ++ p.2))) pa (Ch.nil (T_region hc (Ch.s (.d (.int .i64 (p.1 : Int))) pm ?_)))))))
   refine Ch.s (.d (.int .i64 ((p.1 / 10 : Nat) : Int))) (iX rfl rfl (quoN (n := p.1) (d := 10) rfl rfl (by decide) a20)) (Ch.s (.d (.int .i64 ((p.1 / 10 : Nat) : Int))) pa (Ch.nil ?_))
   refine Exists.intro ((p.1 / 10, [UInt8.ofNat (48 + p.1 % 10)] ++ p.2)) (And.intro ⟨by (have := hp0.1; simp; omega), (digs_step (k := p.1) (by omega) p.2).symm.trans hp0.2⟩ (And.intro (by (simp; omega)) (Wk.of rfl rfl (ai (vI a50) (ai (vS a50) trivial)) trivial)))
  ·
   refine T_exit (T_seq (T_region hc (Ch.s (.d (.str p.2)) pm (Ch.s (.d (.str ([109] ++ p.2))) (.pure (.str _ _ _ _ _ rfl rfl rfl (strV_add a20))) (Ch.s (.d (.str ([109] ++ p.2))) pa (Ch.nil (T_ret ?_)))))))
   exact endR [(.d (.str ([109] ++ p.2)))] [] [] (.cons (.tmp 2 rfl) .nil) (.cons (.any _) .nil) (Exp.of (congrArg D.str (by have hz : p.1 = 0 := (by omega); have h5 := hp0.2; rw [hz, digs_zero] at h5; rw [mtext, if_neg (by omega), h5]; rfl)) (.d _)) rfl rfl

theorem sp_laws_markStringS (xs : List (List UInt8)) (k : Nat) (hn : xs.length ≤ 1048576) (hk : k ≤ 3145728) : Sp Try.prog 9 [(.slice true 1 (xs.map D.str)), (.int .i64 (k : Int))] [(.slice true 1 ((marks k xs.length).map D.str)), .any] (.int .i64 ((k + xs.length : Nat) : Int)) := by
 refine Sp_intro (lend := false) Try.func9 rfl rfl rfl (fun h => nomatch h) (fun c hc hX => ?_)
 refine T_seq (T_region hc (Ch.s (.d (.int .i64 0)) pa (Ch.nil (T_seq (T_seq (T_region hc (Ch.s (.d (.int .i64 0)) pa ?_)))))))
 refine Ch.nil (T_block ?_)
 refine T_loop (ι := Nat) (fun m => { n := 20, sl := [(0, (.row 1)), (1, (.d (.int .i64 ((k + m : Nat) : Int)))), (5, (.d (.int .i64 (m : Int))))], hp := [(1, (some (.row 1 ((marked xs k m).map D.str))))], pin := [1] }) (fun m => m ≤ xs.length) (fun m => xs.length - m) ⟨0, (by omega), (Wk.of rfl rfl (ai rfl (ai (vI a50) (ai (vI a50) trivial))) (ai (oR a37) trivial))⟩ (fun m hp0 => ?_)
 have hq := marked_length xs k m
 refine T_seq (T_seq (T_region hc (Ch.s (.d (.int .i64 (m : Int))) pm (Ch.s (.row 1) pm (Ch.s (.d (.int .i64 ((marked xs k m).length : Int))) (.pure (.len _ _ 9 rfl Try.underlying22 (.row rfl) (by simp))) (Ch.s (.d (.bool (decide ((m : Int) < ((marked xs k m).length : Int))))) (iX rfl rfl rfl) (Ch.nil ?_)))))))
 refine T_condD (p := ((m : Int) < ((marked xs k m).length : Int))) rfl (fun h1 => ?_) (fun h1 => ?_)
 ·
  refine T_skip (T_seq (T_block (T_seq (T_region hc (Ch.s (.row 1) pm (Ch.s (.d (.int .i64 (m : Int))) pm (Ch.s (.d (.int .i64 ((k + m : Nat) : Int))) pm ?_)))))))
  refine Ch.s (.d (.str (mtext (k + m)))) (.call 15000 15 _ _ _ en15 rfl (.inl rfl) (.cons (.d _) .nil) rfl rfl (sp_laws_markText (k + m) a8) (.skip _ _ .nil) rfl) (Ch.s (.el 1 1 m 0) (.pure (.idxRow _ _ _ 9 (m) rfl Try.underlying22 sz9 rfl rfl rfl rfl a38)) (Ch.s .junk (.storeEl (y' := (.str (mtext (k + m)))) _ _ _ rfl rfl rfl (.d _) rfl sz9 rfl get_mapA rfl rfl) (Ch.nil (T_region hc (Ch.s (.d (.int .i64 ((k + m : Nat) : Int))) pm (Ch.s (.d (.int .i64 (((k + m : Nat) : Int) + 1))) (iX rfl rfl intV_addA) (Ch.s (.d (.int .i64 (((k + m : Nat) : Int) + 1))) pa ?_)))))))
  refine Ch.nil (T_region hc (Ch.s (.d (.int .i64 (m : Int))) pm (Ch.s (.d (.int .i64 ((m : Int) + 1))) (iX rfl rfl intV_addA) (Ch.s (.d (.int .i64 ((m : Int) + 1))) pa (Ch.nil ?_)))))
  exact nx (m + 1) (by omega) (Wk.of rfl rfl (ai rfl (ai (vI a50) (ai (vI a50) trivial))) (ai (oR a37) trivial))
 ·
  refine T_exit (T_seq (T_region hc (Ch.s (.d (.int .i64 ((k + m : Nat) : Int))) pm (Ch.s (.d (.int .i64 ((k + m : Nat) : Int))) pa (Ch.nil (T_ret ?_))))))
  exact endR [(.d (.int .i64 ((k + m : Nat) : Int)))] [1] [] (.cons (.tmp 4 rfl) .nil) (.cons (Exp.of (congrArg (D.slice true 1) (by rw [marked_all xs k (by omega)])) (.row rfl)) (.cons (.any _) .nil)) (Exp.of (congrArg (D.int .i64) (by omega)) (.d _)) rfl rfl

theorem sp_laws_heldStringS (xs : List (List UInt8)) (k : Nat) (hn : xs.length ≤ 1048576) (hk : k ≤ 3145728) : Sp Try.prog 10 [(.slice false 1 (xs.map D.str)), (.int .i64 (k : Int))] [.any, .any] (.int .i64 (heldR xs k)) := by
 refine Sp_intro (lend := true) Try.func10 rfl rfl rfl (fun _ => rfl) (fun c hc hX => ?_)
 refine T_seq (T_region hc (Ch.s (.d (.int .i64 0)) pa (Ch.nil (T_seq (T_seq (T_region hc (Ch.s (.d (.int .i64 0)) pa ?_)))))))
 refine Ch.nil (T_block ?_)
 refine T_loop (ι := Nat) (fun m => { n := 22, sl := [(0, (.d (.slice false 1 (xs.map D.str)))), (1, (.d (.int .i64 ((k + m : Nat) : Int)))), (5, (.d (.int .i64 (m : Int))))], hp := [], pin := [] }) (fun m => m ≤ xs.length ∧ ∀ j, j < m → decide (xs.getD j default = mtext (k + j)) = true) (fun m => xs.length - m) ⟨0, ⟨by omega, fun j hj => by omega⟩, (Wk.of rfl rfl (ai rfl (ai (vI a50) (ai (vI a50) trivial))) trivial)⟩ (fun m hp0 => ?_)
 refine T_seq (T_seq (T_region hc (Ch.s (.d (.int .i64 (m : Int))) pm (Ch.s (.d (.slice false 1 (xs.map D.str))) pm (Ch.s (.d (.int .i64 (xs.length : Int))) (.pure (.len _ _ 9 rfl Try.underlying22 (.sh _ _) (by simp))) (Ch.s (.d (.bool (decide ((m : Int) < (xs.length : Int))))) (iX rfl rfl rfl) (Ch.nil ?_)))))))
 refine T_condD (p := ((m : Int) < (xs.length : Int))) rfl (fun h1 => ?_) (fun h1 => ?_)
 ·
  refine T_skip (T_seq (T_block (T_seq (T_seq ?_))))
  refine T_regionD hc (by kernel_rfl) ?_
  refine ChD.s (.d (.slice false 1 (xs.map D.str))) [] pm (ChD.s (.d (.int .i64 (m : Int))) [] pm (ChD.s (.d (.ref (.str (xs.getD m default)))) [] (.pure (.idx _ _ _ 9 (m) rfl Try.underlying22 sz9 rfl rfl rfl get_mapA)) (ChD.s (.d (.str (xs.getD m default))) [] (.pure (.loadRef1 _ _ rfl ag9 rfl rfl)) (ChD.s (.d (.int .i64 ((k + m : Nat) : Int))) [] pm (ChD.s (.d (.str (mtext (k + m)))) [] (.call 17000 15 _ _ _ en15 rfl (.inl rfl) (.cons (.d _) .nil) rfl rfl (sp_laws_markText (k + m) a8) (.skip _ _ .nil) rfl) (ChD.s (.d (.bool (!(decide ((xs.getD m default) = (mtext (k + m))))))) [] (.pure (.str _ _ _ _ _ rfl rfl rfl rfl)) ?_))))))
  refine ChD.nil (And.intro ?_ (by kernel_rfl))
  refine T_condN (b := (decide ((xs.getD m default) = (mtext (k + m))))) rfl (fun h2 => ?_) (fun h2 => ?_)
  ·
   replace h2 := of_decide_eq_false h2
   refine T_seq (T_region hc (Ch.s (.d (.int .i64 (-1))) pa (Ch.nil (T_ret ?_))))
   exact endR [(.d (.int .i64 (-1)))] [] [] (.cons (.tmp 4 rfl) .nil) (.cons (.any _) (.cons (.any _) .nil)) (Exp.of (congrArg (D.int .i64) a24) (.d _)) rfl rfl
  ·
   replace h2 := of_decide_eq_true h2
   refine T_skip (T_region hc (Ch.s (.d (.int .i64 ((k + m : Nat) : Int))) pm (Ch.s (.d (.int .i64 (((k + m : Nat) : Int) + 1))) (iX rfl rfl intV_addA) (Ch.s (.d (.int .i64 (((k + m : Nat) : Int) + 1))) pa (Ch.nil (T_region hc (Ch.s (.d (.int .i64 (m : Int))) pm ?_)))))))
   refine Ch.s (.d (.int .i64 ((m : Int) + 1))) (iX rfl rfl intV_addA) (Ch.s (.d (.int .i64 ((m : Int) + 1))) pa (Ch.nil ?_))
   exact nx (m + 1) ⟨by omega, upto_succ hp0.2 (by simp_all)⟩ (Wk.of rfl rfl (ai rfl (ai (vI a50) (ai (vI a50) trivial))) trivial)
 ·
  refine T_exit (T_seq (T_region hc (Ch.s (.d (.int .i64 ((k + m : Nat) : Int))) pm (Ch.s (.d (.int .i64 ((k + m : Nat) : Int))) pa (Ch.nil (T_ret ?_))))))
  exact endR [(.d (.int .i64 ((k + m : Nat) : Int)))] [] [] (.cons (.tmp 4 rfl) .nil) (.cons (.any _) (.cons (.any _) .nil)) (Exp.of (congrArg (D.int .i64) a24) (.d _)) rfl rfl

theorem sp_spec_l5Set (u : List UInt8) (sig : Int) (v : List UInt8) (hu : u.length ≤ 1048576) (hv : v.length ≤ 1048576) (h0 : 0 ≤ sig) (h1s : sig + 1 ≤ u.length) : Sp Try.prog 51 [(.str u), (.int .i64 sig), (.str v)] [.any, .any, .any] (.str (u.take sig.toNat ++ v ++ u.drop (sig + 1).toNat)) := by
 refine Sp_intro (lend := true) Try.func51 rfl rfl rfl (fun _ => rfl) (fun c hc hX => ?_)
 refine T_seq (T_region hc (Ch.s (.d (.str [])) pa (Ch.nil (T_seq ?_))))
 refine T_regionD hc (by kernel_rfl) ?_
 refine ChD.s (.d (.str u)) [] pm (ChD.s (.d (.int .i64 sig)) [] pm (ChD.s (.d (.str (u.take ((sig).toNat)))) [] (.pure (.sliceStr _ _ _ _ (0) ((sig).toNat) rfl Try.underlying9 rfl (bndN rfl) (bndS rfl (by omega)) a20 a20 (by simp))) (ChD.s (.d (.str v)) [] pm (ChD.s (.d (.str ((u.take ((sig).toNat)) ++ v))) [] (.pure (.str _ _ _ _ _ rfl rfl rfl (strV_add a20))) (ChD.s (.d (.str u)) [] pm (ChD.s (.d (.int .i64 sig)) [] pm (ChD.s (.d (.int .i64 (sig + 1))) [] (iX rfl rfl intV_addA) ?_)))))))
 refine ChD.s (.d (.str (u.drop (((sig + 1)).toNat)))) [] (.pure (.sliceStr _ _ _ _ (((sig + 1)).toNat) (u.length) rfl Try.underlying9 rfl (bndS rfl (by omega)) (bndN rfl) a20 a20 (by simp))) (ChD.s (.d (.str (((u.take ((sig).toNat)) ++ v) ++ (u.drop (((sig + 1)).toNat))))) [] (.pure (.str _ _ _ _ _ rfl rfl rfl (strV_add a20))) (ChD.s (.d (.str (((u.take ((sig).toNat)) ++ v) ++ (u.drop (((sig + 1)).toNat))))) [] pa ?_))
 refine ChD.nil (And.intro ?_ (by kernel_rfl))
 refine T_ret ?_
 exact endR [(.d (.str (((u.take ((sig).toNat)) ++ v) ++ (u.drop (((sig + 1)).toNat)))))] [] [] (.cons (.tmp 6 rfl) .nil) (.cons (.any _) (.cons (.any _) (.cons (.any _) .nil))) (Exp.of (congrArg D.str (by rfl)) (.d _)) rfl rfl

theorem within_two {n lo hi : Int} (h : withinB n lo hi = true) : lo ≤ n ∧ n ≤ hi := by simpa [withinB] using h

def keepTo {τ : Type} (p : τ → Bool) (xs : List τ) (j : Nat) : List τ := (xs.take j).filter fun u => !p u

theorem keepTo_yes {τ : Type} [Inhabited τ] {p : τ → Bool} {xs : List τ} {j : Nat} (hj : j < xs.length) (h : p (xs.getD j default) = false) : keepTo p xs (j + 1) = keepTo p xs j ++ [xs.getD j default] := by
 have hg : xs.getD j default = xs[j] := by simp [hj]
 rw [hg] at h ⊢
 rw [keepTo, keepTo, List.take_succ_eq_append_getElem hj, List.filter_append]; simp [h]

theorem keepTo_no {τ : Type} [Inhabited τ] {p : τ → Bool} {xs : List τ} {j : Nat} (hj : j < xs.length) (h : p (xs.getD j default) = true) : keepTo p xs (j + 1) = keepTo p xs j := by
 have hg : xs.getD j default = xs[j] := by simp [hj]
 rw [hg] at h
 rw [keepTo, keepTo, List.take_succ_eq_append_getElem hj, List.filter_append]; simp [h]

theorem keepTo_none {τ : Type} [Inhabited τ] {p : τ → Bool} {xs : List τ} : ∀ k, k ≤ xs.length → (∀ j, j < k → p (xs.getD j default) = false) → keepTo p xs k = xs.take k
 | 0, _, _ => rfl
 | k + 1, hk, h => by
  rw [keepTo_yes (by omega) (h k (by omega)), keepTo_none k (by omega) (fun j hj => h j (by omega)), List.take_succ_eq_append_getElem (by omega)]
  simp [show k < xs.length by omega]

theorem ixF_first {τ : Type} [Inhabited τ] {p : τ → Bool} {xs : List τ} (h : ¬ ixF p xs = -1) : ∃ k, k < xs.length ∧ ixF p xs = (k : Int) ∧ keepTo p xs (k + 1) = xs.take k := by
  unfold ixF at *
  split at h
  · rename_i ha
    have hk : xs.findIdx p < xs.length := List.findIdx_lt_length_of_exists (by simpa using ha)
    refine ⟨xs.findIdx p, hk, by rw [if_pos ha], ?_⟩
    have h1 : p (xs.getD (xs.findIdx p) default) = true := by
      have := List.findIdx_getElem (w := hk)
      simpa [hk] using this
    rw [keepTo_no hk h1]
    refine keepTo_none _ (by omega) (fun j hj => ?_)
    have := List.not_of_lt_findIdx hj
    simpa [show j < xs.length by omega] using this
  · exact absurd rfl h

structure DelInv {τ : Type} [Inhabited τ] (p : τ → Bool) (xs : List τ) (j : Nat) (R : List τ) : Prop where
 le : j ≤ xs.length
 len : R.length = xs.length
 lt : (keepTo p xs j).length < j
 pre : R.take (keepTo p xs j).length = keepTo p xs j
 post : R.drop j = xs.drop j

theorem DelInv.get {τ : Type} [Inhabited τ] {p : τ → Bool} {xs : List τ} {j : Nat} {R : List τ} (h : DelInv p xs j R) (hj : j < xs.length) : R.getD j default = xs.getD j default := by
 have h1 : (R.drop j)[0]? = (xs.drop j)[0]? := by rw [h.post]
 rw [List.getElem?_drop, List.getElem?_drop, Nat.add_zero] at h1
 rw [List.getD_eq_getElem?_getD, List.getD_eq_getElem?_getD, h1]

theorem DelInv.start {τ : Type} [Inhabited τ] {p : τ → Bool} {xs : List τ} {k : Nat} (hk : k < xs.length) (h : keepTo p xs (k + 1) = xs.take k) : DelInv p xs (k + 1) xs := by
 have hl : (keepTo p xs (k + 1)).length = k := by rw [h]; simp; omega
 exact ⟨by omega, rfl, by omega, by rw [hl, h], rfl⟩

theorem DelInv.skip {τ : Type} [Inhabited τ] {p : τ → Bool} {xs : List τ} {j : Nat} {R : List τ} (h : DelInv p xs j R) (hj : j < xs.length) (hp : p (R.getD j default) = true) : DelInv p xs (j + 1) R ∧ (keepTo p xs j).length = (keepTo p xs (j + 1)).length := by
 rw [h.get hj] at hp
 have hk := keepTo_no hj hp
 refine ⟨⟨by omega, h.len, by rw [hk]; have := h.lt; omega, by rw [hk]; exact h.pre, ?_⟩, by rw [hk]⟩
 rw [← List.drop_drop, ← List.drop_drop, h.post]

theorem DelInv.keep {τ : Type} [Inhabited τ] {p : τ → Bool} {xs : List τ} {j : Nat} {R : List τ} (h : DelInv p xs j R) (hj : j < xs.length) (hp : p (R.getD j default) = false) : DelInv p xs (j + 1) (R.set (keepTo p xs j).length (R.getD j default)) ∧ (keepTo p xs j).length + 1 = (keepTo p xs (j + 1)).length := by
  have hg := h.get hj
  rw [hg] at hp ⊢
  have hk := keepTo_yes hj hp
  have hl : (keepTo p xs (j + 1)).length = (keepTo p xs j).length + 1 := by rw [hk]; simp
  have hlt := h.lt
  have hlen := h.len
  refine ⟨⟨by omega, by simp [h.len], by omega, ?_, ?_⟩, hl.symm⟩
  · rw [hl, hk, List.take_succ_eq_append_getElem (by simp; omega), List.getElem_set_self, List.take_set_of_le (Nat.le_refl _), h.pre]
  · rw [List.drop_set_of_lt (by omega), ← List.drop_drop, ← List.drop_drop, h.post]

theorem DelInv.mem {τ : Type} [Inhabited τ] {p : τ → Bool} {xs : List τ} {j : Nat} {R : List τ} (h : DelInv p xs j R) (hj : j < R.length) : R.getD j default ∈ xs := by
 rw [h.get (by rw [← h.len]; exact hj)]; exact getD_mem (by rw [← h.len]; exact hj)

theorem DelInv.done {τ : Type} [Inhabited τ] {p : τ → Bool} {xs : List τ} {j : Nat} {R : List τ} (h : DelInv p xs j R) (hj : xs.length ≤ j) : R.take (keepTo p xs j).length = xs.filter fun u => !p u := by
 rw [h.pre, keepTo, List.take_of_length_le hj]

theorem ixF_bounds {τ : Type} [Inhabited τ] (p : τ → Bool) (xs : List τ) : -1 ≤ ixF p xs ∧ ixF p xs ≤ xs.length := by
  unfold ixF
  have := List.findIdx_le_length (p := p) (xs := xs)
  split <;> omega

theorem take_cut {τ : Type} {A Z B : List τ} {k : Nat} (h : k ≤ A.length) : (A.take k ++ Z ++ B).take k = A.take k := by
 rw [List.append_assoc, List.take_append_of_le_length (by simp; omega), List.take_of_length_le (by simp; omega)]

theorem ixF_all {τ : Type} [Inhabited τ] {p : τ → Bool} {xs : List τ} (h : ixF p xs = -1) : xs.filter (fun u => !p u) = xs := by
  unfold ixF at h
  split at h
  · omega
  · rename_i ha
    rw [List.filter_eq_self]
    intro u hu
    have : ¬ p u = true := fun hp => ha (List.any_eq_true.2 ⟨u, hu, hp⟩)
    simpa using this

theorem sp_DeleteFunc_str (xs : List (List UInt8)) (f : FuncId) (caps : List D) (p : List UInt8 → Bool) (hf : Enters Try.prog f) (hp : ∀ x ∈ xs, Sp Try.prog f (D.str x :: caps) (.any :: anys caps) (.bool (p x))) (hn : xs.length ≤ 1048576) : Sp Try.prog 39 [(.slice true 1 (xs.map D.str)), (.fn f caps)] [.any, .any] (.slice true 1 ((xs.filter (fun u => !p u)).map D.str)) := by
 refine Sp_intro (lend := false) Try.func39 rfl rfl rfl (fun h => nomatch h) (fun c hc hX => ?_)
 have hixb := ixF_bounds p xs
 refine T_seq (T_region hc (Ch.s (.c (.slice none 0 0)) pa (Ch.nil (T_seq (T_region hc (Ch.s (.row 1) pm (Ch.s (.d (.fn f caps)) pm ?_)))))))
 refine Ch.s (.d (.int .i64 (ixF p xs))) (.call 10000 37 _ _ _ en37 rfl (.inl rfl) (.cons (.lend (.row rfl (frozs_map (fun _ => rfl) _))) (.cons (.d _) .nil)) rfl rfl (sp_IndexFunc_str xs f caps p hf hp a8) (.skip _ _ (.skip _ _ .nil)) rfl) (Ch.s (.d (.int .i64 (ixF p xs))) pa (Ch.nil (T_seq (T_seq (T_region hc (Ch.s (.d (.int .i64 (ixF p xs))) pm (Ch.s (.d (.bool (decide ((ixF p xs) = (-1))))) (iX rfl rfl rfl) ?_)))))))
 refine Ch.nil ?_
 refine T_condD (p := ((ixF p xs) = (-1))) rfl (fun h1 => ?_) (fun h1 => ?_)
 ·
  refine T_seq (T_region hc (Ch.s (.row 1) pm (Ch.s (.row 1) pa (Ch.nil (T_ret ?_)))))
  exact endR [(.row 1)] [] [1] (.cons (.tmp 4 rfl) .nil) (.cons (.any _) (.cons (.any _) .nil)) (Exp.of (congrArg (D.slice true 1) a29) (.row rfl)) rfl rfl
 ·
  refine T_skip (T_seq (T_seq (T_region hc (Ch.s (.d (.int .i64 (ixF p xs))) pm (Ch.s (.d (.int .i64 ((ixF p xs) + 1))) (iX rfl rfl intV_addA) (Ch.s (.d (.int .i64 ((ixF p xs) + 1))) pa (Ch.nil ?_)))))))
  refine T_block ?_
  refine T_loop (ι := Nat × List (List UInt8)) (fun q => { n := 42, sl := [(0, (.row 1)), (1, (.d (.fn f caps))), (5, (.d (.int .i64 ((keepTo p xs q.1).length : Int)))), (6, (.d (.int .i64 (q.1 : Int))))], hp := [(1, (some (.row 1 (q.2.map D.str))))], pin := [1] }) (fun q => DelInv p xs q.1 q.2) (fun q => xs.length - q.1) ⟨((ixF p xs).toNat + 1, xs), (by obtain ⟨k0, hk0, hk1, hk2⟩ := ixF_first h1; have e : (ixF p xs).toNat = k0 := (by omega); rw [e]; exact DelInv.start hk0 hk2), (Wk.of rfl rfl (ai rfl (ai rfl (ai (vI a7) (ai (vI a50) trivial)))) (ai (oR a52) trivial))⟩ (fun q hp0 => ?_)
  have hq1 := hp0.len; have hq2 := hp0.lt; have hq3 := hp0.le
  refine T_seq (T_seq (T_region hc (Ch.s (.d (.int .i64 (q.1 : Int))) pm (Ch.s (.row 1) pm (Ch.s (.d (.int .i64 (q.2.length : Int))) (.pure (.len _ _ 9 rfl Try.underlying22 (.row rfl) (by simp))) (Ch.s (.d (.bool (decide ((q.1 : Int) < (q.2.length : Int))))) (iX rfl rfl rfl) (Ch.nil ?_)))))))
  refine T_condD (p := ((q.1 : Int) < (q.2.length : Int))) rfl (fun h2 => ?_) (fun h2 => ?_)
  ·
   refine T_skip (T_seq (T_block (T_seq (T_region hc (Ch.s (.row 1) pm (Ch.s (.d (.int .i64 (q.1 : Int))) pm (Ch.s (.el 1 1 q.1 0) (.pure (.idxRow _ _ _ 9 (q.1) rfl Try.underlying22 sz9 rfl rfl rfl rfl a38)) ?_)))))))
   refine Ch.s (.d (.str (q.2.getD q.1 default))) (.pure (.loadEl1 _ _ rfl ag9 rfl rfl get_mapA rfl rfl rfl)) (Ch.s (.d (.str (q.2.getD q.1 default))) pa (Ch.nil (T_seq (T_region hc (Ch.s (.d (.fn f caps)) pm (Ch.s (.d (.str (q.2.getD q.1 default))) pm ?_))))))
   refine Ch.step (v := (.d (.bool (p (q.2.getD q.1 default))))) rfl (.callS 28000 f _ #[.tmp 27] _ hf rfl (.inr ⟨caps, rfl, rfl⟩) (.cons (.d _) (exps_ds caps)) rfl ((by first | exact hp _ (getD_mem (by omega)) | exact hp _ (hp0.mem (by omega)))) (.skip _ _ (back_anys caps)) rfl) rfl rfl ?_
   refine Ch.s (.d (.bool (!(p (q.2.getD q.1 default))))) (.pure (.not _ _ rfl rfl)) (Ch.nil ?_)
   refine T_condN (b := (p (q.2.getD q.1 default))) rfl (fun h3 => ?_) (fun h3 => ?_)
   ·
    refine T_seq (T_region hc (Ch.s (.row 1) pm (Ch.s (.d (.int .i64 ((keepTo p xs q.1).length : Int))) pm (Ch.s (.d (.str (q.2.getD q.1 default))) pm (Ch.s (.el 1 1 ((keepTo p xs q.1).length) 0) (.pure (.idxRow _ _ _ 9 ((keepTo p xs q.1).length) rfl Try.underlying22 sz9 rfl rfl rfl rfl a38)) (Ch.s .junk (.storeEl (y' := (.str (q.2.getD q.1 default))) _ _ _ rfl rfl rfl (.d _) rfl sz9 rfl get_mapA rfl rfl) (Ch.nil ?_)))))))
    refine T_region hc (Ch.s (.d (.int .i64 ((keepTo p xs q.1).length : Int))) pm (Ch.s (.d (.int .i64 (((keepTo p xs q.1).length : Int) + 1))) (iX rfl rfl intV_addA) (Ch.s (.d (.int .i64 (((keepTo p xs q.1).length : Int) + 1))) pa (Ch.nil (T_region hc (Ch.s (.d (.int .i64 (q.1 : Int))) pm (Ch.s (.d (.int .i64 ((q.1 : Int) + 1))) (iX rfl rfl intV_addA) ?_)))))))
    refine Ch.s (.d (.int .i64 ((q.1 : Int) + 1))) pa (Ch.nil ?_)
    exact nx (q.1 + 1, q.2.set (keepTo p xs q.1).length (q.2.getD q.1 default)) a33 (Wk.of rfl rfl (ai rfl (ai rfl (ai (vI a7) (ai (vI a50) trivial)))) (ai (oR a52) trivial))
   ·
    refine T_skip (T_region hc (Ch.s (.d (.int .i64 (q.1 : Int))) pm (Ch.s (.d (.int .i64 ((q.1 : Int) + 1))) (iX rfl rfl intV_addA) (Ch.s (.d (.int .i64 ((q.1 : Int) + 1))) pa (Ch.nil ?_)))))
    exact nx (q.1 + 1, q.2) a33 (Wk.of rfl rfl (ai rfl (ai rfl (ai (vI a7) (ai (vI a50) trivial)))) (ai (oR a52) trivial))
  ·
   refine T_exit (T_seq (T_region hc (Ch.s (.row 1) pm (Ch.s (.d (.int .i64 ((keepTo p xs q.1).length : Int))) pm (Ch.s (.sub 1 1 ((keepTo p xs q.1).length) q.2.length) (.pure (.subRow _ _ _ _ 9 ((keepTo p xs q.1).length) (q.2.length) rfl Try.underlying22 sz9 rfl rfl (bndS rfl rfl) (bndN (by simp)) a20 a20)) (Ch.s .junk (.clear _ _ 9 rfl sty22 rfl rfl a20 (noUs_map (fun _ => rfl) _) (zeroD_mk (zd := (.str [])) zr9 (by intro S w; rw [DR]; exact ⟨rfl, rfl⟩) rfl)) (Ch.nil ?_)))))))
   refine T_seq (T_region hc (Ch.s (.row 1) pm (Ch.s (.d (.int .i64 ((keepTo p xs q.1).length : Int))) pm (Ch.s (.row 41000) (.cut 41000 _ _ _ 9 ((keepTo p xs q.1).length) rfl Try.underlying22 sz9 rfl rfl (bndS rfl rfl) a20 rfl) (Ch.s (.row 41000) pa (Ch.nil (T_ret ?_)))))))
   exact endR [(.row 41000)] [] [41000] (.cons (.tmp 4 rfl) .nil) (.cons (.any _) (.cons (.any _) .nil)) (Exp.of (congrArg (D.slice true 1) a29) (.row rfl)) rfl rfl

theorem szS_val {xs : List (List UInt8)} {left : Int} (h : (bulkS xs : Int) ≤ left) : szS xs left = left - bulkS xs := by rw [szS, if_pos h]

theorem codesB_len {n : Int} {xs : List (List UInt8)} (h : codesB n xs = true) : ∀ u ∈ xs, (u.length : Int) = n := by
 intro u hu
 obtain ⟨j, hj, rfl⟩ := List.mem_iff_getElem.1 hu
 have h1 := allB_true.1 h j hj
 have e : xs.getD j default = xs[j] := by simp [hj]
 rw [e] at h1
 unfold codeN at h1
 simp only [Bool.and_eq_true, decide_eq_true_iff] at h1
 exact h1.1.2

theorem onoff_parts {n : Int} {xs ys : List (List UInt8)} (h : onoffB n xs ys = true) : (1 ≤ n ∧ n ≤ 8) ∧ xs.length ≤ 64 ∧ ys.length ≤ 256 ∧ (∀ u ∈ xs, (u.length : Int) = n) ∧ (∀ u ∈ ys, (u.length : Int) = n) := by
 unfold onoffB at h
 simp only [Bool.and_eq_true, decide_eq_true_iff] at h
 have h1 := within_two h.1
 exact ⟨h1, by omega, by omega, codesB_len h.2.2.2.1, codesB_len h.2.2.2.2.1⟩

theorem en48 : Enters Try.prog 48 := ⟨_, Try.func48, by kernel_rfl, rfl⟩

theorem en56 : Enters Try.prog 56 := ⟨_, Try.func56, by kernel_rfl, rfl⟩

theorem en51 : Enters Try.prog 51 := ⟨_, Try.func51, by kernel_rfl, rfl⟩

theorem en30 : Enters Try.prog 30 := ⟨_, Try.func30, by kernel_rfl, rfl⟩

theorem en42 : Enters Try.prog 42 := ⟨_, Try.func42, by kernel_rfl, rfl⟩

theorem en29 : Enters Try.prog 29 := ⟨_, Try.func29, by kernel_rfl, rfl⟩

theorem en31 : Enters Try.prog 31 := ⟨_, Try.func31, by kernel_rfl, rfl⟩

theorem en43 : Enters Try.prog 43 := ⟨_, Try.func43, by kernel_rfl, rfl⟩

theorem en40 : Enters Try.prog 40 := ⟨_, Try.func40, by kernel_rfl, rfl⟩

theorem en41 : Enters Try.prog 41 := ⟨_, Try.func41, by kernel_rfl, rfl⟩

theorem en39 : Enters Try.prog 39 := ⟨_, Try.func39, by kernel_rfl, rfl⟩

theorem en16 : Enters Try.prog 16 := ⟨_, Try.func16, by kernel_rfl, rfl⟩

theorem en17 : Enters Try.prog 17 := ⟨_, Try.func17, by kernel_rfl, rfl⟩

def ftake {τ : Type} (p : τ → Bool) (xs : List τ) (k : Nat) : List τ := (xs.take k).filter p

theorem ftake_yes {τ : Type} [Inhabited τ] {p : τ → Bool} {xs : List τ} {k : Nat} (hk : k < xs.length) (h : p (xs.getD k default) = true) : ftake p xs k ++ [xs.getD k default] = ftake p xs (k + 1) := by
 have hg : xs.getD k default = xs[k] := by simp [hk]
 rw [hg] at h ⊢
 rw [ftake, ftake, List.take_succ_eq_append_getElem hk, List.filter_append]; simp [h]

theorem ftake_no {τ : Type} [Inhabited τ] {p : τ → Bool} {xs : List τ} {k : Nat} (hk : k < xs.length) (h : p (xs.getD k default) = false) : ftake p xs k = ftake p xs (k + 1) := by
 have hg : xs.getD k default = xs[k] := by simp [hk]
 rw [hg] at h
 rw [ftake, ftake, List.take_succ_eq_append_getElem hk, List.filter_append]; simp [h]

theorem ftake_all {τ : Type} {p : τ → Bool} {xs : List τ} {k : Nat} (h : xs.length ≤ k) : ftake p xs k = xs.filter p := by rw [ftake, List.take_of_length_le h]

theorem ftake_le {τ : Type} (p : τ → Bool) (xs : List τ) (k : Nat) : (ftake p xs k).length ≤ k := by
 have h1 := List.length_filter_le p (xs.take k)
 rw [List.length_take] at h1
 unfold ftake; omega

def three (u : List UInt8) : List (List UInt8) := [u ++ [45], u ++ [48], u ++ [49]]

def cubes : Nat → List (List UInt8)
 | 0 => [[]]
 | n + 1 => (cubes n).flatMap three

def cubesMid (k m : Nat) : List (List UInt8) := ((cubes k).take m).flatMap three

theorem cubesMid_all {k m : Nat} (h : (cubes k).length ≤ m) : cubesMid k m = cubes (k + 1) := by rw [cubesMid, List.take_of_length_le h]; rfl

theorem cubesMid_succ {k m : Nat} (h : m < (cubes k).length) : cubesMid k m ++ [(cubes k).getD m default ++ [45], (cubes k).getD m default ++ [48], (cubes k).getD m default ++ [49]] = cubesMid k (m + 1) := by
 rw [cubesMid, cubesMid, List.take_succ_eq_append_getElem h, List.flatMap_append]; simp [three, h]

theorem three_length : ∀ l : List (List UInt8), (l.flatMap three).length = 3 * l.length
 | [] => rfl
 | u :: l => by rw [List.flatMap_cons, List.length_append, three_length l]; simp [three]; omega

theorem cubes_length : ∀ n, (cubes n).length = 3 ^ n
 | 0 => rfl
 | n + 1 => by rw [cubes, three_length, cubes_length n]; omega

theorem cubesMid_length (k m : Nat) (h : m ≤ (cubes k).length) : (cubesMid k m).length = 3 * m := by rw [cubesMid, three_length, List.length_take, Nat.min_eq_left h]

theorem cubes_mem : ∀ n, ∀ u ∈ cubes n, u.length = n
  | 0, u, h => by simp [cubes] at h; simp [h]
  | n + 1, u, h => by
    rw [cubes, List.mem_flatMap] at h
    obtain ⟨v, hv, hu⟩ := h
    have := cubes_mem n v hv
    simp [three] at hu
    rcases hu with rfl | rfl | rfl <;> simp [this]

theorem sp_impl_allCubes (n : Int) (h0 : 0 ≤ n) (hn : n ≤ 8) : Sp Try.prog 40 [(.int .i64 n)] [.any] (.slice true 1 ((cubes n.toNat).map D.str)) := by
 refine Sp_intro (lend := true) Try.func40 rfl rfl rfl (fun _ => rfl) (fun c hc hX => ?_)
 refine T_seq (T_region hc (Ch.s (.c (.slice none 0 0)) pa (Ch.nil (T_seq (T_region hc (Ch.s (.row 7000) (.slice 7000 _ 9 _ rfl sty22 (xs := [.const (.string { data := #[] })]) rfl rfl (.cons (.d _) .nil) rfl rfl (by decide)) (Ch.s (.row 7000) pa ?_)))))))
 refine Ch.nil (T_seq (T_seq (T_region hc (Ch.s (.d (.int .i64 n)) pm (Ch.s (.d (.int .i64 0)) pm (Ch.nil (T_block ?_)))))))
 refine T_loop (ι := Nat) (fun k => { n := 31, sl := [(3, (.row 3)), (8, (.d (.int .i64 n))), (9, (.d (.int .i64 (k : Int))))], hp := [(3, (some (.row 1 ((cubes k).map D.str))))], pin := [] }) (fun k => (k : Int) ≤ n) (fun k => n.toNat - k) ⟨0, (by omega), (Wk.ren [(3, 7000)] rfl rfl rfl rfl (ai rfl (ai rfl (ai (vI a50) trivial))) (ai (oR a51) trivial))⟩ (fun k hp0 => ?_)
 have hl := cubes_length k; have hp3 : 3 ^ k ≤ 3 ^ 8 := Nat.pow_le_pow_right (by omega) (by omega)
 refine T_seq (T_region hc (Ch.s (.d (.bool (decide ((k : Int) < n)))) (iX rfl rfl rfl) (Ch.nil (T_seq ?_))))
 refine T_condD (p := ((k : Int) < n)) rfl (fun h1 => ?_) (fun h1 => ?_)
 ·
  refine T_skip (T_seq (T_block (T_seq (T_region hc (Ch.s (.row 11000) (.slice 11000 _ 9 _ rfl sty22 (xs := []) rfl rfl .nil rfl rfl (by decide)) (Ch.s (.row 11000) pa (Ch.nil ?_)))))))
  refine T_seq (T_seq (T_region hc (Ch.s (.row 3) pm (Ch.s (.d (.int .i64 ((cubes k).length : Int))) (.pure (.len _ _ 9 rfl Try.underlying22 (.row rfl) (by simp))) (Ch.s (.d (.int .i64 0)) pm (Ch.nil (T_block ?_)))))))
  refine T_loop (ι := Nat) (fun m => { n := 31, sl := [(4, (.row 4)), (8, (.d (.int .i64 n))), (9, (.d (.int .i64 (k : Int)))), (12, (.row 3)), (13, (.d (.int .i64 ((cubes k).length : Int)))), (14, (.d (.int .i64 (m : Int))))], hp := [(3, (some (.row 1 ((cubes k).map D.str)))), (4, (some (.row 1 ((cubesMid k m).map D.str))))], pin := [] }) (fun m => m ≤ (cubes k).length) (fun m => (cubes k).length - m) ⟨0, (by omega), (Wk.ren [(4, 11000)] rfl rfl rfl rfl (ai rfl (ai rfl (ai rfl (ai rfl (ai rfl (ai (vI a50) trivial)))))) (ai rfl (ai (oR a44) trivial)))⟩ (fun m hp1 => ?_)
  have hm := cubesMid_length k m hp1
  refine T_seq (T_region hc (Ch.s (.d (.bool (decide ((m : Int) < ((cubes k).length : Int))))) (iX rfl rfl rfl) (Ch.nil (T_seq ?_))))
  refine T_condD (p := ((m : Int) < ((cubes k).length : Int))) rfl (fun h2 => ?_) (fun h2 => ?_)
  ·
   try have hk := cubes_mem k _ (getD_mem (l := cubes k) (j := m) (d := default) (by omega))
   refine T_skip (T_seq (T_block (T_seq (T_region hc (Ch.s (.el 3 1 m 0) (.pure (.idxRow _ _ _ 9 (m) rfl Try.underlying22 sz9 rfl rfl rfl rfl a38)) (Ch.s (.d (.str ((cubes k).getD m default))) (.pure (.loadEl1 _ _ rfl ag9 rfl rfl get_mapA rfl rfl rfl)) (Ch.s (.d (.str ((cubes k).getD m default))) pa ?_)))))))
   refine Ch.nil (T_region hc (Ch.s (.row 4) pm (Ch.s (.d (.str ((cubes k).getD m default))) pm (Ch.s (.d (.str (((cubes k).getD m default) ++ [45]))) (.pure (.str _ _ _ _ _ rfl rfl rfl (strV_add a20))) (Ch.s (.d (.str ((cubes k).getD m default))) pm (Ch.s (.d (.str (((cubes k).getD m default) ++ [48]))) (.pure (.str _ _ _ _ _ rfl rfl rfl (strV_add a20))) (Ch.s (.d (.str ((cubes k).getD m default))) pm ?_)))))))
   refine Ch.s (.d (.str (((cubes k).getD m default) ++ [49]))) (.pure (.str _ _ _ _ _ rfl rfl rfl (strV_add a20))) (Ch.s (.row 25000) (.slice 25000 _ 9 _ rfl sty22 (xs := [.tmp 20, .tmp 22, .tmp 24]) rfl rfl (.cons (.d _) (.cons (.d _) (.cons (.d _) .nil))) rfl rfl (by decide)) ?_)
   refine Ch.step (v := (.row 26000)) rfl (.append 26000 _ _ _ 9 rfl sty22 (by decide) (.rowK rfl) (.inr ⟨_, rfl, rfl⟩) (.row rfl rfl) rfl a27) rfl rfl ?_
   refine Ch.s (.row 26000) pa (Ch.nil (T_region hc (Ch.s (.d (.int .i64 ((m : Int) + 1))) (iX rfl rfl intV_addA) (Ch.s (.d (.int .i64 ((m : Int) + 1))) pm (Ch.nil ?_)))))
   exact nx (m + 1) (by omega) (Wk.ren [(4, 26000)] rfl rfl rfl rfl (ai rfl (ai rfl (ai rfl (ai rfl (ai rfl (ai (vI a50) trivial)))))) (ai rfl (ai (oR a44) trivial)))
  ·
   try have hk := cubes_mem k _ (getD_mem (l := cubes k) (j := m) (d := default) (by omega))
   refine T_exit (T_region hc (Ch.s (.row 4) pm (Ch.s (.row 4) pa (Ch.nil (T_region hc (Ch.s (.d (.int .i64 ((k : Int) + 1))) (iX rfl rfl intV_addA) (Ch.s (.d (.int .i64 ((k : Int) + 1))) pm ?_)))))))
   refine Ch.nil ?_
   exact nx (k + 1) (by omega) (Wk.ren [(3, 4)] rfl rfl rfl rfl (ai rfl (ai rfl (ai (vI a50) trivial))) (ai (oR a51) trivial))
 ·
  refine T_exit (T_seq (T_region hc (Ch.s (.row 3) pm (Ch.s (.row 3) pa (Ch.nil (T_ret ?_))))))
  exact endR [(.row 3)] [] [3] (.cons (.tmp 2 rfl) .nil) (.cons (.any _) .nil) (Exp.of (congrArg (D.slice true 1) (by rw [show n.toNat = k by omega])) (.row rfl)) rfl rfl

theorem sp_spec_l14Cubes (n : Int) (h0 : 0 ≤ n) (hn : n ≤ 8) : Sp Try.prog 29 [(.int .i64 n)] [.any] (.slice true 1 ((cubes n.toNat).map D.str)) := by
 refine Sp_intro (lend := true) Try.func29 rfl rfl rfl (fun _ => rfl) (fun c hc hX => ?_)
 refine T_seq (T_region hc (Ch.s (.c (.slice none 0 0)) pa (Ch.nil (T_seq (T_region hc (Ch.s (.row 7000) (.slice 7000 _ 9 _ rfl sty22 (xs := [.const (.string { data := #[] })]) rfl rfl (.cons (.d _) .nil) rfl rfl (by decide)) (Ch.s (.row 7000) pa ?_)))))))
 refine Ch.nil (T_seq (T_block ?_))
 refine T_loop (ι := Nat) (fun k => { n := 30, sl := [(0, (.d (.int .i64 (n - k)))), (3, (.row 3))], hp := [(3, (some (.row 1 ((cubes k).map D.str))))], pin := [] }) (fun k => (k : Int) ≤ n) (fun k => n.toNat - k) ⟨0, (by omega), (Wk.ren [(3, 7000)] rfl rfl rfl rfl (ai (vI (by omega)) (ai rfl trivial)) (ai (oR a51) trivial))⟩ (fun k hp0 => ?_)
 have hl := cubes_length k; have hp3 : 3 ^ k ≤ 3 ^ 8 := Nat.pow_le_pow_right (by omega) (by omega)
 refine T_seq (T_seq (T_region hc (Ch.s (.d (.int .i64 (n - k))) pm (Ch.s (.d (.bool (decide (0 < (n - k))))) (iX rfl rfl rfl) (Ch.nil ?_)))))
 refine T_condD (p := (0 < (n - k))) rfl (fun h1 => ?_) (fun h1 => ?_)
 ·
  refine T_skip (T_seq (T_block (T_seq (T_region hc (Ch.s (.c (.slice none 0 0)) pa (Ch.nil (T_seq ?_)))))))
  refine T_seq (T_region hc (Ch.s (.row 3) pm (Ch.s (.d (.int .i64 ((cubes k).length : Int))) (.pure (.len _ _ 9 rfl Try.underlying22 (.row rfl) (by simp))) (Ch.s (.d (.int .i64 0)) pm (Ch.nil (T_block ?_))))))
  refine T_loop (ι := Nat) (fun m => { n := 30, sl := [(0, (.d (.int .i64 (n - k)))), (4, (.row 4)), (12, (.row 3)), (13, (.d (.int .i64 ((cubes k).length : Int)))), (14, (.d (.int .i64 (m : Int))))], hp := [(3, (some (.row 1 ((cubes k).map D.str)))), (4, (some (.row 1 ((cubesMid k m).map D.str))))], pin := [] }) (fun m => m ≤ (cubes k).length) (fun m => (cubes k).length - m) ⟨0, (by omega), (Wk.trans (Wk.nilrow 4 900004 1 rfl rfl rfl) (Wk.ren [(4, 900004)] rfl rfl rfl rfl (ai rfl (ai rfl (ai rfl (ai rfl (ai (vI a50) trivial))))) (ai rfl (ai (oR a44) trivial))))⟩ (fun m hp1 => ?_)
  have hm := cubesMid_length k m hp1
  refine T_seq (T_region hc (Ch.s (.d (.bool (decide ((m : Int) < ((cubes k).length : Int))))) (iX rfl rfl rfl) (Ch.nil (T_seq ?_))))
  refine T_condD (p := ((m : Int) < ((cubes k).length : Int))) rfl (fun h2 => ?_) (fun h2 => ?_)
  ·
   try have hk := cubes_mem k _ (getD_mem (l := cubes k) (j := m) (d := default) (by omega))
   refine T_skip (T_seq (T_block (T_seq (T_region hc (Ch.s (.el 3 1 m 0) (.pure (.idxRow _ _ _ 9 (m) rfl Try.underlying22 sz9 rfl rfl rfl rfl a38)) (Ch.s (.d (.str ((cubes k).getD m default))) (.pure (.loadEl1 _ _ rfl ag9 rfl rfl get_mapA rfl rfl rfl)) (Ch.s (.d (.str ((cubes k).getD m default))) pa ?_)))))))
   refine Ch.nil (T_region hc (Ch.s (.row 4) pm (Ch.s (.d (.str ((cubes k).getD m default))) pm (Ch.s (.d (.str (((cubes k).getD m default) ++ [45]))) (.pure (.str _ _ _ _ _ rfl rfl rfl (strV_add a20))) (Ch.s (.d (.str ((cubes k).getD m default))) pm (Ch.s (.d (.str (((cubes k).getD m default) ++ [48]))) (.pure (.str _ _ _ _ _ rfl rfl rfl (strV_add a20))) (Ch.s (.d (.str ((cubes k).getD m default))) pm ?_)))))))
   refine Ch.s (.d (.str (((cubes k).getD m default) ++ [49]))) (.pure (.str _ _ _ _ _ rfl rfl rfl (strV_add a20))) (Ch.s (.row 25000) (.slice 25000 _ 9 _ rfl sty22 (xs := [.tmp 20, .tmp 22, .tmp 24]) rfl rfl (.cons (.d _) (.cons (.d _) (.cons (.d _) .nil))) rfl rfl (by decide)) ?_)
   refine Ch.step (v := (.row 26000)) rfl (.append 26000 _ _ _ 9 rfl sty22 (by decide) (.rowK rfl) (.inr ⟨_, rfl, rfl⟩) (.row rfl rfl) rfl a27) rfl rfl ?_
   refine Ch.s (.row 26000) pa (Ch.nil (T_region hc (Ch.s (.d (.int .i64 ((m : Int) + 1))) (iX rfl rfl intV_addA) (Ch.s (.d (.int .i64 ((m : Int) + 1))) pm (Ch.nil ?_)))))
   exact nx (m + 1) (by omega) (Wk.ren [(4, 26000)] rfl rfl rfl rfl (ai rfl (ai rfl (ai rfl (ai rfl (ai (vI a50) trivial))))) (ai rfl (ai (oR a44) trivial)))
  ·
   try have hk := cubes_mem k _ (getD_mem (l := cubes k) (j := m) (d := default) (by omega))
   refine T_exit (T_region hc (Ch.s (.row 4) pm (Ch.s (.row 4) pa (Ch.nil (T_region hc (Ch.s (.d (.int .i64 (n - k))) pm (Ch.s (.d (.int .i64 ((n - k) - 1))) (iX rfl rfl intV_subA) ?_)))))))
   refine Ch.s (.d (.int .i64 ((n - k) - 1))) pa (Ch.nil ?_)
   exact nx (k + 1) (by omega) (Wk.ren [(3, 4)] rfl rfl rfl rfl (ai (vI (by omega)) (ai rfl trivial)) (ai (oR a51) trivial))
 ·
  refine T_exit (T_seq (T_region hc (Ch.s (.row 3) pm (Ch.s (.row 3) pa (Ch.nil (T_ret ?_))))))
  exact endR [(.row 3)] [] [3] (.cons (.tmp 2 rfl) .nil) (.cons (.any _) .nil) (Exp.of (congrArg (D.slice true 1) (by rw [show n.toNat = k by omega])) (.row rfl)) rfl rfl

def anyB (a : List UInt8) (us : List (List UInt8)) : Bool := us.any fun u => hasB a u

def dashAt (a : List UInt8) (j : Nat) : List UInt8 := a.take j ++ [45] ++ a.drop (j + 1)

theorem dashAt_length {a : List UInt8} {j : Nat} (h : j < a.length) : (dashAt a j).length = a.length := by simp [dashAt]; omega

def primeB (a : List UInt8) (off : List (List UInt8)) : Bool := allB a.length fun j => !(isLit a j && !anyB (dashAt a j) off)

def primP (on off : List (List UInt8)) (a : List UInt8) : Bool := anyB a on && (!anyB a off && primeB a off)

def primL (n : Nat) (on off : List (List UInt8)) : List (List UInt8) := (cubes n).filter (primP on off)

theorem sp_spec_l14Any (a : List UInt8) (us : List (List UInt8)) (hn : us.length ≤ 1048576) (ha : a.length ≤ 1048576) (hx : ∀ u ∈ us, a.length ≤ u.length) : Sp Try.prog 30 [(.str a), (.slice false 1 (us.map D.str))] [.any, .any] (.bool (anyB a us)) := by
 refine Sp_intro (lend := true) Try.func30 rfl rfl rfl (fun _ => rfl) (fun c hc hX => ?_)
 refine T_seq (T_region hc (Ch.s (.d (.bool false)) pa (Ch.nil (T_seq (T_seq (T_region hc (Ch.s (.d (.slice false 1 (us.map D.str))) pm ?_)))))))
 refine Ch.s (.d (.int .i64 (us.length : Int))) (.pure (.len _ _ 9 rfl Try.underlying22 (.sh _ _) (by simp))) (Ch.s (.d (.int .i64 0)) pm (Ch.nil (T_block ?_)))
 refine T_loop (ι := Nat) (fun k => { n := 17, sl := [(0, (.d (.str a))), (7, (.d (.slice false 1 (us.map D.str)))), (8, (.d (.int .i64 (us.length : Int)))), (9, (.d (.int .i64 (k : Int))))], hp := [], pin := [] }) (fun k => k ≤ us.length ∧ ∀ j, j < k → hasB a (us.getD j default) = false) (fun k => us.length - k) ⟨0, ⟨by omega, fun j hj => by omega⟩, (Wk.of rfl rfl (ai rfl (ai rfl (ai rfl (ai (vI a50) trivial)))) trivial)⟩ (fun k hp0 => ?_)
 refine T_seq (T_region hc (Ch.s (.d (.bool (decide ((k : Int) < (us.length : Int))))) (iX rfl rfl rfl) (Ch.nil (T_seq ?_))))
 refine T_condD (p := ((k : Int) < (us.length : Int))) rfl (fun h1 => ?_) (fun h1 => ?_)
 ·
  try have hk := hx _ (getD_mem (l := us) (j := k) (d := default) (by omega))
  refine T_skip (T_seq (T_block (T_seq (T_region hc (Ch.s (.d (.ref (.str (us.getD k default)))) (.pure (.idx _ _ _ 9 (k) rfl Try.underlying22 sz9 rfl rfl rfl get_mapA)) (Ch.s (.d (.str (us.getD k default))) (.pure (.loadRef1 _ _ rfl ag9 rfl rfl)) (Ch.s (.d (.str (us.getD k default))) pa ?_)))))))
  refine Ch.nil (T_seq (T_region hc (Ch.s (.d (.str a)) pm (Ch.s (.d (.str (us.getD k default))) pm (Ch.s (.d (.bool (hasB a (us.getD k default)))) (.call 15000 33 _ _ _ en33 rfl (.inl rfl) (.cons (.d _) (.cons (.d _) .nil)) rfl rfl (sp_spec_l13Has a (us.getD k default) a8 a8) (.skip _ _ (.skip _ _ .nil)) rfl) (Ch.nil ?_))))))
  refine T_cond (b := (hasB a (us.getD k default))) rfl (fun h2 => ?_) (fun h2 => ?_)
  ·
   refine T_seq (T_region hc (Ch.s (.d (.bool true)) pa (Ch.nil (T_ret ?_))))
   exact endR [(.d (.bool true))] [] [] (.cons (.tmp 4 rfl) .nil) (.cons (.any _) (.cons (.any _) .nil)) (Exp.of (congrArg D.bool (by exact any_yes default k (by omega) (by assumption))) (.d _)) rfl rfl
  ·
   refine T_skip (T_region hc (Ch.s (.d (.int .i64 ((k : Int) + 1))) (iX rfl rfl intV_addA) (Ch.s (.d (.int .i64 ((k : Int) + 1))) pm (Ch.nil ?_))))
   exact nx (k + 1) ⟨by omega, upto_succ hp0.2 (by assumption)⟩ (Wk.of rfl rfl (ai rfl (ai rfl (ai rfl (ai (vI a50) trivial)))) trivial)
 ·
  try have hk := hx _ (getD_mem (l := us) (j := k) (d := default) (by omega))
  refine T_exit (T_seq (T_region hc (Ch.s (.d (.bool false)) pa (Ch.nil (T_ret ?_)))))
  exact endR [(.d (.bool false))] [] [] (.cons (.tmp 4 rfl) .nil) (.cons (.any _) (.cons (.any _) .nil)) (Exp.of (congrArg D.bool a48) (.d _)) rfl rfl

theorem sp_impl_avoids_1 (u a : List UInt8) (ha : a.length ≤ 1048576) (hl : a.length ≤ u.length) : Sp Try.prog 56 [(.str u), (.ref (.str a))] [.any, .any] (.bool (hasB a u)) := by
 refine Sp_intro (lend := true) Try.func56 rfl rfl rfl (fun _ => rfl) (fun c hc hX => ?_)
 refine T_seq (T_region hc (Ch.s (.d (.bool false)) pa (Ch.nil (T_seq (T_region hc (Ch.s (.d (.str a)) (.pure (.loadRef1 _ _ rfl ag9 rfl rfl)) (Ch.s (.d (.str u)) pm ?_)))))))
 refine Ch.s (.d (.bool (hasB a u))) (.call 6000 48 _ _ _ en48 rfl (.inl rfl) (.cons (.d _) (.cons (.d _) .nil)) rfl rfl (sp_impl_contains a u a8 a8) (.skip _ _ (.skip _ _ .nil)) rfl) (Ch.s (.d (.bool (hasB a u))) pa (Ch.nil (T_ret ?_)))
 exact endR [(.d (.bool (hasB a u)))] [] [] (.cons (.tmp 3 rfl) .nil) (.cons (.any _) (.cons (.any _) .nil)) (.d _) rfl rfl

theorem sp_impl_avoids (a : List UInt8) (us : List (List UInt8)) (hn : us.length ≤ 1048576) (ha : a.length ≤ 1048576) (hx : ∀ u ∈ us, a.length ≤ u.length) : Sp Try.prog 42 [(.str a), (.slice false 1 (us.map D.str))] [.any, .any] (.bool (!anyB a us)) := by
 refine Sp_intro (lend := true) Try.func42 rfl rfl rfl (fun _ => rfl) (fun c hc hX => ?_)
 refine T_seq (T_region hc (Ch.s (.ptr 2000 0) (.box 2000 _ _ rfl (.one _ rfl)) (Ch.s (.d (.bool false)) pa (Ch.nil (T_seq (T_region hc (Ch.s (.d (.slice false 1 (us.map D.str))) pm ?_)))))))
 refine Ch.s (.fn 56 [(.ptr 2000 0)]) (.pure (.func _ _ rfl rfl)) (Ch.s (.d (.bool (us.any (fun u => hasB a u)))) (.call 7000 21 _ _ _ en21 rfl (.inl rfl) (.cons (.d _) (.cons (.lend (.fn (.cons (.ptr rfl (.one (.d _) rfl)) .nil))) .nil)) rfl rfl (sp_ContainsFunc_str us 56 [(.ref (.str a))] (fun u => hasB a u) en56 (fun u hu => sp_impl_avoids_1 u a a8 (hx u hu)) a8) (.skip _ _ (.skip _ _ .nil)) rfl) (Ch.s (.d (.bool (!(us.any (fun u => hasB a u))))) (.pure (.not _ _ rfl rfl)) (Ch.s (.d (.bool (!(us.any (fun u => hasB a u))))) pa (Ch.nil (T_ret ?_)))))
 exact endR [(.d (.bool (!(us.any (fun u => hasB a u)))))] [] [] (.cons (.tmp 4 rfl) .nil) (.cons (.any _) (.cons (.any _) .nil)) (Exp.of (congrArg D.bool (by rfl)) (.d _)) rfl rfl

theorem sp_spec_l14Prime (a : List UInt8) (off : List (List UInt8)) (hn : off.length ≤ 1048576) (ha : a.length ≤ 1048576) (hx : ∀ u ∈ off, a.length ≤ u.length) : Sp Try.prog 31 [(.str a), (.slice false 1 (off.map D.str))] [.any, .any] (.bool (primeB a off)) := by
 refine Sp_intro (lend := true) Try.func31 rfl rfl rfl (fun _ => rfl) (fun c hc hX => ?_)
 refine T_seq (T_region hc (Ch.s (.d (.bool false)) pa (Ch.nil (T_seq (T_seq (T_region hc (Ch.s (.d (.int .i64 0)) pa ?_)))))))
 refine Ch.nil (T_block ?_)
 refine T_loop (ι := Nat) (fun k => { n := 24, sl := [(0, (.d (.str a))), (1, (.d (.slice false 1 (off.map D.str)))), (5, (.d (.int .i64 (k : Int))))], hp := [], pin := [] }) (fun k => k ≤ a.length ∧ ∀ j, j < k → (!(isLit a j && !anyB (dashAt a j) off)) = true) (fun k => a.length - k) ⟨0, ⟨by omega, fun j hj => by omega⟩, (Wk.of rfl rfl (ai rfl (ai rfl (ai (vI a50) trivial))) trivial)⟩ (fun k hp0 => ?_)
 refine T_seq (T_seq (T_region hc (Ch.s (.d (.int .i64 (k : Int))) pm (Ch.s (.d (.str a)) pm (Ch.s (.d (.int .i64 (a.length : Int))) (.pure (.lenStr _ _ rfl Try.underlying9 rfl)) (Ch.s (.d (.bool (decide ((k : Int) < (a.length : Int))))) (iX rfl rfl rfl) (Ch.nil ?_)))))))
 refine T_condD (p := ((k : Int) < (a.length : Int))) rfl (fun h1 => ?_) (fun h1 => ?_)
 ·
  try have hdl := dashAt_length (a := a) (j := k) (by omega)
  try have hdx : ∀ u ∈ off, (dashAt a k).length ≤ u.length := fun u hu => by (rw [hdl]; exact hx u hu)
  try have hds : (a.take k ++ [45] ++ a.drop (k + 1)).length ≤ 1048576 := by (rw [show (a.take k ++ [45] ++ a.drop (k + 1)).length = a.length from hdl]; exact ha)
  refine T_skip (T_seq (T_block (T_seq (T_region hc (Ch.s (.d (.str a)) pm (Ch.s (.d (.int .i64 (k : Int))) pm (Ch.s (.d (.int .u8 ((a.getD k 0).toNat : Int))) (.pure (.idxStr _ _ _ (k) rfl Try.underlying9 rfl rfl rfl get_strA)) ?_)))))))
  refine Ch.s (.d (.bool (!(decide (((a.getD k 0) : UInt8) = 45))))) (iX rfl rfl (u8_neq ((a.getD k 0) : UInt8) 45 rfl rfl)) (Ch.s (.d (.bool (!(decide (((a.getD k 0) : UInt8) = 45))))) pm ?_)
  cases h2 : (decide (((a.getD k 0) : UInt8) = 45)) with
  | true =>
   replace h2 := of_decide_eq_true h2
   refine Ch.skip rfl rfl (Ch.skip rfl rfl (Ch.skip rfl rfl (Ch.skip rfl rfl (Ch.skip rfl rfl (Ch.skip rfl rfl (Ch.s (.d (.bool false)) (.pure (.pickF _ _ _ rfl rfl rfl)) (Ch.nil ?_)))))))
   refine T_cond (b := false) rfl (fun h => nomatch h) (fun _ => ?_)
   refine T_skip (T_region hc (Ch.s (.d (.int .i64 (k : Int))) pm (Ch.s (.d (.int .i64 ((k : Int) + 1))) (iX rfl rfl intV_addA) (Ch.s (.d (.int .i64 ((k : Int) + 1))) pa (Ch.nil ?_)))))
   exact nx (k + 1) ⟨by omega, upto_succ hp0.2 (by simp_all [isLit, dashAt])⟩ (Wk.of rfl rfl (ai rfl (ai rfl (ai (vI a50) trivial))) trivial)
  | false =>
   replace h2 := of_decide_eq_false h2
   refine Ch.s (.d (.str a)) pm (Ch.s (.d (.int .i64 (k : Int))) pm (Ch.s (.d (.str (dashAt a k))) (.call 19000 51 _ _ _ en51 rfl (.inl rfl) (.cons (.d _) (.cons (.d _) (.cons (.d _) .nil))) rfl rfl (sp_spec_l5Set a (k : Int) ([45]) a8 (by first | omega | (simp; done) | assumption) a8 a8) (.skip _ _ (.skip _ _ (.skip _ _ .nil))) rfl) (Ch.s (.d (.slice false 1 (off.map D.str))) pm (Ch.s (.d (.bool (anyB (dashAt a k) off))) (.call 21000 30 _ _ _ en30 rfl (.inl rfl) (.cons (.d _) (.cons (.d _) .nil)) rfl rfl (sp_spec_l14Any (dashAt a k) off a8 a8 a8) (.skip _ _ (.skip _ _ .nil)) rfl) (Ch.s (.d (.bool (!(anyB (dashAt a k) off)))) (.pure (.not _ _ rfl rfl)) (Ch.s (.d (.bool (!(anyB (dashAt a k) off)))) (.pure (.pickT _ _ _ rfl rfl rfl)) (Ch.nil ?_)))))))
   refine T_condN (b := (anyB (dashAt a k) off)) rfl (fun h3 => ?_) (fun h3 => ?_)
   ·
    refine T_seq (T_region hc (Ch.s (.d (.bool false)) pa (Ch.nil (T_ret ?_))))
    exact endR [(.d (.bool false))] [] [] (.cons (.tmp 4 rfl) .nil) (.cons (.any _) (.cons (.any _) .nil)) (Exp.of (congrArg D.bool a25) (.d _)) rfl rfl
   ·
    refine T_skip (T_region hc (Ch.s (.d (.int .i64 (k : Int))) pm (Ch.s (.d (.int .i64 ((k : Int) + 1))) (iX rfl rfl intV_addA) (Ch.s (.d (.int .i64 ((k : Int) + 1))) pa (Ch.nil ?_)))))
    exact nx (k + 1) ⟨by omega, upto_succ hp0.2 (by simp_all [isLit, dashAt])⟩ (Wk.of rfl rfl (ai rfl (ai rfl (ai (vI a50) trivial))) trivial)
 ·
  try have hdl := dashAt_length (a := a) (j := k) (by omega)
  try have hdx : ∀ u ∈ off, (dashAt a k).length ≤ u.length := fun u hu => by (rw [hdl]; exact hx u hu)
  try have hds : (a.take k ++ [45] ++ a.drop (k + 1)).length ≤ 1048576 := by (rw [show (a.take k ++ [45] ++ a.drop (k + 1)).length = a.length from hdl]; exact ha)
  refine T_exit (T_seq (T_region hc (Ch.s (.d (.bool true)) pa (Ch.nil (T_ret ?_)))))
  exact endR [(.d (.bool true))] [] [] (.cons (.tmp 4 rfl) .nil) (.cons (.any _) (.cons (.any _) .nil)) (Exp.of (congrArg D.bool a25) (.d _)) rfl rfl

theorem sp_impl_isPrime (a : List UInt8) (off : List (List UInt8)) (hn : off.length ≤ 1048576) (ha : a.length ≤ 1048576) (hx : ∀ u ∈ off, a.length ≤ u.length) : Sp Try.prog 43 [(.str a), (.slice false 1 (off.map D.str))] [.any, .any] (.bool (primeB a off)) := by
 refine Sp_intro (lend := true) Try.func43 rfl rfl rfl (fun _ => rfl) (fun c hc hX => ?_)
 refine T_seq (T_region hc (Ch.s (.d (.bool false)) pa (Ch.nil (T_seq (T_seq (T_region hc (Ch.s (.d (.str a)) pm ?_)))))))
 refine Ch.s (.d (.int .i64 (a.length : Int))) (.pure (.lenStr _ _ rfl Try.underlying9 rfl)) (Ch.s (.d (.int .i64 0)) pm (Ch.nil (T_block ?_)))
 refine T_loop (ι := Nat) (fun k => { n := 29, sl := [(0, (.d (.str a))), (1, (.d (.slice false 1 (off.map D.str)))), (7, (.d (.int .i64 (a.length : Int)))), (8, (.d (.int .i64 (k : Int))))], hp := [], pin := [] }) (fun k => k ≤ a.length ∧ ∀ j, j < k → (!(isLit a j && !anyB (dashAt a j) off)) = true) (fun k => a.length - k) ⟨0, ⟨by omega, fun j hj => by omega⟩, (Wk.of rfl rfl (ai rfl (ai rfl (ai rfl (ai (vI a50) trivial)))) trivial)⟩ (fun k hp0 => ?_)
 refine T_seq (T_region hc (Ch.s (.d (.bool (decide ((k : Int) < (a.length : Int))))) (iX rfl rfl rfl) (Ch.nil (T_seq ?_))))
 refine T_condD (p := ((k : Int) < (a.length : Int))) rfl (fun h1 => ?_) (fun h1 => ?_)
 ·
  try have hdl := dashAt_length (a := a) (j := k) (by omega)
  try have hdx : ∀ u ∈ off, (dashAt a k).length ≤ u.length := fun u hu => by (rw [hdl]; exact hx u hu)
  try have hds : (a.take k ++ [45] ++ a.drop (k + 1)).length ≤ 1048576 := by (rw [show (a.take k ++ [45] ++ a.drop (k + 1)).length = a.length from hdl]; exact ha)
  refine T_skip (T_seq (T_block (T_seq (T_region hc (Ch.s (.d (.int .i64 (k : Int))) pm (Ch.s (.d (.int .i64 (k : Int))) pa (Ch.nil ?_)))))))
  refine T_seq ?_
  refine T_regionD hc (by kernel_rfl) ?_
  refine ChD.s (.d (.str a)) [] pm (ChD.s (.d (.int .i64 (k : Int))) [] pm (ChD.s (.d (.int .u8 ((a.getD k 0).toNat : Int))) [] (.pure (.idxStr _ _ _ (k) rfl Try.underlying9 rfl rfl rfl get_strA)) (ChD.s (.d (.bool (!(decide (((a.getD k 0) : UInt8) = 45))))) [] (iX rfl rfl (u8_neq ((a.getD k 0) : UInt8) 45 rfl rfl)) (ChD.s (.d (.bool (!(decide (((a.getD k 0) : UInt8) = 45))))) [] pm ?_))))
  cases h2 : (decide (((a.getD k 0) : UInt8) = 45)) with
  | true =>
   replace h2 := of_decide_eq_true h2
   refine ChD.skip rfl rfl (ChD.skip rfl rfl (ChD.skip rfl rfl (ChD.skip rfl rfl (ChD.skip rfl rfl (ChD.skip rfl rfl (ChD.skip rfl rfl (ChD.skip rfl rfl ?_)))))))
   refine ChD.skip rfl rfl (ChD.skip rfl rfl (ChD.skip rfl rfl (ChD.s (.d (.bool false)) [] (.pure (.pickF _ _ _ rfl rfl rfl)) ?_)))
   refine ChD.nil (And.intro ?_ (by kernel_rfl))
   refine T_cond (b := false) rfl (fun h => nomatch h) (fun _ => ?_)
   refine T_skip (T_region hc (Ch.s (.d (.int .i64 ((k : Int) + 1))) (iX rfl rfl intV_addA) (Ch.s (.d (.int .i64 ((k : Int) + 1))) pm (Ch.nil ?_))))
   exact nx (k + 1) ⟨by omega, upto_succ hp0.2 (by simp_all [isLit, dashAt])⟩ (Wk.of rfl rfl (ai rfl (ai rfl (ai rfl (ai (vI a50) trivial)))) trivial)
  | false =>
   replace h2 := of_decide_eq_false h2
   refine ChD.s (.d (.str a)) [] pm (ChD.s (.d (.int .i64 (k : Int))) [] pm (ChD.s (.d (.str (a.take k))) [] (.pure (.sliceStr _ _ _ _ (0) (k) rfl Try.underlying9 rfl (bndN rfl) (bndS rfl rfl) a20 a20 (by simp))) (ChD.s (.d (.str ((a.take k) ++ [45]))) [] (.pure (.str _ _ _ _ _ rfl rfl rfl (strV_add a20))) (ChD.s (.d (.str a)) [] pm (ChD.s (.d (.int .i64 (k : Int))) [] pm (ChD.s (.d (.int .i64 ((k : Int) + 1))) [] (iX rfl rfl intV_addA) (ChD.s (.d (.str (a.drop (k + 1)))) [] (.pure (.sliceStr _ _ _ _ ((k + 1)) (a.length) rfl Try.underlying9 rfl (bndS rfl (by omega)) (bndN rfl) a20 a20 (by simp))) ?_)))))))
   refine ChD.s (.d (.str (((a.take k) ++ [45]) ++ (a.drop (k + 1))))) [] (.pure (.str _ _ _ _ _ rfl rfl rfl (strV_add a20))) (ChD.s (.d (.slice false 1 (off.map D.str))) [] pm (ChD.s (.d (.bool (!anyB (((a.take k) ++ [45]) ++ (a.drop (k + 1))) off))) [] (.call 26000 42 _ _ _ en42 rfl (.inl rfl) (.cons (.d _) (.cons (.d _) .nil)) rfl rfl (sp_impl_avoids (((a.take k) ++ [45]) ++ (a.drop (k + 1))) off a8 a8 a8) (.skip _ _ (.skip _ _ .nil)) rfl) (ChD.s (.d (.bool (!anyB (((a.take k) ++ [45]) ++ (a.drop (k + 1))) off))) [] (.pure (.pickT _ _ _ rfl rfl rfl)) ?_)))
   refine ChD.nil (And.intro ?_ (by kernel_rfl))
   refine T_cond (b := (!anyB (((a.take k) ++ [45]) ++ (a.drop (k + 1))) off)) rfl (fun h3 => ?_) (fun h3 => ?_)
   ·
    refine T_seq (T_region hc (Ch.s (.d (.bool false)) pa (Ch.nil (T_ret ?_))))
    exact endR [(.d (.bool false))] [] [] (.cons (.tmp 4 rfl) .nil) (.cons (.any _) (.cons (.any _) .nil)) (Exp.of (congrArg D.bool a25) (.d _)) rfl rfl
   ·
    refine T_skip (T_region hc (Ch.s (.d (.int .i64 ((k : Int) + 1))) (iX rfl rfl intV_addA) (Ch.s (.d (.int .i64 ((k : Int) + 1))) pm (Ch.nil ?_))))
    exact nx (k + 1) ⟨by omega, upto_succ hp0.2 (by simp_all [isLit, dashAt])⟩ (Wk.of rfl rfl (ai rfl (ai rfl (ai rfl (ai (vI a50) trivial)))) trivial)
 ·
  try have hdl := dashAt_length (a := a) (j := k) (by omega)
  try have hdx : ∀ u ∈ off, (dashAt a k).length ≤ u.length := fun u hu => by (rw [hdl]; exact hx u hu)
  try have hds : (a.take k ++ [45] ++ a.drop (k + 1)).length ≤ 1048576 := by (rw [show (a.take k ++ [45] ++ a.drop (k + 1)).length = a.length from hdl]; exact ha)
  refine T_exit (T_seq (T_region hc (Ch.s (.d (.bool true)) pa (Ch.nil (T_ret ?_)))))
  exact endR [(.d (.bool true))] [] [] (.cons (.tmp 4 rfl) .nil) (.cons (.any _) (.cons (.any _) .nil)) (Exp.of (congrArg D.bool a25) (.d _)) rfl rfl

theorem sp_spec_l14Primes (n : Int) (on off : List (List UInt8)) (h0 : 0 ≤ n) (h8 : n ≤ 8) (hn1 : on.length ≤ 1048576) (hn2 : off.length ≤ 1048576) (ho1 : ∀ u ∈ on, (u.length : Int) = n) (ho2 : ∀ u ∈ off, (u.length : Int) = n) : Sp Try.prog 17 [(.int .i64 n), (.slice false 1 (on.map D.str)), (.slice false 1 (off.map D.str))] [.any, .any, .any] (.slice true 1 ((primL n.toNat on off).map D.str)) := by
 refine Sp_intro (lend := true) Try.func17 rfl rfl rfl (fun _ => rfl) (fun c hc hX => ?_)
 have hcl := cubes_length n.toNat; have hp3 : 3 ^ n.toNat ≤ 3 ^ 8 := Nat.pow_le_pow_right (by omega) (by omega)
 refine T_seq (T_region hc (Ch.s (.c (.slice none 0 0)) pa (Ch.nil (T_seq (T_region hc (Ch.s (.c (.slice none 0 0)) pa (Ch.nil ?_)))))))
 refine T_seq (T_seq (T_region hc (Ch.s (.d (.int .i64 n)) pm ?_)))
 refine Ch.step (v := (.row 11000)) rfl (.call 11000 29 _ _ _ en29 rfl (.inl rfl) (.cons (.d _) .nil) rfl (sol (solid_row (fun _ => rfl) _) rfl) (sp_spec_l14Cubes n a8 a8) (.skip _ _ .nil) rfl) rfl rfl ?_
 refine Ch.s (.d (.int .i64 ((cubes n.toNat).length : Int))) (.pure (.len _ _ 9 rfl Try.underlying22 (.row rfl) (by simp))) (Ch.s (.d (.int .i64 0)) pm (Ch.nil (T_block ?_)))
 refine T_loop (ι := Nat) (fun k => { n := 37, sl := [(1, (.d (.slice false 1 (on.map D.str)))), (2, (.d (.slice false 1 (off.map D.str)))), (7, (.row 7)), (11, (.row 11000)), (12, (.d (.int .i64 ((cubes n.toNat).length : Int)))), (13, (.d (.int .i64 (k : Int))))], hp := [(7, (some (.row 1 ((ftake (primP on off) (cubes n.toNat) k).map D.str)))), (11000, (some (.row 1 ((cubes n.toNat).map D.str))))], pin := [] }) (fun k => k ≤ (cubes n.toNat).length) (fun k => (cubes n.toNat).length - k) ⟨0, (by omega), (Wk.trans (Wk.nilrow 7 900007 1 rfl rfl rfl) (Wk.ren [(7, 900007)] rfl rfl rfl rfl (ai rfl (ai rfl (ai rfl (ai rfl (ai rfl (ai (vI a50) trivial)))))) (ai (oR a21) (ai rfl trivial))))⟩ (fun k hp0 => ?_)
 have hq := ftake_le (primP on off) (cubes n.toNat) k
 refine T_seq (T_region hc (Ch.s (.d (.bool (decide ((k : Int) < ((cubes n.toNat).length : Int))))) (iX rfl rfl rfl) (Ch.nil (T_seq ?_))))
 refine T_condD (p := ((k : Int) < ((cubes n.toNat).length : Int))) rfl (fun h1 => ?_) (fun h1 => ?_)
 ·
  try have hk := cubes_mem n.toNat _ (getD_mem (l := (cubes n.toNat)) (j := k) (d := default) (by omega))
  try have hk1 : ∀ u ∈ on, ((cubes n.toNat).getD k default).length ≤ u.length := fun u hu => by (have := ho1 u hu; omega)
  try have hk2 : ∀ u ∈ off, ((cubes n.toNat).getD k default).length ≤ u.length := fun u hu => by (have := ho2 u hu; omega)
  refine T_skip (T_seq (T_block (T_seq (T_region hc (Ch.s (.el 11000 1 k 0) (.pure (.idxRow _ _ _ 9 (k) rfl Try.underlying22 sz9 rfl rfl rfl rfl a38)) (Ch.s (.d (.str ((cubes n.toNat).getD k default))) (.pure (.loadEl1 _ _ rfl ag9 rfl rfl get_mapA rfl rfl rfl)) (Ch.s (.d (.str ((cubes n.toNat).getD k default))) pa ?_)))))))
  refine Ch.nil (T_seq (T_region hc (Ch.s (.d (.str ((cubes n.toNat).getD k default))) pm (Ch.s (.d (.slice false 1 (on.map D.str))) pm (Ch.s (.d (.bool (anyB ((cubes n.toNat).getD k default) on))) (.call 19000 30 _ _ _ en30 rfl (.inl rfl) (.cons (.d _) (.cons (.d _) .nil)) rfl rfl (sp_spec_l14Any ((cubes n.toNat).getD k default) on a8 a8 a8) (.skip _ _ (.skip _ _ .nil)) rfl) (Ch.s (.d (.bool (anyB ((cubes n.toNat).getD k default) on))) pm ?_))))))
  cases h2 : (anyB ((cubes n.toNat).getD k default) on) with
  | true =>
   refine Ch.s (.d (.str ((cubes n.toNat).getD k default))) pm (Ch.s (.d (.slice false 1 (off.map D.str))) pm (Ch.s (.d (.bool (anyB ((cubes n.toNat).getD k default) off))) (.call 23000 30 _ _ _ en30 rfl (.inl rfl) (.cons (.d _) (.cons (.d _) .nil)) rfl rfl (sp_spec_l14Any ((cubes n.toNat).getD k default) off a8 a8 a8) (.skip _ _ (.skip _ _ .nil)) rfl) (Ch.s (.d (.bool (!(anyB ((cubes n.toNat).getD k default) off)))) (.pure (.not _ _ rfl rfl)) (Ch.s (.d (.bool (!(anyB ((cubes n.toNat).getD k default) off)))) (.pure (.pickT _ _ _ rfl rfl rfl)) (Ch.s (.d (.bool (!(anyB ((cubes n.toNat).getD k default) off)))) pm ?_)))))
   cases h3 : (anyB ((cubes n.toNat).getD k default) off) with
   | true =>
    refine Ch.skip rfl rfl (Ch.skip rfl rfl (Ch.skip rfl rfl (Ch.s (.d (.bool false)) (.pure (.pickF _ _ _ rfl rfl rfl)) (Ch.nil ?_))))
    refine T_cond (b := false) rfl (fun h => nomatch h) (fun _ => ?_)
    refine T_skip (T_region hc (Ch.s (.d (.int .i64 ((k : Int) + 1))) (iX rfl rfl intV_addA) (Ch.s (.d (.int .i64 ((k : Int) + 1))) pm (Ch.nil ?_))))
    exact nx (k + 1) (by omega) (Wk.of rfl rfl (ai rfl (ai rfl (ai rfl (ai rfl (ai rfl (ai (vI a50) trivial)))))) (ai (oR a21) (ai rfl trivial)))
   | false =>
    refine Ch.s (.d (.str ((cubes n.toNat).getD k default))) pm (Ch.s (.d (.slice false 1 (off.map D.str))) pm (Ch.s (.d (.bool (primeB ((cubes n.toNat).getD k default) off))) (.call 29000 31 _ _ _ en31 rfl (.inl rfl) (.cons (.d _) (.cons (.d _) .nil)) rfl rfl (sp_spec_l14Prime ((cubes n.toNat).getD k default) off a8 a8 a8) (.skip _ _ (.skip _ _ .nil)) rfl) (Ch.s (.d (.bool (primeB ((cubes n.toNat).getD k default) off))) (.pure (.pickT _ _ _ rfl rfl rfl)) (Ch.nil ?_))))
    refine T_cond (b := (primeB ((cubes n.toNat).getD k default) off)) rfl (fun h4 => ?_) (fun h4 => ?_)
    ·
     refine T_region hc (Ch.s (.row 7) pm (Ch.s (.d (.str ((cubes n.toNat).getD k default))) pm (Ch.s (.row 33000) (.slice 33000 _ 9 _ rfl sty22 (xs := [.tmp 32]) rfl rfl (.cons (.d _) .nil) rfl rfl (by decide)) ?_)))
     refine Ch.step (v := (.row 34000)) rfl (.append 34000 _ _ _ 9 rfl sty22 (by decide) (.rowK rfl) (.inr ⟨_, rfl, rfl⟩) (.row rfl rfl) rfl a27) rfl rfl ?_
     refine Ch.s (.row 34000) pa (Ch.nil (T_region hc (Ch.s (.d (.int .i64 ((k : Int) + 1))) (iX rfl rfl intV_addA) (Ch.s (.d (.int .i64 ((k : Int) + 1))) pm (Ch.nil ?_)))))
     exact nx (k + 1) (by omega) (Wk.ren [(7, 34000)] rfl rfl rfl rfl (ai rfl (ai rfl (ai rfl (ai rfl (ai rfl (ai (vI a50) trivial)))))) (ai (oR a21) (ai rfl trivial)))
    ·
     refine T_skip (T_region hc (Ch.s (.d (.int .i64 ((k : Int) + 1))) (iX rfl rfl intV_addA) (Ch.s (.d (.int .i64 ((k : Int) + 1))) pm (Ch.nil ?_))))
     exact nx (k + 1) (by omega) (Wk.of rfl rfl (ai rfl (ai rfl (ai rfl (ai rfl (ai rfl (ai (vI a50) trivial)))))) (ai (oR a21) (ai rfl trivial)))
  | false =>
   refine Ch.skip rfl rfl (Ch.skip rfl rfl (Ch.skip rfl rfl (Ch.skip rfl rfl (Ch.s (.d (.bool false)) (.pure (.pickF _ _ _ rfl rfl rfl)) (Ch.s (.d (.bool false)) pm (Ch.skip rfl rfl (Ch.skip rfl rfl ?_)))))))
   refine Ch.skip rfl rfl (Ch.s (.d (.bool false)) (.pure (.pickF _ _ _ rfl rfl rfl)) (Ch.nil ?_))
   refine T_cond (b := false) rfl (fun h => nomatch h) (fun _ => ?_)
   refine T_skip (T_region hc (Ch.s (.d (.int .i64 ((k : Int) + 1))) (iX rfl rfl intV_addA) (Ch.s (.d (.int .i64 ((k : Int) + 1))) pm (Ch.nil ?_))))
   exact nx (k + 1) (by omega) (Wk.of rfl rfl (ai rfl (ai rfl (ai rfl (ai rfl (ai rfl (ai (vI a50) trivial)))))) (ai (oR a21) (ai rfl trivial)))
 ·
  try have hk := cubes_mem n.toNat _ (getD_mem (l := (cubes n.toNat)) (j := k) (d := default) (by omega))
  try have hk1 : ∀ u ∈ on, ((cubes n.toNat).getD k default).length ≤ u.length := fun u hu => by (have := ho1 u hu; omega)
  try have hk2 : ∀ u ∈ off, ((cubes n.toNat).getD k default).length ≤ u.length := fun u hu => by (have := ho2 u hu; omega)
  refine T_exit (T_seq (T_region hc (Ch.s (.row 7) pm (Ch.s (.row 7) pa (Ch.nil (T_ret ?_))))))
  exact endR [(.row 7)] [] [7] (.cons (.tmp 6 rfl) .nil) (.cons (.any _) (.cons (.any _) (.cons (.any _) .nil))) (Exp.of (congrArg (D.slice true 1) (by rw [ftake_all (by omega)]; rfl)) (.row rfl)) rfl rfl

theorem sp_impl_primes_1 (a : List UInt8) (on off : List (List UInt8)) (hn1 : on.length ≤ 1048576) (hn2 : off.length ≤ 1048576) (ha : a.length ≤ 1048576) (hk1 : ∀ u ∈ on, a.length ≤ u.length) (hk2 : ∀ u ∈ off, a.length ≤ u.length) : Sp Try.prog 41 [(.str a), (.ref (.slice false 1 (on.map D.str))), (.ref (.slice false 1 (off.map D.str)))] [.any, .any, .any] (.bool (!primP on off a)) := by
 refine Sp_intro (lend := true) Try.func41 rfl rfl rfl (fun _ => rfl) (fun c hc hX => ?_)
 refine T_seq (T_region hc (Ch.s (.d (.bool false)) pa (Ch.nil (T_seq (T_region hc (Ch.s (.d (.str a)) pm (Ch.s (.d (.slice false 1 (on.map D.str))) (.pure (.loadRef1 _ _ rfl ag22 rfl rfl)) ?_)))))))
 refine Ch.s (.d (.bool (!anyB a on))) (.call 7000 42 _ _ _ en42 rfl (.inl rfl) (.cons (.d _) (.cons (.d _) .nil)) rfl rfl (sp_impl_avoids a on a8 a8 a8) (.skip _ _ (.skip _ _ .nil)) rfl) (Ch.s (.d (.bool (!anyB a on))) pm ?_)
 cases h1 : (!anyB a on) with
 | true =>
  refine Ch.skip rfl rfl (Ch.skip rfl rfl (Ch.skip rfl rfl (Ch.skip rfl rfl (Ch.s (.d (.bool true)) (.pure (.pickT _ _ _ rfl rfl rfl)) (Ch.s (.d (.bool true)) pm (Ch.skip rfl rfl (Ch.skip rfl rfl ?_)))))))
  refine Ch.skip rfl rfl (Ch.skip rfl rfl (Ch.s (.d (.bool true)) (.pure (.pickT _ _ _ rfl rfl rfl)) (Ch.s (.d (.bool true)) pa (Ch.nil (T_ret ?_)))))
  exact endR [(.d (.bool true))] [] [] (.cons (.tmp 4 rfl) .nil) (.cons (.any _) (.cons (.any _) (.cons (.any _) .nil))) (Exp.of (congrArg D.bool a45) (.d _)) rfl rfl
 | false =>
  refine Ch.s (.d (.str a)) pm (Ch.s (.d (.slice false 1 (off.map D.str))) (.pure (.loadRef1 _ _ rfl ag22 rfl rfl)) (Ch.s (.d (.bool (!anyB a off))) (.call 11000 42 _ _ _ en42 rfl (.inl rfl) (.cons (.d _) (.cons (.d _) .nil)) rfl rfl (sp_impl_avoids a off a8 a8 a8) (.skip _ _ (.skip _ _ .nil)) rfl) (Ch.s (.d (.bool (!(!anyB a off)))) (.pure (.not _ _ rfl rfl)) (Ch.s (.d (.bool (!(!anyB a off)))) (.pure (.pickF _ _ _ rfl rfl rfl)) (Ch.s (.d (.bool (!(!anyB a off)))) pm ?_)))))
  cases h2 : (!anyB a off) with
  | true =>
   refine Ch.s (.d (.str a)) pm (Ch.s (.d (.slice false 1 (off.map D.str))) (.pure (.loadRef1 _ _ rfl ag22 rfl rfl)) (Ch.s (.d (.bool (primeB a off))) (.call 17000 43 _ _ _ en43 rfl (.inl rfl) (.cons (.d _) (.cons (.d _) .nil)) rfl rfl (sp_impl_isPrime a off a8 a8 a8) (.skip _ _ (.skip _ _ .nil)) rfl) (Ch.s (.d (.bool (!(primeB a off)))) (.pure (.not _ _ rfl rfl)) (Ch.s (.d (.bool (!(primeB a off)))) (.pure (.pickF _ _ _ rfl rfl rfl)) (Ch.s (.d (.bool (!(primeB a off)))) pa (Ch.nil (T_ret ?_)))))))
   exact endR [(.d (.bool (!(primeB a off))))] [] [] (.cons (.tmp 4 rfl) .nil) (.cons (.any _) (.cons (.any _) (.cons (.any _) .nil))) (Exp.of (congrArg D.bool a45) (.d _)) rfl rfl
  | false =>
   refine Ch.skip rfl rfl (Ch.skip rfl rfl (Ch.skip rfl rfl (Ch.skip rfl rfl (Ch.s (.d (.bool true)) (.pure (.pickT _ _ _ rfl rfl rfl)) (Ch.s (.d (.bool true)) pa (Ch.nil (T_ret ?_)))))))
   exact endR [(.d (.bool true))] [] [] (.cons (.tmp 4 rfl) .nil) (.cons (.any _) (.cons (.any _) (.cons (.any _) .nil))) (Exp.of (congrArg D.bool a45) (.d _)) rfl rfl

theorem primL_del (n : Nat) (on off : List (List UInt8)) : (cubes n).filter (fun u => !(fun u => !primP on off u) u) = primL n on off := by
 unfold primL; congr 1; funext u; simp

theorem primL_le (n : Nat) (on off : List (List UInt8)) : (primL n on off).length ≤ 3 ^ n := by
 rw [← cubes_length n]; exact List.length_filter_le _ _

theorem primL_mem {n : Nat} {on off : List (List UInt8)} : ∀ u ∈ primL n on off, u.length = n := fun u hu => cubes_mem n u (List.mem_filter.1 hu).1

def primOk (n : Int) (on off : List (List UInt8)) : Bool := onoffB n on off && decide (((primL n.toNat on off).length : Int) ≤ 60)

def primR (n : Int) (on off : List (List UInt8)) : List (List UInt8) := if primOk n on off then primL n.toNat on off else []

theorem sp_impl_primes (n : Int) (on off : List (List UInt8)) (h0 : 0 ≤ n) (h8 : n ≤ 8) (hn1 : on.length ≤ 1048576) (hn2 : off.length ≤ 1048576) (ho1 : ∀ u ∈ on, (u.length : Int) = n) (ho2 : ∀ u ∈ off, (u.length : Int) = n) : Sp Try.prog 24 [(.int .i64 n), (.slice false 1 (on.map D.str)), (.slice false 1 (off.map D.str))] [.any, .any, .any] (.tup [(.slice true 1 ((primL n.toNat on off).map D.str)), (.bool (decide (((primL n.toNat on off).length : Int) ≤ 60)))]) := by
 refine Sp_intro (lend := true) Try.func24 rfl rfl rfl (fun _ => rfl) (fun c hc hX => ?_)
 have hcl := cubes_length n.toNat; have hp3 : 3 ^ n.toNat ≤ 3 ^ 8 := Nat.pow_le_pow_right (by omega) (by omega)
 refine T_seq (T_region hc (Ch.s (.ptr 4000 0) (.box 4000 _ _ rfl (.one _ rfl)) (Ch.s (.ptr 5000 0) (.box 5000 _ _ rfl (.one _ rfl)) (Ch.s (.c (.slice none 0 0)) pa (Ch.s (.d (.bool false)) pa (Ch.nil (T_seq ?_)))))))
 refine T_region hc (Ch.s (.d (.int .i64 n)) pm ?_)
 refine Ch.step (v := (.row 10000)) rfl (.call 10000 40 _ _ _ en40 rfl (.inl rfl) (.cons (.d _) .nil) rfl (sol (solid_row (fun _ => rfl) _) rfl) (sp_impl_allCubes n a8 a8) (.skip _ _ .nil) rfl) rfl rfl ?_
 refine Ch.s (.fn 41 [(.ptr 4000 0), (.ptr 5000 0)]) (.pure (.func _ _ rfl rfl)) ?_
 refine Ch.step (v := (.row 12000)) rfl (.call 12000 39 _ _ _ en39 rfl (.inl rfl) (.cons (.row rfl) (.cons (.lend (.fn (.cons (.ptr rfl (.one (.d _) rfl)) (.cons (.ptr rfl (.one (.d _) rfl)) .nil)))) .nil)) rfl (sol (solid_row (fun _ => rfl) _) rfl) (sp_DeleteFunc_str (cubes n.toNat) 41 [(.ref (.slice false 1 (on.map D.str))), (.ref (.slice false 1 (off.map D.str)))] (fun u => !primP on off u) en41 (fun u hu => sp_impl_primes_1 u on off hn1 hn2 (by have h6 := cubes_mem _ u hu; omega) (fun v hv => by (have h6 := cubes_mem _ u hu; have h7 := ho1 v hv; omega)) (fun v hv => by (have h6 := cubes_mem _ u hu; have h7 := ho2 v hv; omega))) a8) (.skip _ _ (.skip _ _ .nil)) rfl) rfl rfl ?_
 refine Ch.s (.row 12000) pa (Ch.nil (T_seq (T_region hc (Ch.s (.row 12000) pm (Ch.s (.row 12000) pm (Ch.s (.d (.int .i64 ((((cubes n.toNat).filter (fun u => !(fun u => !primP on off u) u)).length : Nat) : Int))) (.pure (.len _ _ 9 rfl Try.underlying22 (.row rfl) (by simp))) (Ch.s (.d (.bool (decide (((((cubes n.toNat).filter (fun u => !(fun u => !primP on off u) u)).length : Nat) : Int) ≤ 60)))) (iX rfl rfl rfl) ?_)))))))
 refine Ch.s (.row 12000) pa (Ch.s (.d (.bool (decide (((((cubes n.toNat).filter (fun u => !(fun u => !primP on off u) u)).length : Nat) : Int) ≤ 60)))) pa (Ch.nil (T_ret ?_)))
 exact endR [(.row 12000), (.d (.bool (decide (((((cubes n.toNat).filter (fun u => !(fun u => !primP on off u) u)).length : Nat) : Int) ≤ 60))))] [] [12000] (.cons (.tmp 6 rfl) (.cons (.tmp 7 rfl) .nil)) (.cons (.any _) (.cons (.any _) (.cons (.any _) .nil))) (.tup (.cons (Exp.of (congrArg (D.slice true 1) (by first | rfl | (rw [primL_del]; done))) (.row rfl)) (.cons (Exp.of (congrArg D.bool (by first | rfl | (rw [primL_del]; done))) (.d _)) .nil))) rfl rfl

theorem sp_spec_Primes (n : Int) (on off : List (List UInt8)) (hn1 : on.length ≤ 1048576) (hx1 : ∀ x ∈ on, x.length ≤ 1048576) (hn2 : off.length ≤ 1048576) (hx2 : ∀ x ∈ off, x.length ≤ 1048576) : Sp Try.prog 11 [(.int .i64 n), (.slice false 1 (on.map D.str)), (.slice false 1 (off.map D.str))] [.any, .any, .any] (.tup [(.slice true 1 ((primR n on off).map D.str)), (.bool (primOk n on off))]) := by
 refine Sp_intro (lend := true) Try.func11 rfl rfl rfl (fun _ => rfl) (fun c hc hX => ?_)
 refine T_seq (T_region hc (Ch.s (.c (.slice none 0 0)) pa (Ch.s (.d (.bool false)) pa (Ch.nil (T_seq (T_seq (T_region hc ?_)))))))
 refine Ch.s (.d (.int .i64 n)) pm (Ch.s (.d (.slice false 1 (on.map D.str))) pm (Ch.s (.d (.slice false 1 (off.map D.str))) pm (Ch.s (.d (.bool (onoffB n on off))) (.call 12000 16 _ _ _ en16 rfl (.inl rfl) (.cons (.d _) (.cons (.d _) (.cons (.d _) .nil))) rfl rfl (sp_spec_l14Sets n on off a8 a8 a8 a8) (.skip _ _ (.skip _ _ (.skip _ _ .nil))) rfl) (Ch.s (.d (.bool (!(onoffB n on off)))) (.pure (.not _ _ rfl rfl)) (Ch.nil ?_)))))
 refine T_condN (b := (onoffB n on off)) rfl (fun h1 => ?_) (fun h1 => ?_)
 ·
  try have hop := onoff_parts h1
  try have h0 : 0 ≤ n := by (have := hop.1; omega)
  try have h8 := hop.1.2
  try have ho1 := hop.2.2.2.1
  try have ho2 := hop.2.2.2.2
  try have hpl := primL_le n.toNat on off
  try have hp3 : 3 ^ n.toNat ≤ 3 ^ 8 := Nat.pow_le_pow_right (by omega) (by omega)
  refine T_seq (T_region hc (Ch.s (.c (.slice none 0 0)) pa (Ch.s (.d (.bool false)) pa (Ch.nil (T_ret ?_)))))
  exact endR [(.c (.slice none 0 0)), (.d (.bool false))] [] [] (.cons (.tmp 6 rfl) (.cons (.tmp 7 rfl) .nil)) (.cons (.any _) (.cons (.any _) (.cons (.any _) .nil))) (.tup (.cons (Exp.of (congrArg (D.slice true 1) a3) (.nil true 1)) (.cons (Exp.of (congrArg D.bool a3) (.d _)) .nil))) rfl rfl
 ·
  try have hop := onoff_parts h1
  try have h0 : 0 ≤ n := by (have := hop.1; omega)
  try have h8 := hop.1.2
  try have ho1 := hop.2.2.2.1
  try have ho2 := hop.2.2.2.2
  try have hpl := primL_le n.toNat on off
  try have hp3 : 3 ^ n.toNat ≤ 3 ^ 8 := Nat.pow_le_pow_right (by omega) (by omega)
  refine T_skip (T_seq (T_region hc (Ch.s (.d (.int .i64 n)) pm (Ch.s (.d (.slice false 1 (on.map D.str))) pm (Ch.s (.d (.slice false 1 (off.map D.str))) pm ?_)))))
  refine Ch.step (v := (.row 17000)) rfl (.call 17000 17 _ _ _ en17 rfl (.inl rfl) (.cons (.d _) (.cons (.d _) (.cons (.d _) .nil))) rfl (sol (solid_row (fun _ => rfl) _) rfl) (sp_spec_l14Primes n on off a8 a8 a8 a8 a8 a8) (.skip _ _ (.skip _ _ (.skip _ _ .nil))) rfl) rfl rfl ?_
  refine Ch.s (.row 17000) pa (Ch.nil (T_seq (T_seq (T_region hc (Ch.s (.row 17000) pm (Ch.s (.d (.int .i64 ((primL n.toNat on off).length : Int))) (.pure (.len _ _ 9 rfl Try.underlying22 (.row rfl) (by simp))) (Ch.s (.d (.bool (decide (60 < ((primL n.toNat on off).length : Int))))) (iX rfl rfl rfl) ?_)))))))
  refine Ch.nil ?_
  refine T_condD (p := (60 < ((primL n.toNat on off).length : Int))) rfl (fun h2 => ?_) (fun h2 => ?_)
  ·
   refine T_seq (T_region hc (Ch.s (.c (.slice none 0 0)) pa (Ch.s (.d (.bool false)) pa (Ch.nil (T_ret ?_)))))
   exact endR [(.c (.slice none 0 0)), (.d (.bool false))] [] [] (.cons (.tmp 6 rfl) (.cons (.tmp 7 rfl) .nil)) (.cons (.any _) (.cons (.any _) (.cons (.any _) .nil))) (.tup (.cons (Exp.of (congrArg (D.slice true 1) a3) (.nil true 1)) (.cons (Exp.of (congrArg D.bool a3) (.d _)) .nil))) rfl rfl
  ·
   refine T_skip (T_seq (T_region hc (Ch.s (.row 17000) pm (Ch.s (.row 17000) pa (Ch.s (.d (.bool true)) pa (Ch.nil (T_ret ?_)))))))
   exact endR [(.row 17000), (.d (.bool true))] [] [17000] (.cons (.tmp 6 rfl) (.cons (.tmp 7 rfl) .nil)) (.cons (.any _) (.cons (.any _) (.cons (.any _) .nil))) (.tup (.cons (Exp.of (congrArg (D.slice true 1) a3) (.row rfl)) (.cons (Exp.of (congrArg D.bool a3) (.d _)) .nil))) rfl rfl

theorem sp_Clone_str (xs : List (List UInt8)) (hn : xs.length ≤ 1048576) : Sp Try.prog 44 [(.slice false 1 (xs.map D.str))] [.any] (.slice true 1 (xs.map D.str)) := by
 refine Sp_intro (lend := true) Try.func44 rfl rfl rfl (fun _ => rfl) (fun c hc hX => ?_)
 refine T_seq (T_region hc (Ch.s (.c (.slice none 0 0)) pa (Ch.nil (T_seq (T_seq (T_region hc (Ch.s (.d (.slice false 1 (xs.map D.str))) pm ?_)))))))
 refine Ch.nilq (sz := 1) (xs := (xs.map D.str)) _ _ _ _ 9 rfl rfl Try.underlying22 (.sh _ _) rfl rfl (fun q1 hzq1 => ?_)
 refine Ch.nil ?_
 refine T_cond (b := (q1)) rfl (fun h1 => ?_) (fun h1 => ?_)
 ·
  try have hz := hzq1 h1
  refine T_seq (T_region hc (Ch.s (.c (.slice none 0 0)) pa (Ch.nil (T_ret ?_))))
  exact endR [(.c (.slice none 0 0))] [] [] (.cons (.tmp 2 rfl) .nil) (.cons (.any _) .nil) (Exp.of (congrArg (D.slice true 1) (by first | rfl | (rw [hz]; done))) (.nil true 1)) rfl rfl
 ·
  try have hz := hzq1 h1
  refine T_skip (T_seq (T_region hc (Ch.s (.row 5000) (.slice 5000 _ 9 _ rfl sty22 (xs := []) rfl rfl .nil rfl rfl (by decide)) (Ch.s (.d (.slice false 1 (xs.map D.str))) pm ?_))))
  refine Ch.step (v := (.row 7000)) rfl (.append 7000 _ _ _ 9 rfl sty22 (by decide) (.rowK rfl) (.inr ⟨_, rfl, rfl⟩) (.sh _ _) rfl a27) rfl rfl ?_
  refine Ch.s (.row 7000) pa (Ch.nil (T_ret ?_))
  exact endR [(.row 7000)] [] [7000] (.cons (.tmp 2 rfl) .nil) (.cons (.any _) .nil) (.row rfl) rfl rfl

theorem sp_spec_l1OwnS (xs : List (List UInt8)) (hn : xs.length ≤ 1048576) : Sp Try.prog 52 [(.slice false 1 (xs.map D.str))] [.any] (.slice true 1 (xs.map D.str)) := by
 refine Sp_intro (lend := true) Try.func52 rfl rfl rfl (fun _ => rfl) (fun c hc hX => ?_)
 refine T_seq (T_region hc (Ch.s (.c (.slice none 0 0)) pa (Ch.nil (T_seq (T_region hc (Ch.s (.row 3000) (.slice 3000 _ 9 _ rfl sty22 (xs := []) rfl rfl .nil rfl rfl (by decide)) (Ch.s (.d (.slice false 1 (xs.map D.str))) pm ?_)))))))
 refine Ch.step (v := (.row 5000)) rfl (.append 5000 _ _ _ 9 rfl sty22 (by decide) (.rowK rfl) (.inr ⟨_, rfl, rfl⟩) (.sh _ _) rfl a27) rfl rfl ?_
 refine Ch.s (.row 5000) pa (Ch.nil (T_ret ?_))
 exact endR [(.row 5000)] [] [5000] (.cons (.tmp 2 rfl) .nil) (.cons (.any _) .nil) (.row rfl) rfl rfl

theorem froz_c {x y : D} {xs ys : List D} (h : x.froz = y) (h2 : frozs xs = ys) : frozs (x :: xs) = y :: ys := by rw [frozs, h, h2]

theorem slice_froz {u : Bool} {sz : Nat} {xs ys : List D} (h : frozs xs = ys) : (D.slice u sz xs).froz = D.slice false sz ys := by rw [D.froz, h]

def bulkF {τ : Type} (f : τ → Nat) (xs : List τ) : Nat := xs.length + (xs.map f).sum

theorem le_sumL {x : Nat} : ∀ {l : List Nat}, x ∈ l → x ≤ l.sum
  | y :: l, h => by
    rw [List.sum_cons]
    rcases List.mem_cons.1 h with rfl | h
    · omega
    · have := le_sumL h; omega

theorem bulkF_mem {τ : Type} {f : τ → Nat} {xs : List τ} {n : Nat} (h : bulkF f xs ≤ n) : ∀ x ∈ xs, f x ≤ n := by
 intro x hx
 have : f x ≤ (xs.map f).sum := le_sumL (List.mem_map.2 ⟨x, hx, rfl⟩)
 unfold bulkF at h; omega

theorem en45 : Enters Try.prog 45 := ⟨_, Try.func45, by kernel_rfl, rfl⟩

theorem en46 : Enters Try.prog 46 := ⟨_, Try.func46, by kernel_rfl, rfl⟩

structure Lin {α : Type} (le : α → α → Bool) : Prop where
 trans : ∀ a b c : α, le a b = true → le b c = true → le a c = true
 total : ∀ a b : α, (le a b || le b a) = true
 anti : ∀ a b : α, le a b = true → le b a = true → a = b

def Rise {α : Type} (le : α → α → Bool) (l : List α) : Prop := l.Pairwise fun a b => le a b = true ∧ a ≠ b

theorem rise_ext {α : Type} {le : α → α → Bool} (h : Lin le) : ∀ {l m : List α}, Rise le l → Rise le m → (∀ a, a ∈ l ↔ a ∈ m) → l = m
  | [], [], _, _, _ => rfl
  | [], b :: m, _, _, e => absurd ((e b).2 List.mem_cons_self) List.not_mem_nil
  | a :: l, [], _, _, e => absurd ((e a).1 List.mem_cons_self) List.not_mem_nil
  | a :: l, b :: m, hl, hm, e => by
    unfold Rise at hl hm
    rw [List.pairwise_cons] at hl hm
    have hab : a = b := by
      rcases List.mem_cons.1 ((e a).1 List.mem_cons_self) with h1 | h1
      · exact h1
      · rcases List.mem_cons.1 ((e b).2 List.mem_cons_self) with h2 | h2
        · exact h2.symm
        · exact h.anti _ _ (hl.1 b h2).1 (hm.1 a h1).1
    subst hab
    congr 1
    refine rise_ext h hl.2 hm.2 fun x => ⟨fun hx => ?_, fun hx => ?_⟩
    · rcases List.mem_cons.1 ((e x).1 (List.mem_cons_of_mem _ hx)) with h1 | h1
      · exact absurd h1.symm (hl.1 x hx).2
      · exact h1
    · rcases List.mem_cons.1 ((e x).2 (List.mem_cons_of_mem _ hx)) with h1 | h1
      · exact absurd h1.symm (hm.1 x hx).2
      · exact h1

theorem upTo_rise {α : Type} [Inhabited α] [DecidableEq α] {le : α → α → Bool} (h : Lin le) {zs : List α} (hz : zs.Pairwise fun a b => le a b = true) : ∀ m, m ≤ zs.length →
    Rise le (Lib.compactUpTo zs.toArray m) ∧ (∀ a, a ∈ Lib.compactUpTo zs.toArray m ↔ a ∈ zs.take m) ∧ ∀ a ∈ Lib.compactUpTo zs.toArray m, 0 < m ∧ le a (zs.getD (m - 1) default) = true
  | 0, _ => ⟨List.Pairwise.nil, fun a => by simp [Lib.compactUpTo], fun a ha => by simp [Lib.compactUpTo] at ha⟩
  | m + 1, hm => by
    obtain ⟨h1, h2, h3⟩ := upTo_rise h hz m (by omega)
    have hg : ∀ j, j < zs.length → zs.toArray[j]! = zs.getD j default := by intro j hj; simp [hj]
    have hml : zs.getD m default = zs[m] := by simp [show m < zs.length by omega]
    have hrefl : ∀ a : α, le a a = true := fun a => by have := h.total a a; rwa [Bool.or_self] at this
    have hstep : 0 < m → le (zs.getD (m - 1) default) (zs.getD m default) = true := by
      intro h0
      have := List.pairwise_iff_getElem.1 hz (m - 1) m (by omega) (by omega) (by omega)
      rw [hml, show zs.getD (m - 1) default = zs[m - 1] by simp [show m - 1 < zs.length by omega]]; exact this
    rw [Lib.compactUpTo_succ, List.take_succ_eq_append_getElem (by omega), ← hml]
    cases hk : Lib.keeps zs.toArray m with
    | false =>
      have h4 : ¬ (m = 0 ∨ zs.toArray[m]! ≠ zs.toArray[m - 1]!) := by
        unfold Lib.keeps at hk
        exact of_decide_eq_false hk
      have h0 : 0 < m := Nat.pos_of_ne_zero fun e => h4 (.inl e)
      have h5 : zs.getD m default = zs.getD (m - 1) default := by
        rw [← hg m (by omega), ← hg (m - 1) (by omega)]
        exact Classical.byContradiction fun e => h4 (.inr e)
      rw [if_neg (by decide), List.append_nil]
      refine ⟨h1, fun a => ?_, fun a ha => ⟨by omega, ?_⟩⟩
      · rw [h2, List.mem_append, List.mem_singleton]
        refine ⟨.inl, fun hh => hh.elim id fun e => ?_⟩
        rw [e, h5, show zs.getD (m - 1) default = zs[m - 1] by simp [show m - 1 < zs.length by omega]]
        exact List.mem_take_iff_getElem.2 ⟨m - 1, by omega, rfl⟩
      · show le a (zs.getD m default) = true
        rw [h5]; exact (h3 a ha).2
    | true =>
      have h4 : m = 0 ∨ zs.toArray[m]! ≠ zs.toArray[m - 1]! := by
        unfold Lib.keeps at hk
        exact of_decide_eq_true hk
      rw [if_pos rfl, hg m (by omega)]
      refine ⟨?_, fun a => ?_, fun a ha => ⟨by omega, ?_⟩⟩
      · unfold Rise at h1 ⊢
        rw [List.pairwise_append]
        refine ⟨h1, List.pairwise_singleton _ _, fun a ha b hb => ?_⟩
        rw [List.mem_singleton] at hb
        subst hb
        obtain ⟨h0, h5⟩ := h3 a ha
        refine ⟨h.trans _ _ _ h5 (hstep h0), fun e => ?_⟩
        rcases h4 with h4 | h4
        · omega
        · rw [hg m (by omega), hg (m - 1) (by omega)] at h4
          subst e
          exact h4 (h.anti _ _ h5 (hstep h0))
      · rw [List.mem_append, List.mem_append, h2]
      · show le a (zs.getD m default) = true
        rcases List.mem_append.1 ha with ha | ha
        · exact h.trans _ _ _ (h3 a ha).2 (hstep (h3 a ha).1)
        · rw [List.mem_singleton] at ha; subst ha; exact hrefl _

def tid {α : Type} [Inhabited α] [DecidableEq α] (le : α → α → Bool) (l : List α) : List α := Lib.compact (l.mergeSort le)

theorem tid_rise {α : Type} [Inhabited α] [DecidableEq α] {le : α → α → Bool} (h : Lin le) (l : List α) : Rise le (tid le l) :=
 (upTo_rise h (List.pairwise_mergeSort (fun a b c h1 h2 => h.trans a b c h1 h2) (fun a b => h.total a b) l) _ (Nat.le_refl _)).1

theorem tid_mem {α : Type} [Inhabited α] [DecidableEq α] {le : α → α → Bool} (h : Lin le) {l : List α} {a : α} : a ∈ tid le l ↔ a ∈ l := by
 have := (upTo_rise h (List.pairwise_mergeSort (fun a b c h1 h2 => h.trans a b c h1 h2) (fun a b => h.total a b) l) _ (Nat.le_refl _)).2.1 a
 rw [List.take_length, List.mem_mergeSort] at this
 exact this

theorem upTo_len {α : Type} [Inhabited α] [DecidableEq α] (d : Array α) (m : Nat) : (Lib.compactUpTo d m).length ≤ m := by
 unfold Lib.compactUpTo
 rw [List.length_map]
 have := List.length_filter_le (Lib.keeps d) (List.range m)
 rwa [List.length_range] at this

theorem compact_len {α : Type} [Inhabited α] [DecidableEq α] (l : List α) : (Lib.compact l).length ≤ l.length := upTo_len _ _

theorem bl_irr : ∀ x : List UInt8, Op.bytesLess x x = false
 | [] => rfl
 | a :: x => by
  rw [Op.bytesLess, bl_irr x, Bool.and_false, Bool.or_false]
  simp

theorem u8_lt {a b : UInt8} : a < b ↔ a.toNat < b.toNat := UInt8.lt_iff_toNat_lt

theorem bl_cons {a b : UInt8} {x y : List UInt8} : Op.bytesLess (a :: x) (b :: y) = true ↔ a.toNat < b.toNat ∨ (a.toNat = b.toNat ∧ Op.bytesLess x y = true) := by
 rw [Op.bytesLess, Bool.or_eq_true, decide_eq_true_iff, Bool.and_eq_true, beq_iff_eq, u8_lt, UInt8.toNat_inj]

theorem bl_trans : ∀ {x y z : List UInt8}, Op.bytesLess x y = true → Op.bytesLess y z = true → Op.bytesLess x z = true
  | [], [], _, h, _ => by simp [Op.bytesLess] at h
  | [], b :: y, [], _, h => by simp [Op.bytesLess] at h
  | [], b :: y, c :: z, _, _ => rfl
  | a :: x, [], _, h, _ => by simp [Op.bytesLess] at h
  | a :: x, b :: y, [], _, h => by simp [Op.bytesLess] at h
  | a :: x, b :: y, c :: z, h1, h2 => by
    rw [bl_cons] at h1 h2 ⊢
    rcases h1 with h1 | ⟨h1, h3⟩ <;> rcases h2 with h2 | ⟨h2, h4⟩
    · exact .inl (by omega)
    · exact .inl (by omega)
    · exact .inl (by omega)
    · exact .inr ⟨by omega, bl_trans h3 h4⟩

theorem bl_tri : ∀ {x y : List UInt8}, ¬ Op.bytesLess x y = true → ¬ Op.bytesLess y x = true → x = y
 | [], [], _, _ => rfl
 | [], b :: y, h, _ => absurd rfl h
 | a :: x, [], _, h => absurd rfl h
 | a :: x, b :: y, h1, h2 => by
  rw [bl_cons] at h1 h2
  have e : a = b := UInt8.toNat_inj.1 (by
   have h3 : ¬ a.toNat < b.toNat := fun h => h1 (.inl h)
   have h4 : ¬ b.toNat < a.toNat := fun h => h2 (.inl h)
   omega)
  subst e
  rw [bl_tri (fun h => h1 (.inr ⟨rfl, h⟩)) (fun h => h2 (.inr ⟨rfl, h⟩))]

theorem bl_lt : ∀ x y : List UInt8, (Op.bytesLess x y = true) ↔ x < y
 | [], [] => by simp [Op.bytesLess]
 | _ :: _, [] => by simp [Op.bytesLess]
 | [], _ :: _ => by simp [Op.bytesLess]
 | a :: x, b :: y => by
  rw [bl_cons, List.cons_lt_cons_iff, u8_lt, bl_lt x y, UInt8.toNat_inj]

def leS (x y : List UInt8) : Bool := decide (x ≤ y)

theorem leS_bl (x y : List UInt8) : leS x y = !Op.bytesLess y x := by
 unfold leS
 rw [Bool.eq_iff_iff, decide_eq_true_iff, Bool.not_eq_true', ← List.not_lt, ← bl_lt]
 simp

theorem linS : Lin leS := by
  refine ⟨fun a b c h1 h2 => ?_, fun a b => ?_, fun a b h1 h2 => ?_⟩
  · rw [leS_bl, Bool.not_eq_true'] at h1 h2 ⊢
    rw [Bool.eq_false_iff] at *
    intro hc
    by_cases hab : a = b
    · subst hab; exact h2 hc
    · by_cases h3 : Op.bytesLess a b = true
      · exact h2 (bl_trans hc h3)
      · exact hab (bl_tri h3 h1)
  · rw [leS_bl, leS_bl]
    cases hab : Op.bytesLess a b with
    | false => simp
    | true =>
      cases hba : Op.bytesLess b a with
      | false => rfl
      | true => have := bl_trans hab hba; rw [bl_irr] at this; cases this
  · rw [leS_bl, Bool.not_eq_true', Bool.eq_false_iff] at h1 h2
    exact bl_tri h2 h1

def put14 (l : List (List UInt8)) (x : List UInt8) : List (List UInt8) := l.takeWhile (fun b => Op.bytesLess b x) ++ x :: l.dropWhile (fun b => Op.bytesLess b x)

def put15 (l : List (List UInt8)) (x : List UInt8) : List (List UInt8) := if hasS l x then l else put14 l x

theorem put14_mem {l : List (List UInt8)} {x a : List UInt8} : a ∈ put14 l x ↔ a ∈ l ∨ a = x := by
  unfold put14
  rw [List.mem_append, List.mem_cons]
  have e : a ∈ l ↔ a ∈ l.takeWhile (fun b => Op.bytesLess b x) ∨ a ∈ l.dropWhile (fun b => Op.bytesLess b x) := by
    rw [← List.mem_append, List.takeWhile_append_dropWhile]
  rw [e]
  constructor
  · rintro (h1 | h1 | h1)
    · exact .inl (.inl h1)
    · exact .inr h1
    · exact .inl (.inr h1)
  · rintro ((h1 | h1) | h1)
    · exact .inl h1
    · exact .inr (.inr h1)
    · exact .inr (.inl h1)

theorem put14_len (l : List (List UInt8)) (x : List UInt8) : (put14 l x).length = l.length + 1 := by
 have : (l.takeWhile (fun b => Op.bytesLess b x) ++ l.dropWhile (fun b => Op.bytesLess b x)).length = l.length := by rw [List.takeWhile_append_dropWhile]
 rw [List.length_append] at this
 unfold put14
 rw [List.length_append, List.length_cons]; omega

theorem hasS_mem {l : List (List UInt8)} {x : List UInt8} : hasS l x = true ↔ x ∈ l := by
  unfold hasS
  rw [List.any_eq_true]
  constructor
  · rintro ⟨a, ha, h⟩
    have := of_decide_eq_true h
    subst this; exact ha
  · intro h
    exact ⟨x, h, decide_eq_true rfl⟩

theorem put15_mem {l : List (List UInt8)} {x a : List UInt8} : a ∈ put15 l x ↔ a ∈ l ∨ a = x := by
  unfold put15
  split
  · rename_i h
    constructor
    · exact .inl
    · rintro (h1 | rfl)
      · exact h1
      · exact hasS_mem.1 h
  · exact put14_mem

theorem dropS_rise {x : List UInt8} : ∀ {l : List (List UInt8)}, Rise leS l → ¬ x ∈ l → ∀ a ∈ l.dropWhile (fun b => Op.bytesLess b x), leS x a = true ∧ x ≠ a
  | [], _, _, a, ha => by simp at ha
  | b :: l, hl, hx, a, ha => by
    unfold Rise at hl
    rw [List.pairwise_cons] at hl
    rw [List.dropWhile_cons] at ha
    split at ha
    · exact dropS_rise hl.2 (fun h => hx (List.mem_cons_of_mem _ h)) a ha
    · rename_i hb
      have h1 : leS x b = true := by rw [leS_bl]; simpa using hb
      rcases List.mem_cons.1 ha with rfl | ha
      · exact ⟨h1, fun e => hx (e ▸ List.mem_cons_self)⟩
      · exact ⟨linS.trans _ _ _ h1 (hl.1 a ha).1, fun e => hx (e ▸ List.mem_cons_of_mem _ ha)⟩

theorem whileS_lt {x : List UInt8} : ∀ {l : List (List UInt8)} {a : List UInt8}, a ∈ l.takeWhile (fun b => Op.bytesLess b x) → Op.bytesLess a x = true
  | [], a, h => by simp at h
  | b :: l, a, h => by
    rw [List.takeWhile_cons] at h
    split at h
    · rename_i hb
      rcases List.mem_cons.1 h with rfl | h
      · exact hb
      · exact whileS_lt h
    · simp at h

theorem bl_le {a b : List UInt8} (h : Op.bytesLess a b = true) : leS a b = true ∧ a ≠ b := by
  refine ⟨?_, fun e => ?_⟩
  · rw [leS_bl]
    cases hba : Op.bytesLess b a with
    | false => rfl
    | true => have := bl_trans h hba; rw [bl_irr] at this; cases this
  · subst e; rw [bl_irr] at h; cases h

theorem put15_rise {l : List (List UInt8)} {x : List UInt8} (hl : Rise leS l) : Rise leS (put15 l x) := by
  unfold put15
  split
  · exact hl
  · rename_i h
    have hn : ¬ x ∈ l := fun hm => h (hasS_mem.2 hm)
    have hd := dropS_rise hl hn
    unfold Rise at hl ⊢
    unfold put14
    rw [List.pairwise_append, List.pairwise_cons]
    refine ⟨hl.sublist (List.takeWhile_sublist _), ⟨hd, hl.sublist (List.dropWhile_sublist _)⟩, fun a ha b hb => ?_⟩
    have h3 := bl_le (whileS_lt ha)
    rcases List.mem_cons.1 hb with rfl | hb
    · exact h3
    · have h4 := hd b hb
      refine ⟨linS.trans _ _ _ h3.1 h4.1, fun e => ?_⟩
      subst e
      exact h3.2 (linS.anti _ _ h3.1 h4.1)

theorem sp_Sort_str (xs : List (List UInt8)) (hn : xs.length ≤ 1048576) : Sp Try.prog 45 [.slice true 1 (xs.map D.str)] [.slice true 1 ((xs.mergeSort leS).map D.str)] (.tup []) :=
 sp_turnRow encStrD (srt := fun l => l.mergeSort leS) (fun l => List.length_mergeSort l) List.mergeSort_nil Try.slices_Sort_string_none Try.slices_Sort_string xs hn

theorem sp_Compact_str (xs : List (List UInt8)) (hn : xs.length ≤ 1048576) : Sp Try.prog 46 [.slice true 1 (xs.map D.str)] [.any] (.slice true 1 ((Lib.compact xs).map D.str)) := by
 have h := sp_cutRow (P := Try.prog) (fn := 46) encStrD (more := []) (mvs := []) (fun S w vs F hd => by rw [DRs] at hd; exact hd) (fun S w => by rw [List.map_nil, DRs]; exact ⟨rfl, rfl⟩) xs (Lib.compact xs ++ List.replicate (xs.length - (Lib.compact xs).length) []) (Lib.compact xs).length
  (by have := compact_len xs; rw [List.length_append, List.length_replicate]; omega) (by rw [List.length_append]; omega) (fun _ p cap w => Try.slices_Compact_string_empty p cap w) (fun blk cap w hH hc hm => Try.slices_Compact_string blk 0 cap xs w hH (by omega) hc)
 rw [List.take_left] at h
 exact h

theorem en80 : Enters Try.prog 80 := ⟨_, Try.func80, by kernel_rfl, rfl⟩

theorem en73 : Enters Try.prog 73 := ⟨_, Try.func73, by kernel_rfl, rfl⟩

theorem en59 : Enters Try.prog 59 := ⟨_, Try.func59, by kernel_rfl, rfl⟩

theorem sz22 : SizeIs Try.prog 22 1 := by unfold SizeIs; kernel_rfl

theorem fld42_1 : FieldIs Try.prog 42 1 1 1 false := FieldIs.mk Try.underlying42 rfl rfl sz22 ag22 rfl

theorem sz4 : SizeIs Try.prog 4 1 := by unfold SizeIs; kernel_rfl

theorem ag4 : AggIs Try.prog 4 false := by unfold AggIs; kernel_rfl

theorem fld42_2 : FieldIs Try.prog 42 2 2 1 false := FieldIs.mk Try.underlying42 rfl rfl sz4 ag4 rfl

theorem en60 : Enters Try.prog 60 := ⟨_, Try.func60, by kernel_rfl, rfl⟩

theorem en44 : Enters Try.prog 44 := ⟨_, Try.func44, by kernel_rfl, rfl⟩

theorem en47 : Enters Try.prog 47 := ⟨_, Try.func47, by kernel_rfl, rfl⟩

theorem fld42_0 : FieldIs Try.prog 42 0 0 1 false := FieldIs.mk Try.underlying42 rfl rfl sz22 ag22 rfl

theorem en49 : Enters Try.prog 49 := ⟨_, Try.func49, by kernel_rfl, rfl⟩

theorem en25 : Enters Try.prog 25 := ⟨_, Try.func25, by kernel_rfl, rfl⟩

theorem en24 : Enters Try.prog 24 := ⟨_, Try.func24, by kernel_rfl, rfl⟩

theorem stru42 : StructIs Try.prog 42 [.slice none 0 0, .slice none 0 0, .bool false] [(0, 1), (1, 1), (2, 1)] := structIs_mk (by kernel_rfl) Try.underlying42 (by kernel_rfl)

theorem en52 : Enters Try.prog 52 := ⟨_, Try.func52, by kernel_rfl, rfl⟩

theorem en53 : Enters Try.prog 53 := ⟨_, Try.func53, by kernel_rfl, rfl⟩

theorem fld33_2 : FieldIs Try.prog 33 2 2 1 false := FieldIs.mk Try.underlying33 rfl rfl sz22 ag22 rfl

theorem fld33_3 : FieldIs Try.prog 33 3 3 1 false := FieldIs.mk Try.underlying33 rfl rfl sz4 ag4 rfl

theorem fld33_1 : FieldIs Try.prog 33 1 1 1 false := FieldIs.mk Try.underlying33 rfl rfl sz22 ag22 rfl

theorem en32 : Enters Try.prog 32 := ⟨_, Try.func32, by kernel_rfl, rfl⟩

theorem fld33_0 : FieldIs Try.prog 33 0 0 1 false := FieldIs.mk Try.underlying33 rfl rfl sz22 ag22 rfl

theorem en34 : Enters Try.prog 34 := ⟨_, Try.func34, by kernel_rfl, rfl⟩

theorem en18 : Enters Try.prog 18 := ⟨_, Try.func18, by kernel_rfl, rfl⟩

theorem en35 : Enters Try.prog 35 := ⟨_, Try.func35, by kernel_rfl, rfl⟩

theorem stru33 : StructIs Try.prog 33 [.slice none 0 0, .slice none 0 0, .slice none 0 0, .bool false] [(0, 1), (1, 1), (2, 1), (3, 1)] := structIs_mk (by kernel_rfl) Try.underlying33 (by kernel_rfl)

theorem en13 : Enters Try.prog 13 := ⟨_, Try.func13, by kernel_rfl, rfl⟩

theorem en14 : Enters Try.prog 14 := ⟨_, Try.func14, by kernel_rfl, rfl⟩

theorem en11 : Enters Try.prog 11 := ⟨_, Try.func11, by kernel_rfl, rfl⟩

theorem en12 : Enters Try.prog 12 := ⟨_, Try.func12, by kernel_rfl, rfl⟩

theorem en4 : Enters Try.prog 4 := ⟨_, Try.func4, by kernel_rfl, rfl⟩

theorem en6 : Enters Try.prog 6 := ⟨_, Try.func6, by kernel_rfl, rfl⟩

theorem en5 : Enters Try.prog 5 := ⟨_, Try.func5, by kernel_rfl, rfl⟩

theorem en7 : Enters Try.prog 7 := ⟨_, Try.func7, by kernel_rfl, rfl⟩

theorem en8 : Enters Try.prog 8 := ⟨_, Try.func8, by kernel_rfl, rfl⟩

theorem en9 : Enters Try.prog 9 := ⟨_, Try.func9, by kernel_rfl, rfl⟩

theorem en10 : Enters Try.prog 10 := ⟨_, Try.func10, by kernel_rfl, rfl⟩

def unc (on l : List (List UInt8)) : List (List UInt8) := on.filter fun c => !inB l c

def lexB : List (List UInt8) → List (List UInt8) → Bool
 | a :: l, b :: m => if a = b then lexB l m else Op.bytesLess a b
 | _, _ => false

def cmpS (a b : (List UInt8)) : Int := if Op.bytesLess a b then -1 else if Op.bytesLess b a then 1 else 0

def cmpL : List (List UInt8) → List (List UInt8) → Int
 | [], [] => 0
 | [], _ :: _ => -1
 | _ :: _, [] => 1
 | a :: l, b :: m => if cmpS a b = 0 then cmpL l m else cmpS a b

theorem cmpS_zero {a b : (List UInt8)} : cmpS a b = 0 ↔ a = b := by
  unfold cmpS
  constructor
  · intro h
    by_cases h1 : Op.bytesLess a b = true
    · rw [if_pos h1] at h; omega
    · rw [if_neg h1] at h
      by_cases h2 : Op.bytesLess b a = true
      · rw [if_pos h2] at h; omega
      · exact bl_tri h1 h2
  · rintro rfl
    rw [bl_irr]; rfl

theorem cmpS_neg {a b : (List UInt8)} : cmpS a b < 0 ↔ Op.bytesLess a b = true := by
  unfold cmpS
  by_cases h1 : Op.bytesLess a b = true
  · rw [if_pos h1]; exact ⟨fun _ => h1, fun _ => by omega⟩
  · rw [if_neg h1]
    refine ⟨fun h => ?_, fun h => absurd h h1⟩
    split at h <;> omega

theorem cmp_lex : ∀ {l m : List (List UInt8)}, l.length = m.length → decide (cmpL l m < 0) = lexB l m
  | [], [], _ => rfl
  | [], _ :: _, h => by simp at h
  | _ :: _, [], h => by simp at h
  | a :: l, b :: m, h => by
    rw [cmpL, lexB]
    by_cases e : a = b
    · rw [if_pos e, if_pos (cmpS_zero.2 e), cmp_lex (by simpa using h)]
    · rw [if_neg e, if_neg (fun q => e (cmpS_zero.1 q))]
      rw [Bool.eq_iff_iff, decide_eq_true_iff, cmpS_neg]

def betB (l : List (List UInt8)) (p : List (List UInt8) × Bool) : Bool := !p.2 || (decide (lits l < lits p.1) || (decide (lits l = lits p.1) && lexB l p.1))

def betI (l : List (List UInt8)) (p : List (List UInt8) × Bool) : Bool := !p.2 || (decide (lits l < lits p.1) || (decide (lits l = lits p.1) && decide (cmpL l p.1 < 0)))

def endS (t : List (List UInt8)) (p : List (List UInt8) × Bool) : List (List UInt8) × Bool := if betB t p then (t, true) else p

def srF (pr on : List (List UInt8)) : Nat → List (List UInt8) → List (List UInt8) × Bool → List (List UInt8) × Bool
 | 0, t, p => if unc on t = [] then endS t p else p
 | m + 1, t, p => if unc on t = [] then endS t p else pr.foldl (fun p q => if hasB q ((unc on t).getD 0 default) then srF pr on m (put14 t q) p else p) p

def srTo (pr on : List (List UInt8)) (m : Nat) (t : List (List UInt8)) (p : List (List UInt8) × Bool) (k : Nat) : List (List UInt8) × Bool := (pr.take k).foldl (fun p q => if hasB q ((unc on t).getD 0 default) then srF pr on m (put14 t q) p else p) p

def endI (l : List (List UInt8)) (m : Nat) (p : List (List UInt8) × Bool) : List (List UInt8) × Bool := if decide ((Lib.compact (l.mergeSort leS)).length = l.length) && (decide (m = 0) && betI (l.mergeSort leS) p) then (l.mergeSort leS, true) else p

def chF (pr : List (List UInt8)) : Nat → List (List UInt8) → List (List UInt8) → List (List UInt8) × Bool → List (List UInt8) × Bool
 | 0, on, l, p => if on = [] then endI l 0 p else p
 | m + 1, on, l, p => if on = [] then endI l (m + 1) p else pr.foldl (fun p q => if hasB q (on.getD 0 default) then chF pr m (on.filter fun c => !hasB q c) (l ++ [q]) p else p) p

def chTo (pr : List (List UInt8)) (m : Nat) (on l : List (List UInt8)) (p : List (List UInt8) × Bool) (k : Nat) : List (List UInt8) × Bool := (pr.take k).foldl (fun p q => if hasB q (on.getD 0 default) then chF pr m (on.filter fun c => !hasB q c) (l ++ [q]) p else p) p

theorem chTo_succ {pr : List (List UInt8)} {m : Nat} {on l : List (List UInt8)} {p : List (List UInt8) × Bool} {k : Nat} (h : k < pr.length) : chTo pr m on l p (k + 1) = if hasB (pr.getD k default) (on.getD 0 default) then chF pr m (on.filter fun c => !hasB (pr.getD k default) c) (l ++ [pr.getD k default]) (chTo pr m on l p k) else chTo pr m on l p k := by
 have hg : pr.getD k default = pr[k] := by simp [h]
 unfold chTo
 rw [List.take_succ_eq_append_getElem h, List.foldl_append, hg]; rfl

theorem srTo_succ {pr on : List (List UInt8)} {m : Nat} {t : List (List UInt8)} {p : List (List UInt8) × Bool} {k : Nat} (h : k < pr.length) : srTo pr on m t p (k + 1) = if hasB (pr.getD k default) ((unc on t).getD 0 default) then srF pr on m (put14 t (pr.getD k default)) (srTo pr on m t p k) else srTo pr on m t p k := by
 have hg : pr.getD k default = pr[k] := by simp [h]
 unfold srTo
 rw [List.take_succ_eq_append_getElem h, List.foldl_append, hg]; rfl

theorem chF_next {pr : List (List UInt8)} {m : Nat} {on l : List (List UInt8)} {p : List (List UInt8) × Bool} {k : Nat} (h : ¬ on.length = 0) (hk : pr.length ≤ k) : chF pr (m + 1) on l p = chTo pr m on l p k := by
 rw [chF, if_neg (fun e => h (by rw [e]; rfl)), chTo, List.take_of_length_le hk]

theorem srF_next {pr on : List (List UInt8)} {m : Nat} {t : List (List UInt8)} {p : List (List UInt8) × Bool} {k : Nat} (h : ¬ unc on t = []) (hk : pr.length ≤ k) : srF pr on (m + 1) t p = srTo pr on m t p k := by
 rw [srF, if_neg h, srTo, List.take_of_length_le hk]

theorem chF_end {pr : List (List UInt8)} {on l : List (List UInt8)} {p : List (List UInt8) × Bool} (m : Nat) (h : on.length = 0) : chF pr m on l p = endI l m p := by
  have e : on = [] := List.eq_nil_of_length_eq_zero h
  cases m <;> rw [chF, if_pos e]

theorem chF_zero {pr : List (List UInt8)} {on l : List (List UInt8)} {p : List (List UInt8) × Bool} (h : ¬ on.length = 0) : chF pr 0 on l p = p := by
 rw [chF, if_neg (fun e => h (by rw [e]; rfl))]

theorem srF_end {pr on : List (List UInt8)} {t : List (List UInt8)} {p : List (List UInt8) × Bool} (m : Nat) (h : unc on t = []) : srF pr on m t p = endS t p := by cases m <;> rw [srF, if_pos h]

theorem srF_zero {pr on : List (List UInt8)} {t : List (List UInt8)} {p : List (List UInt8) × Bool} (h : ¬ unc on t = []) : srF pr on 0 t p = p := by rw [srF, if_neg h]
-- what the best is, all along

structure POk (n N : Nat) (p : List (List UInt8) × Bool) : Prop where
 len : p.1.length ≤ N
 all : ∀ q ∈ p.1, q.length = n

theorem fold_ok {τ : Type} {Q : τ → Prop} {f : τ → (List UInt8) → τ} : ∀ {l : List (List UInt8)} {p : τ}, Q p → (∀ p q, q ∈ l → Q p → Q (f p q)) → Q (l.foldl f p)
 | [], _, h, _ => h
 | a :: l, p, h, hf => by
  rw [List.foldl_cons]
  exact fold_ok (hf p a List.mem_cons_self h) (fun p q hq => hf p q (List.mem_cons_of_mem _ hq))

theorem chF_ok {pr : List (List UInt8)} {n N : Nat} (hpr : ∀ q ∈ pr, q.length = n) : ∀ (m : Nat) (on l : List (List UInt8)) (p : List (List UInt8) × Bool), l.length + m ≤ N → (∀ q ∈ l, q.length = n) → POk n N p → POk n N (chF pr m on l p) := by
  have hend : ∀ (m : Nat) (l : List (List UInt8)) (p : List (List UInt8) × Bool), l.length + m ≤ N → (∀ q ∈ l, q.length = n) → POk n N p → POk n N (endI l m p) := by
    intro m l p h1 h2 h3
    unfold endI
    split
    · exact ⟨by rw [List.length_mergeSort]; omega, fun q hq => h2 q (List.mem_mergeSort.1 hq)⟩
    · exact h3
  intro m
  induction m with
  | zero =>
    intro on l p h1 h2 h3
    rw [chF]
    split
    · exact hend _ _ _ h1 h2 h3
    · exact h3
  | succ m ih =>
    intro on l p h1 h2 h3
    rw [chF]
    split
    · exact hend _ _ _ h1 h2 h3
    · refine fold_ok (Q := POk n N) h3 fun p q hq hp => ?_
      try dsimp only
      split
      · refine ih _ _ _ a49 (fun a ha => ?_) hp
        rcases List.mem_append.1 ha with ha | ha
        · exact h2 a ha
        · rw [List.mem_singleton] at ha; rw [ha]; exact hpr q hq
      · exact hp

theorem chTo_ok {pr : List (List UInt8)} {n N : Nat} (hpr : ∀ q ∈ pr, q.length = n) {m : Nat} {on l : List (List UInt8)} {p : List (List UInt8) × Bool} (h1 : l.length + (m + 1) ≤ N) (h2 : ∀ q ∈ l, q.length = n) (h3 : POk n N p) : ∀ k, k ≤ pr.length → POk n N (chTo pr m on l p k)
  | 0, _ => h3
  | k + 1, hk => by
    have ih := chTo_ok hpr (on := on) h1 h2 h3 k (by omega)
    rw [chTo_succ (by omega)]
    split
    · refine chF_ok hpr _ _ _ _ a49 (fun a ha => ?_) ih
      rcases List.mem_append.1 ha with ha | ha
      · exact h2 a ha
      · rw [List.mem_singleton] at ha; rw [ha]; exact hpr _ (getD_mem (by omega))
    · exact ih
-- completeness, and how deep it is met

def hitP (pr on : List (List UInt8)) : Nat → List (List UInt8) → Prop
 | 0, t => unc on t = []
 | m + 1, t => unc on t = [] ∨ ∃ q ∈ pr, hasB q ((unc on t).getD 0 default) = true ∧ hitP pr on m (put14 t q)

def noShort (pr on : List (List UInt8)) : Nat → List (List UInt8) → Prop
 | 0, _ => True
 | m + 1, t => ¬ hitP pr on m t

theorem ns_not {pr on : List (List UInt8)} {m : Nat} {t : List (List UInt8)} (h : noShort pr on (m + 1) t) : ¬ unc on t = [] := by
 cases m with
 | zero => exact h
 | succ m => exact fun e => h (.inl e)

theorem ns_step {pr on : List (List UInt8)} {m : Nat} {t : List (List UInt8)} {q : (List UInt8)} (h : noShort pr on (m + 1) t) (hq : q ∈ pr) (hb : hasB q ((unc on t).getD 0 default) = true) : noShort pr on m (put14 t q) := by
 cases m with
 | zero => trivial
 | succ m => exact fun e => h (.inr ⟨q, hq, hb, e⟩)

theorem endS_met {t : List (List UInt8)} {p : List (List UInt8) × Bool} : (endS t p).2 = true := by
  unfold endS
  split
  · rfl
  · rename_i h
    unfold betB at h
    cases hp : p.2
    · rw [hp] at h; exact absurd rfl h
    · rfl

theorem srF_met {pr on : List (List UInt8)} : ∀ (m : Nat) (t : List (List UInt8)) (p : List (List UInt8) × Bool), (srF pr on m t p).2 = true ↔ p.2 = true ∨ hitP pr on m t
  | 0, t, p => by
    rw [srF, hitP]
    split
    · rename_i h; exact ⟨fun _ => .inr h, fun _ => endS_met⟩
    · rename_i h; exact ⟨.inl, fun q => q.elim id fun e => absurd e h⟩
  | m + 1, t, p => by
    rw [srF, hitP]
    split
    · rename_i h; exact ⟨fun _ => .inr (.inl h), fun _ => endS_met⟩
    · rename_i h
      have key : ∀ (l : List (List UInt8)) (p : List (List UInt8) × Bool), (l.foldl (fun p q => if hasB q ((unc on t).getD 0 default) then srF pr on m (put14 t q) p else p) p).2 = true ↔ p.2 = true ∨ ∃ q ∈ l, hasB q ((unc on t).getD 0 default) = true ∧ hitP pr on m (put14 t q) := by
        intro l
        induction l with
        | nil => intro p; simp
        | cons a l ih =>
          intro p
          rw [List.foldl_cons, ih]
          by_cases hb : hasB a ((unc on t).getD 0 default) = true
          · rw [if_pos hb, srF_met m]
            constructor
            · rintro ((h1 | h1) | ⟨q, hq, h2⟩)
              · exact .inl h1
              · exact .inr ⟨a, List.mem_cons_self, hb, h1⟩
              · exact .inr ⟨q, List.mem_cons_of_mem _ hq, h2⟩
            · rintro (h1 | ⟨q, hq, h2⟩)
              · exact .inl (.inl h1)
              · rcases List.mem_cons.1 hq with rfl | hq
                · exact .inl (.inr h2.2)
                · exact .inr ⟨q, hq, h2⟩
          · rw [if_neg hb]
            constructor
            · rintro (h1 | ⟨q, hq, h2⟩)
              · exact .inl h1
              · exact .inr ⟨q, List.mem_cons_of_mem _ hq, h2⟩
            · rintro (h1 | ⟨q, hq, h2⟩)
              · exact .inl h1
              · rcases List.mem_cons.1 hq with rfl | hq
                · exact absurd h2.1 hb
                · exact .inr ⟨q, hq, h2⟩
      rw [key]
      exact ⟨fun q => q.imp id .inr, fun q => q.imp id fun e => e.resolve_left h⟩

structure BOk (N : Nat) (p : List (List UInt8) × Bool) : Prop where
 len : p.2 = true → p.1.length = N

theorem srF_bok {pr on : List (List UInt8)} {N : Nat} : ∀ (m : Nat) (t : List (List UInt8)) (p : List (List UInt8) × Bool), t.length + m = N → noShort pr on m t → BOk N p → BOk N (srF pr on m t p)
  | 0, t, p, h1, _, h3 => by
    rw [srF]
    split
    · unfold endS; split
      · exact ⟨fun _ => by omega⟩
      · exact h3
    · exact h3
  | m + 1, t, p, h1, h2, h3 => by
    rw [srF, if_neg (ns_not h2)]
    refine fold_ok (Q := BOk N) h3 fun p q hq hp => ?_
    try dsimp only
    split
    · rename_i hb
      exact srF_bok m _ p (by rw [put14_len]; omega) (ns_step h2 hq hb) hp
    · exact hp

theorem put14_sort {l : List (List UInt8)} {q : (List UInt8)} (hn : (l ++ [q]).Nodup) : (l ++ [q]).mergeSort leS = put14 (l.mergeSort leS) q := by
 have h1 := List.nodup_append.1 hn
 have hq : ¬ q ∈ l.mergeSort leS := fun h => h1.2.2 q (List.mem_mergeSort.1 h) q (List.mem_singleton.2 rfl) rfl
 have hr : ∀ m : List (List UInt8), m.Nodup → Rise leS (m.mergeSort leS) := fun m hm => by
  unfold Rise
  exact List.Pairwise.and (List.pairwise_mergeSort (fun a b c h1 h2 => linS.trans a b c h1 h2) (fun a b => linS.total a b) m) ((List.mergeSort_perm m leS).nodup_iff.2 hm)
 have h15 : put15 (l.mergeSort leS) q = put14 (l.mergeSort leS) q := by
  unfold put15
  rw [if_neg (fun h => hq (hasS_mem.1 h))]
 rw [← h15]
 refine rise_ext linS (hr _ hn) (put15_rise (hr _ h1.1)) fun a => ?_
 rw [List.mem_mergeSort, put15_mem, List.mem_mergeSort, List.mem_append, List.mem_singleton]

theorem compact_nodup {l : List (List UInt8)} (h : l.Nodup) : (Lib.compact (l.mergeSort leS)).length = l.length := by
 have hr : Rise leS (l.mergeSort leS) := by
  unfold Rise
  exact List.Pairwise.and (List.pairwise_mergeSort (fun a b c h1 h2 => linS.trans a b c h1 h2) (fun a b => linS.total a b) l) ((List.mergeSort_perm l leS).nodup_iff.2 h)
 have e : tid leS l = l.mergeSort leS := rise_ext linS (tid_rise linS l) hr fun a => by rw [tid_mem linS, List.mem_mergeSort]
 show (tid leS l).length = _
 rw [e, List.length_mergeSort]

theorem inB_iff {l : List (List UInt8)} {c : (List UInt8)} : inB l c = true ↔ ∃ q ∈ l, hasB q c = true := by
 unfold inB; rw [List.any_eq_true]

theorem inB_sort (l : List (List UInt8)) (c : (List UInt8)) : inB (l.mergeSort leS) c = inB l c := by
  rw [Bool.eq_iff_iff, inB_iff, inB_iff]
  constructor
  · rintro ⟨q, hq, h⟩; exact ⟨q, List.mem_mergeSort.1 hq, h⟩
  · rintro ⟨q, hq, h⟩; exact ⟨q, List.mem_mergeSort.2 hq, h⟩

theorem unc_sort (on l : List (List UInt8)) : unc on (l.mergeSort leS) = unc on l := by
 unfold unc
 apply List.filter_congr
 intro c _
 rw [inB_sort]

theorem unc_snoc (on l : List (List UInt8)) (q : (List UInt8)) : (unc on l).filter (fun c => !hasB q c) = unc on (l ++ [q]) := by
  unfold unc
  rw [List.filter_filter]
  apply List.filter_congr
  intro c _
  have : inB (l ++ [q]) c = (inB l c || hasB q c) := by unfold inB; rw [List.any_append]; simp
  rw [this]
  cases inB l c <;> cases hasB q c <;> rfl

theorem new_cube {on l : List (List UInt8)} {q : (List UInt8)} (h : ¬ unc on l = []) (hb : hasB q ((unc on l).getD 0 default) = true) (hn : l.Nodup) : (l ++ [q]).Nodup := by
 rw [List.nodup_append]
 refine ⟨hn, by simp, fun a ha b hbm => ?_⟩
 rw [List.mem_singleton] at hbm
 subst hbm
 rintro rfl
 have hm : (unc on l).getD 0 default ∈ unc on l := getD_mem (List.length_pos_iff.2 h)
 have h2 := (List.mem_filter.1 hm).2
 rw [Bool.not_eq_true', ← Bool.not_eq_true] at h2
 exact h2 (inB_iff.2 ⟨a, ha, hb⟩)

theorem ch_sr {pr on : List (List UInt8)} {N : Nat} : ∀ (m : Nat) (l : List (List UInt8)) (p : List (List UInt8) × Bool), l.length + m = N → l.Nodup → noShort pr on m (l.mergeSort leS) → BOk N p → chF pr m (unc on l) l p = srF pr on m (l.mergeSort leS) p := by
  have hend : ∀ (l : List (List UInt8)) (p : List (List UInt8) × Bool), l.length = N → l.Nodup → BOk N p → endI l 0 p = endS (l.mergeSort leS) p := by
    intro l p h1 h2 h3
    have hb : betI (l.mergeSort leS) p = betB (l.mergeSort leS) p := by
      unfold betI betB
      cases hp : p.2
      · rfl
      · rw [cmp_lex (by rw [List.length_mergeSort, h3.len hp, h1])]
    unfold endI endS
    rw [decide_eq_true (compact_nodup h2), hb]
    simp
  intro m
  induction m with
  | zero =>
    intro l p h1 h2 h3 h4
    by_cases e : unc on l = []
    · rw [chF, if_pos e, srF, if_pos (by rw [unc_sort]; exact e), hend l p (by omega) h2 h4]
    · rw [chF, if_neg e, srF, if_neg (by rw [unc_sort]; exact e)]
  | succ m ih =>
    intro l p h1 h2 h3 h4
    have e : ¬ unc on l = [] := by have := ns_not h3; rwa [unc_sort] at this
    rw [chF, if_neg e, srF, if_neg (by rw [unc_sort]; exact e), unc_sort]
    have key : ∀ (k : List (List UInt8)), (∀ q ∈ k, q ∈ pr) → ∀ p, BOk N p → k.foldl (fun p q => if hasB q ((unc on l).getD 0 default) then chF pr m ((unc on l).filter fun c => !hasB q c) (l ++ [q]) p else p) p = k.foldl (fun p q => if hasB q ((unc on l).getD 0 default) then srF pr on m (put14 (l.mergeSort leS) q) p else p) p := by
      intro k
      induction k with
      | nil => intro _ p _; rfl
      | cons q k ih2 =>
        intro hk p hp
        rw [List.foldl_cons, List.foldl_cons]
        by_cases hb : hasB q ((unc on l).getD 0 default) = true
        · have hnd := new_cube e hb h2
          have hns : noShort pr on m ((l ++ [q]).mergeSort leS) := by
            rw [put14_sort hnd]
            exact ns_step h3 (hk q List.mem_cons_self) (by rw [unc_sort]; exact hb)
          have h5 := ih (l ++ [q]) p a49 hnd hns hp
          rw [if_pos hb, if_pos hb, unc_snoc, h5, put14_sort hnd]
          refine ih2 (fun a ha => hk a (List.mem_cons_of_mem _ ha)) _ ?_
          rw [← put14_sort hnd]
          exact srF_bok m _ p (by rw [List.length_mergeSort, List.length_append, List.length_singleton]; omega) hns hp
        · rw [if_neg hb, if_neg hb]
          exact ih2 (fun a ha => hk a (List.mem_cons_of_mem _ ha)) p hp
    exact key pr (fun _ h => h) p h4

def rndS (pr on : List (List UInt8)) (m : Nat) : List (List UInt8) × Bool := srF pr on m [] ([], false)

def rndI (pr on : List (List UInt8)) (m : Nat) : List (List UInt8) × Bool := chF pr m on [] ([], false)

theorem ns_of {pr on : List (List UInt8)} {m : Nat} (h : ∀ j, j < m → (rndS pr on j).2 = false) : noShort pr on m [] := by
 cases m with
 | zero => trivial
 | succ m =>
  intro hh
  have := (srF_met (pr := pr) (on := on) m [] ([], false)).2 (.inr hh)
  have h2 := h m (by omega)
  unfold rndS at h2
  rw [h2] at this; cases this

theorem unc_nil (on : List (List UInt8)) : unc on [] = on := by
 unfold unc
 rw [List.filter_eq_self]
 intro c _; rfl

theorem rnd_eq {pr on : List (List UInt8)} {m : Nat} (h : ∀ j, j < m → (rndS pr on j).2 = false) : rndI pr on m = rndS pr on m := by
 have hs : ([] : List (List UInt8)).mergeSort leS = [] := List.mergeSort_nil
 have := ch_sr (pr := pr) (on := on) (N := m) m [] ([], false) (by simp) (by simp) (by rw [hs]; exact ns_of h) ⟨fun e => by cases e⟩
 rw [unc_nil, hs] at this
 exact this

def lstF (f : Nat → List (List UInt8) × Bool) : Nat → Nat → List (List UInt8) × Bool
 | 0, _ => ([], false)
 | k + 1, j => if (f j).2 then ((f j).1, true) else lstF f k (j + 1)

theorem lst_skip {f : Nat → List (List UInt8) × Bool} : ∀ (m k : Nat), (∀ j, j < m → (f j).2 = false) → lstF f (m + k) 0 = lstF f k m := by
 have key : ∀ (m k j0 : Nat), (∀ j, j0 ≤ j → j < j0 + m → (f j).2 = false) → lstF f (m + k) j0 = lstF f k (j0 + m) := by
  intro m
  induction m with
  | zero => intro k j0 _; rw [Nat.zero_add]; rfl
  | succ m ih =>
   intro k j0 h
   rw [show m + 1 + k = (m + k) + 1 by omega, lstF, if_neg (by rw [h j0 (by omega) (by omega)]; simp), ih k (j0 + 1) (fun j h1 h2 => h j (by omega) (by omega))]
   congr 1; omega
 intro m k h
 have := key m k 0 (fun j _ h2 => h j (by omega))
 rwa [Nat.zero_add] at this

def minF (pr on : List (List UInt8)) : List (List UInt8) × Bool := lstF (rndI pr on) 7 0

theorem min_yes {pr on : List (List UInt8)} {m : Nat} (hm : m < 7) (h : ∀ j, j < m → (rndI pr on j).2 = false) (h2 : (rndI pr on m).2 = true) : minF pr on = ((rndI pr on m).1, true) := by
 unfold minF
 rw [show (7 : Nat) = m + ((6 - m) + 1) by omega, lst_skip m _ h, lstF, if_pos h2]

theorem min_no {pr on : List (List UInt8)} (h : ∀ j, j < 7 → (rndI pr on j).2 = false) : minF pr on = ([], false) := by
 unfold minF
 rw [show (7 : Nat) = 7 + 0 from rfl, lst_skip 7 0 h]; rfl

theorem snocS (l : List (List UInt8)) (q : List UInt8) : frozs (l.map D.str ++ [D.str q]) = (l ++ [q]).map D.str := by
 have h : l.map D.str ++ [D.str q] = (l ++ [q]).map D.str := by rw [List.map_append]; rfl
 rw [h]; exact frozs_map (fun _ => rfl) _

theorem tightA {P : Program} {ρ : Operand → V} {h : Nat → Option Ob} {dst : Option Nat} {t x mx hi a2 b2 c2 d2} {sz : Nat} {xs : List D} {r : Nat} (e) (ht : P.underlying t = some (.slice e)) (hsz : SizeIs P e sz) (hx : (ρ x = .d (.slice false sz xs)) ∨ ρ x = .tight sz xs ∨ (ρ x = .c (.slice none 0 0) ∧ xs = [])) (hr : ∃ y, hi = some y ∧ bnd ρ hi 0 r) (hm : bnd ρ (some mx) 0 r) (hl : xs.length = r) : Ev P ρ h (Oper.mk dst (.slice t x none hi (some mx)) a2 b2 c2 d2) (.tight sz xs) {} := by
 have h1 := Ev.tight (P := P) (ρ := ρ) (h := h) (o := Oper.mk dst (.slice t x none hi (some mx)) a2 b2 c2 d2) t x mx none hi e 0 r rfl ht hsz hx (by simp [bnd]) hr hm (Nat.zero_le _) (by omega)
 rw [List.drop_zero, List.take_of_length_le (by omega)] at h1; exact h1

theorem betI_eq {t l : List (List UInt8)} {f : Bool} : betI t (l, f) = (!f || (decide ((lits t : Int) < (lits l : Int)) || (decide ((lits t : Int) = (lits l : Int)) && decide (cmpL t l < 0)))) := by
 unfold betI
 rw [show decide ((lits t : Int) < (lits l : Int)) = decide (lits t < lits l) from decide_eq_decide.2 (by omega), show decide ((lits t : Int) = (lits l : Int)) = decide (lits t = lits l) from decide_eq_decide.2 (by omega)]

theorem cmpL_next {l m : List (List UInt8)} {k : Nat} (h1 : k < l.length) (h2 : k < m.length) : cmpL (l.drop k) (m.drop k) = if cmpS (l.getD k default) (m.getD k default) = 0 then cmpL (l.drop (k + 1)) (m.drop (k + 1)) else cmpS (l.getD k default) (m.getD k default) := by
 rw [List.drop_eq_getElem_cons h1, List.drop_eq_getElem_cons h2, cmpL]
 simp [h1, h2]

theorem cmpL_end1 {l m : List (List UInt8)} {k : Nat} (h1 : k < l.length) (h2 : m.length ≤ k) : cmpL (l.drop k) (m.drop k) = 1 := by
 rw [List.drop_eq_getElem_cons h1, List.drop_of_length_le h2]; rfl

theorem cmpL_end2 {l m : List (List UInt8)} {k : Nat} (h1 : l.length ≤ k) (h2 : k < m.length) : cmpL (l.drop k) (m.drop k) = -1 := by
 rw [List.drop_eq_getElem_cons h2, List.drop_of_length_le h1]; rfl

theorem cmpL_end3 {l m : List (List UInt8)} {k : Nat} (h1 : l.length ≤ k) (h2 : m.length ≤ k) : cmpL (l.drop k) (m.drop k) = 0 := by
 rw [List.drop_of_length_le h2, List.drop_of_length_le h1]; rfl

theorem sp_isNaN (u : List UInt8) : Sp Try.prog 80 [(.str u)] [.any] (.bool false) := by
 refine Sp_intro (lend := true) Try.func80 rfl rfl rfl (fun _ => rfl) (fun c hc hX => ?_)
 refine T_seq (T_region hc (Ch.s (.d (.bool false)) pa (Ch.nil (T_seq (T_region hc (Ch.s (.d (.str u)) pm (Ch.s (.d (.str u)) pm ?_)))))))
 refine Ch.s (.d (.bool (!(decide (u = u))))) (.pure (.str _ _ _ _ _ rfl rfl rfl rfl)) (Ch.s (.d (.bool (!(decide (u = u))))) pa (Ch.nil (T_ret ?_)))
 exact endR [(.d (.bool (!(decide (u = u)))))] [] [] (.cons (.tmp 2 rfl) .nil) (.cons (.any _) .nil) (Exp.of (congrArg D.bool (by simp)) (.d _)) rfl rfl

theorem sp_cmpS (u v : List UInt8) : Sp Try.prog 73 [(.str u), (.str v)] [.any, .any] (.int .i64 (cmpS u v)) := by
 refine Sp_intro (lend := true) Try.func73 rfl rfl rfl (fun _ => rfl) (fun c hc hX => ?_)
 refine T_seq (T_region hc (Ch.s (.d (.int .i64 0)) pa (Ch.nil (T_seq (T_region hc (Ch.s (.d (.str u)) pm (Ch.s (.d (.bool false)) (.call 8000 80 _ _ _ en80 rfl (.inl rfl) (.cons (.d _) .nil) rfl rfl (sp_isNaN u) (.skip _ _ .nil) rfl) ?_)))))))
 refine Ch.s (.d (.bool false)) pa (Ch.nil (T_seq (T_region hc (Ch.s (.d (.str v)) pm (Ch.s (.d (.bool false)) (.call 10000 80 _ _ _ en80 rfl (.inl rfl) (.cons (.d _) .nil) rfl rfl (sp_isNaN v) (.skip _ _ .nil) rfl) (Ch.s (.d (.bool false)) pa (Ch.nil ?_)))))))
 refine T_seq (T_seq (T_region hc (Ch.s (.d (.bool false)) pm (Ch.nil ?_))))
 refine T_cond (b := false) rfl (fun h => nomatch h) (fun _ => ?_)
 refine T_skip (T_seq (T_seq (T_region hc (Ch.s (.d (.bool false)) pm (Ch.nil ?_)))))
 refine T_cond (b := false) rfl (fun h => nomatch h) (fun _ => ?_)
 refine T_skip (T_seq (T_seq (T_region hc (Ch.s (.d (.str u)) pm (Ch.s (.d (.str v)) pm (Ch.s (.d (.bool (Op.bytesLess u v))) (.pure (.str _ _ _ _ _ rfl rfl rfl rfl)) (Ch.nil ?_)))))))
 refine T_cond (b := (Op.bytesLess u v)) rfl (fun h1 => ?_) (fun h1 => ?_)
 ·
  refine T_seq (T_region hc (Ch.s (.d (.int .i64 (-1))) pa (Ch.nil (T_ret ?_))))
  exact endR [(.d (.int .i64 (-1)))] [] [] (.cons (.tmp 4 rfl) .nil) (.cons (.any _) (.cons (.any _) .nil)) (Exp.of (congrArg (D.int .i64) a15) (.d _)) rfl rfl
 ·
  refine T_skip (T_seq (T_seq (T_region hc (Ch.s (.d (.str u)) pm (Ch.s (.d (.str v)) pm (Ch.s (.d (.bool (!(Op.bytesLess u v || decide (u = v))))) (.pure (.str _ _ _ _ _ rfl rfl rfl rfl)) (Ch.nil ?_)))))))
  refine T_condN (b := (Op.bytesLess u v || decide (u = v))) rfl (fun h2 => ?_) (fun h2 => ?_)
  ·
   refine T_seq (T_region hc (Ch.s (.d (.int .i64 1)) pa (Ch.nil (T_ret ?_))))
   exact endR [(.d (.int .i64 1))] [] [] (.cons (.tmp 4 rfl) .nil) (.cons (.any _) (.cons (.any _) .nil)) (Exp.of (congrArg (D.int .i64) a15) (.d _)) rfl rfl
  ·
   refine T_skip (T_seq (T_region hc (Ch.s (.d (.int .i64 0)) pa (Ch.nil (T_ret ?_)))))
   exact endR [(.d (.int .i64 0))] [] [] (.cons (.tmp 4 rfl) .nil) (.cons (.any _) (.cons (.any _) .nil)) (Exp.of (congrArg (D.int .i64) a15) (.d _)) rfl rfl

theorem sp_cmpL (xs ys : List (List UInt8)) (hn : xs.length ≤ 1048576) (hm : ys.length ≤ 1048576) : Sp Try.prog 60 [(.slice false 1 (xs.map D.str)), (.slice false 1 (ys.map D.str))] [.any, .any] (.int .i64 (cmpL xs ys)) := by
 refine Sp_intro (lend := true) Try.func60 rfl rfl rfl (fun _ => rfl) (fun c hc hX => ?_)
 refine T_seq (T_region hc (Ch.s (.d (.int .i64 0)) pa (Ch.nil (T_seq (T_seq (T_region hc (Ch.s (.d (.slice false 1 (xs.map D.str))) pm ?_)))))))
 refine Ch.s (.d (.int .i64 (xs.length : Int))) (.pure (.len _ _ 9 rfl Try.underlying22 (.sh _ _) (by simp))) (Ch.s (.d (.int .i64 0)) pm (Ch.nil (T_block ?_)))
 refine T_loop (ι := Nat) (fun k => { n := 36, sl := [(0, (.d (.slice false 1 (xs.map D.str)))), (1, (.d (.slice false 1 (ys.map D.str)))), (9, (.d (.slice false 1 (xs.map D.str)))), (10, (.d (.int .i64 (xs.length : Int)))), (11, (.d (.int .i64 (k : Int))))], hp := [], pin := [] }) (fun k => k ≤ xs.length ∧ k ≤ ys.length ∧ cmpL xs ys = cmpL (xs.drop k) (ys.drop k)) (fun k => xs.length - k) ⟨0, ⟨by omega, by omega, rfl⟩, (Wk.of rfl rfl (ai rfl (ai rfl (ai rfl (ai rfl (ai (vI a50) trivial))))) trivial)⟩ (fun k hp0 => ?_)
 refine T_seq (T_region hc (Ch.s (.d (.bool (decide ((k : Int) < (xs.length : Int))))) (iX rfl rfl rfl) (Ch.nil (T_seq ?_))))
 refine T_condD (p := ((k : Int) < (xs.length : Int))) rfl (fun h1 => ?_) (fun h1 => ?_)
 ·
  refine T_skip (T_seq (T_block (T_seq (T_region hc (Ch.s (.d (.int .i64 (k : Int))) pm (Ch.s (.d (.ref (.str (xs.getD k default)))) (.pure (.idx _ _ _ 9 (k) rfl Try.underlying22 sz9 rfl rfl rfl get_mapA)) (Ch.s (.d (.str (xs.getD k default))) (.pure (.loadRef1 _ _ rfl ag9 rfl rfl)) ?_)))))))
  refine Ch.s (.d (.int .i64 (k : Int))) pa (Ch.s (.d (.str (xs.getD k default))) pa (Ch.nil (T_seq (T_seq (T_region hc (Ch.s (.d (.int .i64 (k : Int))) pm (Ch.s (.d (.slice false 1 (ys.map D.str))) pm ?_)))))))
  refine Ch.s (.d (.int .i64 (ys.length : Int))) (.pure (.len _ _ 9 rfl Try.underlying22 (.sh _ _) (by simp))) (Ch.s (.d (.bool (decide ((ys.length : Int) ≤ (k : Int))))) (iX rfl rfl rfl) (Ch.nil ?_))
  refine T_condD (p := ((ys.length : Int) ≤ (k : Int))) rfl (fun h2 => ?_) (fun h2 => ?_)
  ·
   refine T_seq (T_region hc (Ch.s (.d (.int .i64 1)) pa (Ch.nil (T_ret ?_))))
   exact endR [(.d (.int .i64 1))] [] [] (.cons (.tmp 4 rfl) .nil) (.cons (.any _) (.cons (.any _) .nil)) (Exp.of (congrArg (D.int .i64) a10) (.d _)) rfl rfl
  ·
   refine T_skip (T_seq (T_region hc (Ch.s (.d (.slice false 1 (ys.map D.str))) pm (Ch.s (.d (.int .i64 (k : Int))) pm (Ch.s (.d (.ref (.str (ys.getD k default)))) (.pure (.idx _ _ _ 9 (k) rfl Try.underlying22 sz9 rfl rfl rfl get_mapA)) (Ch.s (.d (.str (ys.getD k default))) (.pure (.loadRef1 _ _ rfl ag9 rfl rfl)) (Ch.s (.d (.str (ys.getD k default))) pa ?_)))))))
   refine Ch.nil (T_seq (T_region hc (Ch.s (.d (.str (xs.getD k default))) pm (Ch.s (.d (.str (ys.getD k default))) pm (Ch.s (.d (.int .i64 (cmpS (xs.getD k default) (ys.getD k default)))) (.call 26000 73 _ _ _ en73 rfl (.inl rfl) (.cons (.d _) (.cons (.d _) .nil)) rfl rfl (sp_cmpS (xs.getD k default) (ys.getD k default)) (.skip _ _ (.skip _ _ .nil)) rfl) (Ch.s (.d (.int .i64 (cmpS (xs.getD k default) (ys.getD k default)))) pa (Ch.nil ?_)))))))
   refine T_seq (T_region hc (Ch.s (.d (.int .i64 (cmpS (xs.getD k default) (ys.getD k default)))) pm (Ch.s (.d (.bool (!(decide ((cmpS (xs.getD k default) (ys.getD k default)) = 0))))) (iX rfl rfl rfl) (Ch.nil ?_))))
   refine T_condN (b := (decide ((cmpS (xs.getD k default) (ys.getD k default)) = 0))) rfl (fun h3 => ?_) (fun h3 => ?_)
   ·
    replace h3 := of_decide_eq_false h3
    refine T_seq (T_region hc (Ch.s (.d (.int .i64 (cmpS (xs.getD k default) (ys.getD k default)))) pm (Ch.s (.d (.int .i64 (cmpS (xs.getD k default) (ys.getD k default)))) pa (Ch.nil (T_ret ?_)))))
    exact endR [(.d (.int .i64 (cmpS (xs.getD k default) (ys.getD k default))))] [] [] (.cons (.tmp 4 rfl) .nil) (.cons (.any _) (.cons (.any _) .nil)) (Exp.of (congrArg (D.int .i64) a10) (.d _)) rfl rfl
   ·
    replace h3 := of_decide_eq_true h3
    refine T_skip (T_region hc (Ch.s (.d (.int .i64 ((k : Int) + 1))) (iX rfl rfl intV_addA) (Ch.s (.d (.int .i64 ((k : Int) + 1))) pm (Ch.nil ?_))))
    exact nx (k + 1) ⟨by omega, by omega, by rw [hp0.2.2, cmpL_next (by omega) (by omega), if_pos (by omega)]⟩ (Wk.of rfl rfl (ai rfl (ai rfl (ai rfl (ai rfl (ai (vI a50) trivial))))) trivial)
 ·
  refine T_exit (T_seq (T_seq (T_region hc (Ch.s (.d (.slice false 1 (xs.map D.str))) pm (Ch.s (.d (.int .i64 (xs.length : Int))) (.pure (.len _ _ 9 rfl Try.underlying22 (.sh _ _) (by simp))) (Ch.s (.d (.slice false 1 (ys.map D.str))) pm (Ch.s (.d (.int .i64 (ys.length : Int))) (.pure (.len _ _ 9 rfl Try.underlying22 (.sh _ _) (by simp))) ?_)))))))
  refine Ch.s (.d (.bool (decide ((xs.length : Int) < (ys.length : Int))))) (iX rfl rfl rfl) (Ch.nil ?_)
  refine T_condD (p := ((xs.length : Int) < (ys.length : Int))) rfl (fun h4 => ?_) (fun h4 => ?_)
  ·
   refine T_seq (T_region hc (Ch.s (.d (.int .i64 (-1))) pa (Ch.nil (T_ret ?_))))
   exact endR [(.d (.int .i64 (-1)))] [] [] (.cons (.tmp 4 rfl) .nil) (.cons (.any _) (.cons (.any _) .nil)) (Exp.of (congrArg (D.int .i64) a10) (.d _)) rfl rfl
  ·
   refine T_skip (T_seq (T_region hc (Ch.s (.d (.int .i64 0)) pa (Ch.nil (T_ret ?_)))))
   exact endR [(.d (.int .i64 0))] [] [] (.cons (.tmp 4 rfl) .nil) (.cons (.any _) (.cons (.any _) .nil)) (Exp.of (congrArg (D.int .i64) a10) (.d _)) rfl rfl

theorem sp_isBetter (u : Value) (l t : List (List UInt8)) (f : Bool) (hl : bulkS l ≤ 1048576) (ht : bulkS t ≤ 1048576) : Sp Try.prog 47 [(.box [(.hole u), (.slice true 1 (l.map D.str)), (.bool (f))]), (.slice false 1 (t.map D.str))] [(.box [(.hole u), (.slice true 1 (l.map D.str)), (.bool (f))]), .any] (.bool (betI t (l, f))) := by
 refine Sp_intro (lend := false) Try.func47 rfl rfl rfl (fun h => nomatch h) (fun c hc hX => ?_)
 refine T_open 1 8000010 rfl rfl rfl ?_
 have hn := bulk_len hl; have hm := bulk_len ht
 refine T_seq (T_region hc (Ch.s (.d (.bool false)) pa (Ch.nil (T_seq ?_))))
 refine T_regionD hc (by kernel_rfl) ?_
 refine ChD.s (.d (.slice false 1 (t.map D.str))) [] pm (ChD.s (.d (.int .i64 (lits t : Int))) [] (.call 8000 59 _ _ _ en59 rfl (.inl rfl) (.cons (.d _) .nil) rfl rfl (sp_impl_literals t a8) (.skip _ _ .nil) rfl) (ChD.s (.ptr 1 0) [] pm (ChD.s (.ptr 1 0) [] (.pure (.nilPtr _ rfl rfl)) (ChD.s (.ptr 1 1) [] (.pure (.fldPtr _ _ _ rfl fld42_1 rfl)) (ChD.s (.row 8000010) [1] (.pure (.loadPtr1 _ _ rfl ag22 rfl rfl rfl)) (ChD.s (.d (.int .i64 (lits l : Int))) [8000010] (.call 13000 59 _ _ _ en59 rfl (.inl rfl) (.cons (.lend (.row rfl (frozs_map (fun _ => rfl) _))) .nil) rfl rfl (sp_impl_literals l a8) (.skip _ _ .nil) rfl) (ChD.s (.d (.int .i64 (lits t : Int))) [] pa ?_)))))))
 refine ChD.s (.d (.int .i64 (lits l : Int))) [] pa ?_
 refine ChD.nil (And.intro ?_ (by kernel_rfl))
 refine T_seq (T_region hc (Ch.s (.ptr 1 0) pm (Ch.s (.ptr 1 0) (.pure (.nilPtr _ rfl rfl)) (Ch.s (.ptr 1 2) (.pure (.fldPtr _ _ _ rfl fld42_2 rfl)) (Ch.s (.d (.bool (f))) (.pure (.loadPtr1 _ _ rfl ag4 rfl rfl rfl)) (Ch.s (.d (.bool (!(f)))) (.pure (.not _ _ rfl rfl)) (Ch.s (.d (.bool (!(f)))) pm ?_)))))))
 cases h1 : (f) with
 | true =>
  refine Ch.s (.d (.int .i64 (lits t : Int))) pm (Ch.s (.d (.int .i64 (lits l : Int))) pm (Ch.s (.d (.bool (decide ((lits t : Int) < (lits l : Int))))) (iX rfl rfl rfl) (Ch.s (.d (.bool (decide ((lits t : Int) < (lits l : Int))))) (.pure (.pickF _ _ _ rfl rfl rfl)) (Ch.s (.d (.bool (decide ((lits t : Int) < (lits l : Int))))) pm ?_))))
  cases h2 : (decide ((lits t : Int) < (lits l : Int))) with
  | true =>
   replace h2 := of_decide_eq_true h2
   refine Ch.skip rfl rfl (Ch.skip rfl rfl (Ch.skip rfl rfl (Ch.skip rfl rfl (Ch.skip rfl rfl (Ch.skip rfl rfl (Ch.skip rfl rfl (Ch.skip rfl rfl ?_)))))))
   refine Ch.skip rfl rfl (Ch.skip rfl rfl (Ch.skip rfl rfl (Ch.skip rfl rfl (Ch.s (.d (.bool true)) (.pure (.pickT _ _ _ rfl rfl rfl)) (Ch.s (.d (.bool true)) pa (Ch.nil (T_ret ?_)))))))
   exact endR [(.d (.bool true))] [1, 8000010] [] (.cons (.tmp 4 rfl) .nil) (.cons (.box rfl (.cons (.d _) (.cons (.row rfl) (.cons (Exp.of (congrArg D.bool a18) (.d _)) .nil))) rfl) (.cons (.any _) .nil)) (Exp.of (congrArg D.bool a18) (.d _)) rfl rfl
  | false =>
   replace h2 := of_decide_eq_false h2
   refine Ch.s (.d (.int .i64 (lits t : Int))) pm (Ch.s (.d (.int .i64 (lits l : Int))) pm (Ch.s (.d (.bool (decide ((lits t : Int) = (lits l : Int))))) (iX rfl rfl rfl) (Ch.s (.d (.bool (decide ((lits t : Int) = (lits l : Int))))) pm ?_)))
   cases h3 : (decide ((lits t : Int) = (lits l : Int))) with
   | true =>
    replace h3 := of_decide_eq_true h3
    refine Ch.s (.d (.slice false 1 (t.map D.str))) pm (Ch.s (.ptr 1 0) pm (Ch.s (.ptr 1 0) (.pure (.nilPtr _ rfl rfl)) (Ch.s (.ptr 1 1) (.pure (.fldPtr _ _ _ rfl fld42_1 rfl)) (Ch.s (.row 8000010) (.pure (.loadPtr1 _ _ rfl ag22 rfl rfl rfl)) (Ch.s (.d (.int .i64 (cmpL t l))) (.call 34000 60 _ _ _ en60 rfl (.inl rfl) (.cons (.d _) (.cons (.lend (.row rfl (frozs_map (fun _ => rfl) _))) .nil)) rfl rfl (sp_cmpL t l a17 a17) (.skip _ _ (.skip _ _ .nil)) rfl) (Ch.s (.d (.bool (decide ((cmpL t l) < 0)))) (iX rfl rfl rfl) (Ch.s (.d (.bool (decide ((cmpL t l) < 0)))) (.pure (.pickT _ _ _ rfl rfl rfl)) ?_)))))))
    refine Ch.s (.d (.bool (decide ((cmpL t l) < 0)))) (.pure (.pickF _ _ _ rfl rfl rfl)) (Ch.s (.d (.bool (decide ((cmpL t l) < 0)))) pa (Ch.nil (T_ret ?_)))
    exact endR [(.d (.bool (decide ((cmpL t l) < 0))))] [1, 8000010] [] (.cons (.tmp 4 rfl) .nil) (.cons (.box rfl (.cons (.d _) (.cons (.row rfl) (.cons (Exp.of (congrArg D.bool a18) (.d _)) .nil))) rfl) (.cons (.any _) .nil)) (Exp.of (congrArg D.bool a18) (.d _)) rfl rfl
   | false =>
    replace h3 := of_decide_eq_false h3
    refine Ch.skip rfl rfl (Ch.skip rfl rfl (Ch.skip rfl rfl (Ch.skip rfl rfl (Ch.skip rfl rfl (Ch.skip rfl rfl (Ch.skip rfl rfl (Ch.s (.d (.bool false)) (.pure (.pickF _ _ _ rfl rfl rfl)) ?_)))))))
    refine Ch.s (.d (.bool false)) (.pure (.pickF _ _ _ rfl rfl rfl)) (Ch.s (.d (.bool false)) pa (Ch.nil (T_ret ?_)))
    exact endR [(.d (.bool false))] [1, 8000010] [] (.cons (.tmp 4 rfl) .nil) (.cons (.box rfl (.cons (.d _) (.cons (.row rfl) (.cons (Exp.of (congrArg D.bool a18) (.d _)) .nil))) rfl) (.cons (.any _) .nil)) (Exp.of (congrArg D.bool a18) (.d _)) rfl rfl
 | false =>
  refine Ch.skip rfl rfl (Ch.skip rfl rfl (Ch.skip rfl rfl (Ch.s (.d (.bool true)) (.pure (.pickT _ _ _ rfl rfl rfl)) (Ch.s (.d (.bool true)) pm (Ch.skip rfl rfl (Ch.skip rfl rfl (Ch.skip rfl rfl ?_)))))))
  refine Ch.skip rfl rfl (Ch.skip rfl rfl (Ch.skip rfl rfl (Ch.skip rfl rfl (Ch.skip rfl rfl (Ch.skip rfl rfl (Ch.skip rfl rfl (Ch.skip rfl rfl ?_)))))))
  refine Ch.skip rfl rfl (Ch.s (.d (.bool true)) (.pure (.pickT _ _ _ rfl rfl rfl)) (Ch.s (.d (.bool true)) pa (Ch.nil (T_ret ?_))))
  exact endR [(.d (.bool true))] [1, 8000010] [] (.cons (.tmp 4 rfl) .nil) (.cons (.box rfl (.cons (.d _) (.cons (.row rfl) (.cons (Exp.of (congrArg D.bool a18) (.d _)) .nil))) rfl) (.cons (.any _) .nil)) (Exp.of (congrArg D.bool a18) (.d _)) rfl rfl

theorem bulk_small {l : List (List UInt8)} {n : Nat} (h6 : n ≤ 8) (h1 : l.length ≤ 7) (h2 : ∀ q ∈ l, q.length = n) : bulkS l ≤ 1048576 := by
 have key : ∀ l : List (List UInt8), (∀ q ∈ l, q.length = n) → (l.map List.length).sum = l.length * n := by
  intro l
  induction l with
  | nil => intro _; simp
  | cons a l ih =>
   intro h
   rw [List.map_cons, List.sum_cons, ih (fun q hq => h q (List.mem_cons_of_mem _ hq)), h a List.mem_cons_self, List.length_cons, Nat.add_mul]; omega
 have h3 := key l h2
 have h4 : l.length * n ≤ 7 * 8 := Nat.mul_le_mul h1 h6
 unfold bulkS; omega

theorem endI_yes {l : List (List UInt8)} {m : Nat} {p : List (List UInt8) × Bool} (h1 : (Lib.compact (l.mergeSort leS)).length = l.length) (h2 : m = 0) (h3 : betI (l.mergeSort leS) (p.1, p.2) = true) : endI l m p = (l.mergeSort leS, true) := by
 unfold endI
 rw [decide_eq_true h1, decide_eq_true h2, show betI (l.mergeSort leS) p = true from h3]; rfl

theorem endI_no1 {l : List (List UInt8)} {m : Nat} {p : List (List UInt8) × Bool} (h1 : ¬ (Lib.compact (l.mergeSort leS)).length = l.length) : endI l m p = p := by
 unfold endI
 rw [decide_eq_false h1]; rfl

theorem endI_no2 {l : List (List UInt8)} {m : Nat} {p : List (List UInt8) × Bool} (h2 : ¬ m = 0) : endI l m p = p := by
 unfold endI
 rw [decide_eq_false h2, Bool.false_and, Bool.and_false]; rfl

theorem endI_no3 {l : List (List UInt8)} {m : Nat} {p : List (List UInt8) × Bool} (h3 : betI (l.mergeSort leS) (p.1, p.2) = false) : endI l m p = p := by
 unfold endI
 rw [show betI (l.mergeSort leS) p = false from h3, Bool.and_false, Bool.and_false]; rfl

theorem chF_z {pr : List (List UInt8)} {m : Nat} {on l : List (List UInt8)} {p : List (List UInt8) × Bool} (h : m = 0) (h2 : ¬ on.length = 0) : chF pr m on l p = p := by subst h; exact chF_zero h2

theorem chF_nx {pr : List (List UInt8)} {m : Nat} {on l : List (List UInt8)} {p : List (List UInt8) × Bool} {k : Nat} (hm : ¬ m = 0) (h2 : ¬ on.length = 0) (hk : pr.length ≤ k) : chF pr m on l p = chTo pr (m - 1) on l p k := by
 obtain ⟨q, rfl⟩ : ∃ q, m = q + 1 := ⟨m - 1, by omega⟩
 exact chF_next h2 hk

theorem chTo_yes {pr : List (List UInt8)} {m : Nat} {on l : List (List UInt8)} {p : List (List UInt8) × Bool} {k : Nat} (h : k < pr.length) (hb : hasB (pr.getD k default) (on.getD 0 default) = true) : chF pr m (on.filter fun c => !hasB (pr.getD k default) c) (l ++ [pr.getD k default]) (chTo pr m on l p k) = chTo pr m on l p (k + 1) := by rw [chTo_succ h, if_pos hb]

theorem chTo_no {pr : List (List UInt8)} {m : Nat} {on l : List (List UInt8)} {p : List (List UInt8) × Bool} {k : Nat} (h : k < pr.length) (hb : hasB (pr.getD k default) (on.getD 0 default) = false) : chTo pr m on l p k = chTo pr m on l p (k + 1) := by rw [chTo_succ h, hb]; rfl

theorem snoc_all {l : List (List UInt8)} {q : List UInt8} {n : Nat} (h : ∀ a ∈ l, a.length = n) (hq : q.length = n) : ∀ a ∈ l ++ [q], a.length = n := fun a ha => by
  rcases List.mem_append.1 ha with ha | ha
  · exact h a ha
  · rw [List.mem_singleton] at ha; rw [ha]; exact hq

theorem sp_choose_1 (v q : List UInt8) (ha : q.length ≤ 1048576) (hl : q.length ≤ v.length) : Sp Try.prog 49 [(.str v), (.ref (.str q))] [.any, .any] (.bool (hasB q v)) := by
 refine Sp_intro (lend := true) Try.func49 rfl rfl rfl (fun _ => rfl) (fun c hc hX => ?_)
 refine T_seq (T_region hc (Ch.s (.d (.bool false)) pa (Ch.nil (T_seq (T_region hc (Ch.s (.d (.str q)) (.pure (.loadRef1 _ _ rfl ag9 rfl rfl)) (Ch.s (.d (.str v)) pm ?_)))))))
 refine Ch.s (.d (.bool (hasB q v))) (.call 6000 48 _ _ _ en48 rfl (.inl rfl) (.cons (.d _) (.cons (.d _) .nil)) rfl rfl (sp_impl_contains q v a8 a8) (.skip _ _ (.skip _ _ .nil)) rfl) (Ch.s (.d (.bool (hasB q v))) pa (Ch.nil (T_ret ?_)))
 exact endR [(.d (.bool (hasB q v)))] [] [] (.cons (.tmp 3 rfl) .nil) (.cons (.any _) (.cons (.any _) .nil)) (.d _) rfl rfl

end Go.AM
