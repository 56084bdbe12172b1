/-
  The contracts that the law FnExactFormatRegionCovers needs.
-/
import Derived.Test.YtnmlcebejnlikaaGreatZFormatRegionCovers2
namespace Go.AM
open Go.Proofs
set_option linter.unusedVariables false
set_option linter.unusedSimpArgs false

theorem en299 : Enters Tryz.prog 299 := ⟨_, Tryz.func299, by kernel_rfl, rfl⟩

theorem sp_IndexFunc_int (xs : List (Int)) (f : FuncId) (caps : List D) (p : Int → Bool) (hf : Enters Tryz.prog f) (hp : ∀ x ∈ xs, Sp Tryz.prog f ((fun n : Int => D.int .i64 n) x :: caps) (.any :: anys caps) (.bool (p x))) (hn : xs.length ≤ 1048576) : Sp Tryz.prog 257 [(.slice false 1 (xs.map (fun n : Int => D.int .i64 n))), (.fn f caps)] [.any, .any] (.int .i64 (ixF p xs)) := by
 refine Sp_intro (lend := true) Tryz.func257 rfl rfl rfl (fun _ => rfl) (fun c hc hX => ?_)
 refine T_seq (T_region hc (Ch.s (.d (.int .i64 0)) pa (Ch.nil (T_seq (T_seq (T_region hc (Ch.s (.d (.slice false 1 (xs.map (fun n : Int => D.int .i64 n)))) pm ?_)))))))
 refine Ch.s (.d (.int .i64 ((xs.length : Nat) : Int))) (.pure (.len _ _ 3 rfl Tryz.underlying55 (.sh _ _) (by simp))) (Ch.s (.d (.int .i64 0)) pm (Ch.nil (T_block ?_)))
 refine T_loop (ι := Nat) (fun k => { n := 19, sl := [(0, (.d (.slice false 1 (xs.map (fun n : Int => D.int .i64 n))))), (1, (.d (.fn f caps))), (7, (.d (.int .i64 ((xs.length : Nat) : Int)))), (8, (.d (.int .i64 ((k : Nat) : Int))))], hp := [], pin := [] }) (fun k => k ≤ xs.length ∧ ∀ j, j < k → p (xs.getD j default) = false) (fun k => xs.length - k) ⟨0, ⟨by omega, fun j hj => by omega⟩, (Wk.of rfl rfl (ai rfl (ai rfl (ai rfl (ai (vI (by first | rfl | omega | (simp; done) | (simp; omega))) trivial)))) trivial)⟩ (fun k hp0 => ?_)
 refine T_seq (T_region hc (Ch.s (.d (.bool (decide (((k : Nat) : Int) < ((xs.length : Nat) : Int))))) (.pure (.int _ _ _ _ _ rfl rfl rfl rfl)) (Ch.nil (T_seq ?_))))
 refine T_cond (b := (decide (((k : Nat) : Int) < ((xs.length : Nat) : Int)))) rfl (fun h1 => ?_) (fun h1 => ?_)
 ·
  replace h1 := of_decide_eq_true h1
  refine T_skip (T_seq (T_block (T_seq (T_region hc (Ch.s (.d (.int .i64 ((k : Nat) : Int))) pm (Ch.s (.d (.int .i64 ((k : Nat) : Int))) pa (Ch.nil ?_)))))))
  refine T_seq (T_region hc (Ch.s (.d (.fn f caps)) pm (Ch.s (.d (.slice false 1 (xs.map (fun n : Int => D.int .i64 n)))) pm (Ch.s (.d (.int .i64 ((k : Nat) : Int))) pm (Ch.s (.d (.ref (.int .i64 (xs.getD k default)))) (.pure (.idx _ _ _ 3 (k) rfl Tryz.underlying55 sz3 rfl rfl rfl get_mapA)) (Ch.s (.d (.int .i64 (xs.getD k default))) (.pure (.loadRef1 _ _ rfl ag3 rfl rfl)) ?_))))))
  refine Ch.step (v := (.d (.bool (p (xs.getD k default))))) rfl (.callS 16000 f _ #[.tmp 15] _ hf rfl (.inr ⟨caps, rfl, rfl⟩) (.cons (.d _) (exps_ds caps)) rfl (hp _ (getD_mem (by omega))) (.skip _ _ (back_anys caps)) rfl) rfl rfl ?_
  refine Ch.nil ?_
  refine T_cond (b := (p (xs.getD k default))) rfl (fun h2 => ?_) (fun h2 => ?_)
  ·
   refine T_seq (T_region hc (Ch.s (.d (.int .i64 ((k : Nat) : Int))) pm (Ch.s (.d (.int .i64 ((k : Nat) : Int))) pa (Ch.nil (T_ret ?_)))))
   exact endR [(.d (.int .i64 ((k : Nat) : Int)))] [] [] (.cons (.tmp 4 rfl) .nil) (.cons (.any _) (.cons (.any _) .nil)) (Exp.of (congrArg (D.int .i64) (by exact (ixF_some (d := default) (by omega) hp0.2 (by assumption)).symm)) (.d _)) rfl rfl
  ·
   refine T_skip (T_region hc (Ch.s (.d (.int .i64 (((k : Nat) : Int) + 1))) (.pure (.int _ _ _ _ _ rfl rfl rfl intV_addA)) (Ch.s (.d (.int .i64 (((k : Nat) : Int) + 1))) pm (Ch.nil ?_))))
   exact nx (k + 1) ⟨by omega, upto_succ hp0.2 (by assumption)⟩ (Wk.of rfl rfl (ai rfl (ai rfl (ai rfl (ai (vI (by first | rfl | omega | (simp; done) | (simp; omega))) trivial)))) trivial)
 ·
  replace h1 := of_decide_eq_false h1
  refine T_exit (T_seq (T_region hc (Ch.s (.d (.int .i64 (-1))) pa (Ch.nil (T_ret ?_)))))
  exact endR [(.d (.int .i64 (-1)))] [] [] (.cons (.tmp 4 rfl) .nil) (.cons (.any _) (.cons (.any _) .nil)) (Exp.of (congrArg (D.int .i64) (by exact (ixF_none (d := default) (fun j hj => hp0.2 j (by omega))).symm)) (.d _)) rfl rfl

theorem sp_ContainsFunc_int (xs : List (Int)) (f : FuncId) (caps : List D) (p : Int → Bool) (hf : Enters Tryz.prog f) (hp : ∀ x ∈ xs, Sp Tryz.prog f ((fun n : Int => D.int .i64 n) x :: caps) (.any :: anys caps) (.bool (p x))) (hn : xs.length ≤ 1048576) : Sp Tryz.prog 302 [(.slice false 1 (xs.map (fun n : Int => D.int .i64 n))), (.fn f caps)] [.any, .any] (.bool (xs.any p)) := by
 refine Sp_intro (lend := true) Tryz.func302 rfl rfl rfl (fun _ => rfl) (fun c hc hX => ?_)
 refine T_seq (T_region hc (Ch.s (.d (.bool false)) pa (Ch.nil (T_seq (T_region hc (Ch.s (.d (.slice false 1 (xs.map (fun n : Int => D.int .i64 n)))) pm (Ch.s (.d (.fn f caps)) pm ?_)))))))
 refine Ch.s (.d (.int .i64 (ixF p xs))) (.call 7000 257 _ _ _ en257 rfl (.inl rfl) (.cons (.d _) (.cons (.d _) .nil)) rfl rfl (sp_IndexFunc_int xs f caps p hf hp (by first | assumption | omega | (rw [List.length_take]; omega) | (have := bulkF_mem hb _ (getD_mem (d := default) (by omega)); assumption) | (unfold bulkS at *; omega) | (simp_all; done))) (.skip _ _ (.skip _ _ .nil)) rfl) (Ch.s (.d (.bool (decide (0 ≤ (ixF p xs))))) (.pure (.int _ _ _ _ _ rfl rfl rfl rfl)) (Ch.s (.d (.bool (decide (0 ≤ (ixF p xs))))) pa (Ch.nil (T_ret ?_))))
 exact endR [(.d (.bool (decide (0 ≤ (ixF p xs)))))] [] [] (.cons (.tmp 4 rfl) .nil) (.cons (.any _) (.cons (.any _) .nil)) (Exp.of (congrArg D.bool (by exact ixF_nonneg p xs)) (.d _)) rfl rfl

theorem sp_IndexFunc_ints (xs : List (List Int)) (f : FuncId) (caps : List D) (p : List Int → Bool) (hf : Enters Tryz.prog f) (hp : ∀ x ∈ xs, Sp Tryz.prog f (intsD x :: caps) (.any :: anys caps) (.bool (p x))) (hn : xs.length ≤ 1048576) : Sp Tryz.prog 307 [(.slice false 1 (xs.map intsD)), (.fn f caps)] [.any, .any] (.int .i64 (ixF p xs)) := by
 refine Sp_intro (lend := true) Tryz.func307 rfl rfl rfl (fun _ => rfl) (fun c hc hX => ?_)
 refine T_seq (T_region hc (Ch.s (.d (.int .i64 0)) pa (Ch.nil (T_seq (T_seq (T_region hc (Ch.s (.d (.slice false 1 (xs.map intsD))) pm ?_)))))))
 refine Ch.s (.d (.int .i64 ((xs.length : Nat) : Int))) (.pure (.len _ _ 55 rfl Tryz.underlying49 (.sh _ _) (by simp))) (Ch.s (.d (.int .i64 0)) pm (Ch.nil (T_block ?_)))
 refine T_loop (ι := Nat) (fun k => { n := 19, sl := [(0, (.d (.slice false 1 (xs.map intsD)))), (1, (.d (.fn f caps))), (7, (.d (.int .i64 ((xs.length : Nat) : Int)))), (8, (.d (.int .i64 ((k : Nat) : Int))))], hp := [], pin := [] }) (fun k => k ≤ xs.length ∧ ∀ j, j < k → p (xs.getD j default) = false) (fun k => xs.length - k) ⟨0, ⟨by omega, fun j hj => by omega⟩, (Wk.of rfl rfl (ai rfl (ai rfl (ai rfl (ai (vI (by first | rfl | omega | (simp; done) | (simp; omega))) trivial)))) trivial)⟩ (fun k hp0 => ?_)
 refine T_seq (T_region hc (Ch.s (.d (.bool (decide (((k : Nat) : Int) < ((xs.length : Nat) : Int))))) (.pure (.int _ _ _ _ _ rfl rfl rfl rfl)) (Ch.nil (T_seq ?_))))
 refine T_cond (b := (decide (((k : Nat) : Int) < ((xs.length : Nat) : Int)))) rfl (fun h1 => ?_) (fun h1 => ?_)
 ·
  replace h1 := of_decide_eq_true h1
  refine T_skip (T_seq (T_block (T_seq (T_region hc (Ch.s (.d (.int .i64 ((k : Nat) : Int))) pm (Ch.s (.d (.int .i64 ((k : Nat) : Int))) pa (Ch.nil ?_)))))))
  refine T_seq (T_region hc (Ch.s (.d (.fn f caps)) pm (Ch.s (.d (.slice false 1 (xs.map intsD))) pm (Ch.s (.d (.int .i64 ((k : Nat) : Int))) pm (Ch.s (.d (.ref (.slice false 1 ((xs.getD k default).map (fun n : Int => D.int .i64 n))))) (.pure (.idx _ _ _ 55 (k) rfl Tryz.underlying49 sz55 rfl rfl rfl get_mapA)) (Ch.s (.d (.slice false 1 ((xs.getD k default).map (fun n : Int => D.int .i64 n)))) (.pure (.loadRef1 _ _ rfl ag55 rfl rfl)) ?_))))))
  refine Ch.step (v := (.d (.bool (p (xs.getD k default))))) rfl (.callS 16000 f _ #[.tmp 15] _ hf rfl (.inr ⟨caps, rfl, rfl⟩) (.cons (.d _) (exps_ds caps)) rfl (hp _ (getD_mem (by omega))) (.skip _ _ (back_anys caps)) rfl) rfl rfl ?_
  refine Ch.nil ?_
  refine T_cond (b := (p (xs.getD k default))) rfl (fun h2 => ?_) (fun h2 => ?_)
  ·
   refine T_seq (T_region hc (Ch.s (.d (.int .i64 ((k : Nat) : Int))) pm (Ch.s (.d (.int .i64 ((k : Nat) : Int))) pa (Ch.nil (T_ret ?_)))))
   exact endR [(.d (.int .i64 ((k : Nat) : Int)))] [] [] (.cons (.tmp 4 rfl) .nil) (.cons (.any _) (.cons (.any _) .nil)) (Exp.of (congrArg (D.int .i64) (by exact (ixF_some (d := default) (by omega) hp0.2 (by assumption)).symm)) (.d _)) rfl rfl
  ·
   refine T_skip (T_region hc (Ch.s (.d (.int .i64 (((k : Nat) : Int) + 1))) (.pure (.int _ _ _ _ _ rfl rfl rfl intV_addA)) (Ch.s (.d (.int .i64 (((k : Nat) : Int) + 1))) pm (Ch.nil ?_))))
   exact nx (k + 1) ⟨by omega, upto_succ hp0.2 (by assumption)⟩ (Wk.of rfl rfl (ai rfl (ai rfl (ai rfl (ai (vI (by first | rfl | omega | (simp; done) | (simp; omega))) trivial)))) trivial)
 ·
  replace h1 := of_decide_eq_false h1
  refine T_exit (T_seq (T_region hc (Ch.s (.d (.int .i64 (-1))) pa (Ch.nil (T_ret ?_)))))
  exact endR [(.d (.int .i64 (-1)))] [] [] (.cons (.tmp 4 rfl) .nil) (.cons (.any _) (.cons (.any _) .nil)) (Exp.of (congrArg (D.int .i64) (by exact (ixF_none (d := default) (fun j hj => hp0.2 j (by omega))).symm)) (.d _)) rfl rfl

theorem anys_sol : ∀ ds : List D, solids (anys ds) = true
 | [] => rfl
 | _ :: ds => anys_sol ds

theorem anys_one {ds : List D} (h : solids ds = true) : solids (D.any :: ds) = true := h

def dlRow (p : List Int → Bool) (xs : List (List Int)) (j : Nat) (us : List Value) : List D := (keepTo p xs j).map intsU ++ us.map D.hole ++ (xs.drop j).map intsU

structure DlInv (p : List Int → Bool) (xs : List (List Int)) (j : Nat) (us : List Value) : Prop where
 le : j ≤ xs.length
 len : (keepTo p xs j).length + us.length = j
 pos : 0 < us.length

theorem dl_len {p : List Int → Bool} {xs : List (List Int)} {j : Nat} {us : List Value} (h : DlInv p xs j us) : (dlRow p xs j us).length = xs.length := by
 have h1 := h.len
 have h2 := h.le
 unfold dlRow
 simp only [List.length_append, List.length_map, List.length_drop]
 omega

theorem dl_at {p : List Int → Bool} {xs : List (List Int)} {j : Nat} {us : List Value} (h : DlInv p xs j us) (hj : j < xs.length) : (dlRow p xs j us)[j]? = some (intsU (xs.getD j default)) := by
 have h1 := h.len
 unfold dlRow
 rw [List.getElem?_append_right (by simp only [List.length_append, List.length_map]; omega)]
 simp only [List.length_append, List.length_map]
 rw [show j - ((keepTo p xs j).length + us.length) = 0 by omega, List.getElem?_map, List.getElem?_drop, Nat.add_zero]
 simp [hj]

theorem dl_set {p : List Int → Bool} {xs : List (List Int)} {j : Nat} {us : List Value} (h : DlInv p xs j us) (hj : j < xs.length) (d : D) : (dlRow p xs j us).set j d = (keepTo p xs j).map intsU ++ (us.map D.hole ++ d :: (xs.drop (j + 1)).map intsU) := by
 have h1 := h.len
 unfold dlRow
 rw [List.append_assoc, List.set_append_right (h := by simp only [List.length_map]; omega)]
 rw [List.set_append_right (h := by simp only [List.length_map]; omega)]
 simp only [List.length_map]
 rw [show j - (keepTo p xs j).length - us.length = 0 by omega, List.drop_eq_getElem_cons hj, List.map_cons, List.set_cons_zero]

theorem dl_hole {p : List Int → Bool} {xs : List (List Int)} {j : Nat} {us : List Value} {u : Value} (h : DlInv p xs j us) (hj : j < xs.length) : ((dlRow p xs j us).set j (.hole u))[(keepTo p xs j).length]? = some (.hole (us.getD 0 default)) := by
 have h3 := h.pos
 rw [dl_set h hj, List.getElem?_append_right (by simp)]
 simp only [List.length_map, Nat.sub_self]
 cases us with
 | nil => exact absurd h3 (Nat.not_lt_zero _)
 | cons v us => rfl

theorem dl_skip {p : List Int → Bool} {xs : List (List Int)} {j : Nat} {us : List Value} {u : Value} (h : DlInv p xs j us) (hj : j < xs.length) (hp : p (xs.getD j default) = true) :
  (dlRow p xs j us).set j (.hole u) = dlRow p xs (j + 1) (us ++ [u]) ∧ DlInv p xs (j + 1) (us ++ [u]) := by
 have hk := keepTo_no hj hp
 have h1 := h.len
 refine ⟨?_, by omega, by rw [hk, List.length_append, List.length_singleton]; omega, by simp⟩
 rw [dl_set h hj]
 unfold dlRow
 rw [hk, List.map_append]
 simp

theorem dl_keep {p : List Int → Bool} {xs : List (List Int)} {j : Nat} {us : List Value} {u : Value} (h : DlInv p xs j us) (hj : j < xs.length) (hp : p (xs.getD j default) = false) :
  ((dlRow p xs j us).set j (.hole u)).set (keepTo p xs j).length (intsU (xs.getD j default)) = dlRow p xs (j + 1) (us.tail ++ [u]) ∧ DlInv p xs (j + 1) (us.tail ++ [u]) := by
 have hk := keepTo_yes hj hp
 have h1 := h.len
 have h3 := h.pos
 refine ⟨?_, by omega, by rw [hk]; simp only [List.length_append, List.length_singleton, List.length_tail]; omega, by simp⟩
 rw [dl_set h hj, List.set_append_right (h := by simp)]
 simp only [List.length_map, Nat.sub_self]
 unfold dlRow
 rw [hk]
 cases us with
 | nil => exact absurd h3 (Nat.not_lt_zero _)
 | cons v us => simp

theorem dl_start {p : List Int → Bool} {xs : List (List Int)} {u : Value} (h : ¬ ixF p xs = -1) : (xs.map intsU).set (ixF p xs).toNat (.hole u) = dlRow p xs ((ixF p xs).toNat + 1) [u] ∧ DlInv p xs ((ixF p xs).toNat + 1) [u] ∧ (keepTo p xs ((ixF p xs).toNat + 1)).length = (ixF p xs).toNat ∧ (ixF p xs).toNat < xs.length := by
  obtain ⟨k, hk, hk1, hk2⟩ := ixF_first h
  have e : (ixF p xs).toNat = k := by omega
  rw [e]
  have hl : (keepTo p xs (k + 1)).length = k := by rw [hk2, List.length_take]; omega
  refine ⟨?_, ⟨by omega, by rw [hl]; rfl, by simp⟩, hl, hk⟩
  unfold dlRow
  rw [hk2]
  apply List.ext_getElem?
  intro q
  have ht : (xs.take k).length = k := by rw [List.length_take]; omega
  rw [List.append_assoc, List.getElem?_append, List.getElem?_set, List.length_map, List.length_map, ht]
  by_cases h1 : k = q
  · subst h1
    rw [if_pos rfl, if_pos hk, if_neg (by omega), Nat.sub_self]; rfl
  · rw [if_neg h1]
    by_cases h2 : q < k
    · rw [if_pos h2, List.getElem?_map, List.getElem?_map, List.getElem?_take, if_pos h2]
    · rw [if_neg h2, show q - k = (q - k - 1) + 1 by omega]
      simp only [List.map_cons, List.map_nil, List.singleton_append, List.getElem?_cons_succ, List.getElem?_map, List.getElem?_drop]
      rw [show k + 1 + (q - k - 1) = q by omega]

theorem dl_clear {p : List Int → Bool} {xs : List (List Int)} {j : Nat} {us : List Value} (h : DlInv p xs j us) (hj : ¬ j < xs.length) : noUs (((dlRow p xs j us).take (dlRow p xs j us).length).drop (keepTo p xs j).length) = true := by
 have h2 := h.le
 rw [List.take_length]
 unfold dlRow
 rw [List.drop_of_length_le (i := j) (by omega), List.map_nil, List.append_nil, List.drop_append]
 rw [List.drop_of_length_le (by simp), List.nil_append]
 exact noUs_iff.2 fun y hy => by
  obtain ⟨v, _, rfl⟩ := List.mem_map.1 (List.mem_of_mem_drop hy)
  rfl

theorem dl_end {p : List Int → Bool} {xs : List (List Int)} {j : Nat} {us : List Value} {Z B : List D} (h : DlInv p xs j us) (hj : ¬ j < xs.length) : (((dlRow p xs j us).take (keepTo p xs j).length ++ Z ++ B).take (keepTo p xs j).length) = (xs.filter fun u => !p u).map intsU := by
 have h2 := h.le
 have h3 : keepTo p xs j = xs.filter fun u => !p u := by rw [keepTo, List.take_of_length_le (by omega)]
 rw [take_cut (by rw [dl_len h]; have := h.len; omega), ← h3]
 unfold dlRow
 rw [List.append_assoc, List.take_append_of_le_length (by simp), List.take_of_length_le (by simp)]

theorem intsU_sol (l : List Int) : (intsU l).solid = true := solid_row (fun _ => rfl) l

theorem sp_DeleteFunc_ints (xs : List (List Int)) (f : FuncId) (caps : List D) (p : List Int → Bool) (hf : Enters Tryz.prog f) (hp : ∀ x ∈ xs, Sp Tryz.prog f (intsD x :: caps) (.any :: anys caps) (.bool (p x))) (hn : xs.length ≤ 1048576) : Sp Tryz.prog 299 [(.slice true 1 (xs.map intsU)), (.fn f caps)] [.any, .any] (.slice true 1 ((xs.filter (fun u => !p u)).map intsU)) := by
 refine Sp_intro (lend := false) Tryz.func299 rfl rfl rfl (fun h => nomatch h) (fun c hc hX => ?_)
 have hixb := ixF_bounds p xs
 refine T_seq (T_region hc (Ch.s (.c (.slice none 0 0)) pa (Ch.nil (T_seq (T_region hc (Ch.s (.row 1) pm (Ch.s (.d (.fn f caps)) pm ?_)))))))
 refine Ch.s (.d (.int .i64 (ixF p xs))) (.call 10000 307 _ _ _ en307 rfl (.inl rfl) (.cons (.lend (.row rfl (frozs_to intsU_fz _))) (.cons (.d _) .nil)) rfl rfl (sp_IndexFunc_ints xs f caps p hf hp (by first | assumption | omega | (rw [List.length_take]; omega) | (have := bulkF_mem hb _ (getD_mem (d := default) (by omega)); assumption) | (unfold bulkS at *; omega) | (simp_all; done))) (.skip _ _ (.skip _ _ .nil)) rfl) (Ch.s (.d (.int .i64 (ixF p xs))) pa (Ch.nil (T_seq (T_seq (T_region hc (Ch.s (.d (.int .i64 (ixF p xs))) pm (Ch.s (.d (.bool (decide ((ixF p xs) = (-1))))) (.pure (.int _ _ _ _ _ rfl rfl rfl rfl)) ?_)))))))
 refine Ch.nil ?_
 refine T_cond (b := (decide ((ixF p xs) = (-1)))) rfl (fun h1 => ?_) (fun h1 => ?_)
 ·
  replace h1 := of_decide_eq_true h1
  refine T_seq (T_region hc (Ch.s (.row 1) pm (Ch.s (.row 1) pa (Ch.nil (T_ret ?_)))))
  exact endR [(.row 1)] [] [1] (.cons (.tmp 4 rfl) .nil) (.cons (.any _) (.cons (.any _) .nil)) (Exp.of (congrArg (D.slice true 1) (by first | (rw [ixF_all h1]; done) | (exact dl_end hp0 (by omega)))) (.row rfl)) rfl rfl
 ·
  replace h1 := of_decide_eq_false h1
  refine T_skip (T_seq (T_seq (T_region hc (Ch.s (.d (.int .i64 (ixF p xs))) pm (Ch.s (.d (.int .i64 ((ixF p xs) + 1))) (.pure (.int _ _ _ _ _ rfl rfl rfl intV_addA)) (Ch.s (.d (.int .i64 ((ixF p xs) + 1))) pa (Ch.nil ?_)))))))
  refine T_block ?_
  refine T_take 1 (ixF p xs).toNat 7900000 7900001 rfl (get_map intsU (dl_start (u := default) h1).2.2.2) rfl rfl (fun u0 => ?_)
  refine T_loop (ι := Nat × List Value) (fun q => { n := 42, sl := [(0, (.row 1)), (1, (.d (.fn f caps))), (5, (.d (.int .i64 (((keepTo p xs q.1).length : Nat) : Int)))), (6, (.d (.int .i64 ((q.1 : Nat) : Int))))], hp := [(1, (some (.row 1 (dlRow p xs q.1 q.2))))], pin := [1] }) (fun q => DlInv p xs q.1 q.2) (fun q => xs.length - q.1) ⟨((ixF p xs).toNat + 1, [u0]), ((dl_start h1).2.1), (Wk.of rfl rfl (ai rfl (ai rfl (ai (vI (by first | (have e := (dl_start (u := u0) h1).2.2.1; dsimp only; omega) | (have e := keepTo_yes (by omega) (by assumption : p (xs.getD q.1 default) = false); dsimp only; rw [e, List.length_append, List.length_singleton]; omega) | (have e := keepTo_no (by omega) (by assumption : p (xs.getD q.1 default) = true); dsimp only; rw [e]; done))) (ai (vI (by first | rfl | omega | (simp; done) | (simp; omega))) trivial)))) (ai (oR (by first | exact (dl_start h1).1 | exact (dl_keep hp0 (by omega) (by assumption)).1 | exact (dl_skip hp0 (by omega) (by assumption)).1)) trivial))⟩ (fun q hp0 => ?_)
  have hq1 := dl_len hp0; have hq2 := hp0.len; have hq3 := hp0.le; have hq4 := hp0.pos
  refine T_seq (T_seq (T_region hc (Ch.s (.d (.int .i64 ((q.1 : Nat) : Int))) pm (Ch.s (.row 1) pm (Ch.s (.d (.int .i64 (((dlRow p xs q.1 q.2).length : Nat) : Int))) (.pure (.len _ _ 55 rfl Tryz.underlying49 (.row rfl) rfl)) (Ch.s (.d (.bool (decide (((q.1 : Nat) : Int) < (((dlRow p xs q.1 q.2).length : Nat) : Int))))) (.pure (.int _ _ _ _ _ rfl rfl rfl rfl)) (Ch.nil ?_)))))))
  refine T_cond (b := (decide (((q.1 : Nat) : Int) < (((dlRow p xs q.1 q.2).length : Nat) : Int)))) rfl (fun h2 => ?_) (fun h2 => ?_)
  ·
   replace h2 := of_decide_eq_true h2
   refine T_skip (T_seq (T_block (T_seq ?_)))
   refine T_take 1 q.1 7000002 7000003 rfl (dl_at hp0 (by omega)) rfl rfl (fun u1 => ?_)
   refine T_region hc (Ch.s (.row 1) pm (Ch.s (.d (.int .i64 ((q.1 : Nat) : Int))) pm (Ch.s (.el 1 1 q.1 0) (.pure (.idxRow _ _ _ 55 (q.1) rfl Tryz.underlying49 sz55 rfl rfl rfl rfl (by first | omega | (simp only [List.length_map, List.length_set]; omega) | (simp; omega)))) (Ch.s (.row 7000002) (.pure (.loadHole (n := 7000002) (m := 7000003) (u := u1) _ _ rfl ag55 rfl rfl (get_set (by first | omega | (simp only [List.length_map, List.length_set]; omega) | (simp; omega))) rfl rfl)) (Ch.s (.row 7000002) pa (Ch.nil (T_seq ?_)))))))
   refine T_region hc (Ch.s (.d (.fn f caps)) pm (Ch.s (.row 7000002) pm ?_))
   refine Ch.step (v := (.d (.bool (p (xs.getD q.1 default))))) rfl (.call 28000 f _ #[.tmp 27] _ hf rfl (.inr ⟨caps, rfl, rfl⟩) (.cons (.lend (.row rfl (frozs_map (fun _ => rfl) _))) (exps_ds caps)) rfl (sol rfl (anys_one (anys_sol caps))) (hp _ (getD_mem (by omega))) (.skip _ _ (back_anys caps)) rfl) rfl rfl ?_
   refine Ch.s (.d (.bool (!(p (xs.getD q.1 default))))) (.pure (.not _ _ rfl rfl)) (Ch.nil ?_)
   refine T_cond (b := (!(p (xs.getD q.1 default)))) rfl (fun h3 => ?_) (fun h3 => ?_)
   ·
    replace h3 := nott h3
    refine T_seq (T_region hc (Ch.s (.row 1) pm (Ch.s (.d (.int .i64 (((keepTo p xs q.1).length : Nat) : Int))) pm (Ch.s (.row 7000002) pm (Ch.s (.el 1 1 ((keepTo p xs q.1).length) 0) (.pure (.idxRow _ _ _ 55 ((keepTo p xs q.1).length) rfl Tryz.underlying49 sz55 rfl rfl rfl rfl (by first | omega | (simp only [List.length_map, List.length_set]; omega) | (simp; omega)))) (Ch.s .junk (.storeElK (y' := (.slice true 1 ((xs.getD q.1 default).map (fun n : Int => D.int .i64 n)))) _ _ _ rfl rfl rfl (.row rfl) rfl rfl rfl sz55 rfl (dl_hole hp0 (by omega)) rfl rfl) (Ch.nil ?_)))))))
    refine T_region hc (Ch.s (.d (.int .i64 (((keepTo p xs q.1).length : Nat) : Int))) pm (Ch.s (.d (.int .i64 ((((keepTo p xs q.1).length : Nat) : Int) + 1))) (.pure (.int _ _ _ _ _ rfl rfl rfl intV_addA)) (Ch.s (.d (.int .i64 ((((keepTo p xs q.1).length : Nat) : Int) + 1))) pa (Ch.nil (T_region hc (Ch.s (.d (.int .i64 ((q.1 : Nat) : Int))) pm (Ch.s (.d (.int .i64 (((q.1 : Nat) : Int) + 1))) (.pure (.int _ _ _ _ _ rfl rfl rfl intV_addA)) ?_)))))))
    refine Ch.s (.d (.int .i64 (((q.1 : Nat) : Int) + 1))) pa (Ch.nil ?_)
    exact nx (q.1 + 1, q.2.tail ++ [u1]) (by first | exact (dl_keep (u := default) hp0 (by omega) (by assumption)).2 | exact (dl_skip (u := default) hp0 (by omega) (by assumption)).2 | exact (dl_keep hp0 (by omega) (by assumption)).2 | exact (dl_skip hp0 (by omega) (by assumption)).2) (Wk.of rfl rfl (ai rfl (ai rfl (ai (vI (by first | (have e := (dl_start (u := u0) h1).2.2.1; dsimp only; omega) | (have e := keepTo_yes (by omega) (by assumption : p (xs.getD q.1 default) = false); dsimp only; rw [e, List.length_append, List.length_singleton]; omega) | (have e := keepTo_no (by omega) (by assumption : p (xs.getD q.1 default) = true); dsimp only; rw [e]; done))) (ai (vI (by first | rfl | omega | (simp; done) | (simp; omega))) trivial)))) (ai (oR (by first | exact (dl_start h1).1 | exact (dl_keep hp0 (by omega) (by assumption)).1 | exact (dl_skip hp0 (by omega) (by assumption)).1)) trivial))
   ·
    replace h3 := notf h3
    refine T_skip (T_region hc (Ch.s (.d (.int .i64 ((q.1 : Nat) : Int))) pm (Ch.s (.d (.int .i64 (((q.1 : Nat) : Int) + 1))) (.pure (.int _ _ _ _ _ rfl rfl rfl intV_addA)) (Ch.s (.d (.int .i64 (((q.1 : Nat) : Int) + 1))) pa (Ch.nil ?_)))))
    exact nx (q.1 + 1, q.2 ++ [u1]) (by first | exact (dl_keep (u := default) hp0 (by omega) (by assumption)).2 | exact (dl_skip (u := default) hp0 (by omega) (by assumption)).2 | exact (dl_keep hp0 (by omega) (by assumption)).2 | exact (dl_skip hp0 (by omega) (by assumption)).2) (Wk.of rfl rfl (ai rfl (ai rfl (ai (vI (by first | (have e := (dl_start (u := u0) h1).2.2.1; dsimp only; omega) | (have e := keepTo_yes (by omega) (by assumption : p (xs.getD q.1 default) = false); dsimp only; rw [e, List.length_append, List.length_singleton]; omega) | (have e := keepTo_no (by omega) (by assumption : p (xs.getD q.1 default) = true); dsimp only; rw [e]; done))) (ai (vI (by first | rfl | omega | (simp; done) | (simp; omega))) trivial)))) (ai (oR (by first | exact (dl_start h1).1 | exact (dl_keep hp0 (by omega) (by assumption)).1 | exact (dl_skip hp0 (by omega) (by assumption)).1)) trivial))
  ·
   replace h2 := of_decide_eq_false h2
   refine T_exit (T_seq (T_region hc (Ch.s (.row 1) pm (Ch.s (.d (.int .i64 (((keepTo p xs q.1).length : Nat) : Int))) pm (Ch.s (.sub 1 1 ((keepTo p xs q.1).length) ((dlRow p xs q.1 q.2).length)) (.pure (.subRow _ _ _ _ 55 ((keepTo p xs q.1).length) ((dlRow p xs q.1 q.2).length) rfl Tryz.underlying49 sz55 rfl rfl (bndS rfl rfl) (bndN rfl) (by first | omega | (simp only [List.length_map, List.length_append, List.length_take, List.length_drop, List.length_cons, List.length_nil]; omega) | (simp; omega) | (simp; done)) (by first | omega | (simp only [List.length_map, List.length_append, List.length_take, List.length_drop, List.length_cons, List.length_nil]; omega) | (simp; omega) | (simp; done)))) (Ch.s .junk (.clearK _ _ 55 rfl sty49 rfl rfl (by first | omega | (simp only [List.length_map, List.length_append, List.length_take, List.length_drop, List.length_cons, List.length_nil]; omega) | (simp; omega) | (simp; done)) (dl_clear hp0 (by omega)) (zeroD_mk (zd := (.slice true 1 [])) zr55 (by intro S w; exact nil_reads true 1) rfl)) (Ch.nil ?_)))))))
   refine T_seq (T_region hc (Ch.s (.row 1) pm (Ch.s (.d (.int .i64 (((keepTo p xs q.1).length : Nat) : Int))) pm (Ch.s (.row 41000) (.cut 41000 _ _ _ 55 ((keepTo p xs q.1).length) rfl Tryz.underlying49 sz55 rfl rfl (bndS rfl rfl) (by first | omega | (simp only [List.length_map, List.length_append, List.length_take, List.length_drop, List.length_cons, List.length_nil]; omega) | (simp; omega) | (simp; done)) rfl) (Ch.s (.row 41000) pa (Ch.nil (T_ret ?_)))))))
   exact endR [(.row 41000)] [] [41000] (.cons (.tmp 4 rfl) .nil) (.cons (.any _) (.cons (.any _) .nil)) (Exp.of (congrArg (D.slice true 1) (by first | (rw [ixF_all h1]; done) | (exact dl_end hp0 (by omega)))) (.row rfl)) rfl rfl

def prIn (P : Nat → Nat → Bool) (i m : Nat) : List (List Int) := selTo m (fun k => decide (i < k) && P i k) fun k => [(i : Int), (k : Int)]

def prTo (P : Nat → Nat → Bool) (n k : Nat) : List (List Int) := (List.range k).flatMap fun i => prIn P i n

def prM (P : Nat → Nat → Bool) (n k m : Nat) : List (List Int) := prTo P n k ++ prIn P k m

theorem prIn_none (P : Nat → Nat → Bool) (i : Nat) {m : Nat} (h : m ≤ i + 1) : prIn P i m = [] := by
 unfold prIn selTo
 rw [List.map_eq_nil_iff, List.filter_eq_nil_iff]
 intro k hk
 have := List.mem_range.1 hk
 rw [decide_eq_false (by omega)]
 simp

theorem prM_start (P : Nat → Nat → Bool) (n k : Nat) : prTo P n k = prM P n k (k + 1) := by rw [prM, prIn_none P k (Nat.le_refl _), List.append_nil]

theorem prIn_all {P : Nat → Nat → Bool} {i n m : Nat} (h : n ≤ m) (h2 : m = n ∨ m ≤ i + 1) : prIn P i m = prIn P i n := by
  rcases h2 with rfl | h2
  · rfl
  · rw [prIn_none P i h2, prIn_none P i (by omega)]

theorem prM_end {P : Nat → Nat → Bool} {n k m : Nat} (h : n ≤ m) (h2 : m = n ∨ m ≤ k + 1) : prM P n k m = prTo P n (k + 1) := by
 rw [prM, prIn_all h h2]
 unfold prTo
 rw [List.range_succ, List.flatMap_append]
 simp

theorem prM_yes {P : Nat → Nat → Bool} {n k m : Nat} (hk : k < m) (h : P k m = true) : prM P n k m ++ [[(k : Int), (m : Int)]] = prM P n k (m + 1) := by
 have : prIn P k m ++ [[(k : Int), (m : Int)]] = prIn P k (m + 1) := selTo_yes (by rw [h, decide_eq_true hk]; rfl)
 rw [prM, List.append_assoc, this]; rfl

theorem prM_no {P : Nat → Nat → Bool} {n k m : Nat} (h : P k m = false) : prM P n k m = prM P n k (m + 1) := by
 have : prIn P k m = prIn P k (m + 1) := selTo_no (by rw [h, Bool.and_false])
 rw [prM, this]; rfl

theorem prIn_le (P : Nat → Nat → Bool) (i m : Nat) : (prIn P i m).length ≤ m := selTo_le _ _ _

theorem prTo_le (P : Nat → Nat → Bool) {n : Nat} (hn : n ≤ 300) : ∀ k, (prTo P n k).length ≤ k * 300
 | 0 => Nat.le_refl 0
 | k + 1 => by
  have h1 := prTo_le P hn k
  have h2 := prIn_le P k n
  have e : (prTo P n (k + 1)).length = (prTo P n k).length + (prIn P k n).length := by
   unfold prTo
   rw [List.range_succ, List.flatMap_append, List.length_append]; simp
  omega

theorem prM_le (P : Nat → Nat → Bool) {n k m : Nat} (hn : n ≤ 300) (hk : k ≤ 300) (hm : m ≤ 301) : (prM P n k m).length ≤ 100000 := by
 have h1 := prTo_le P hn k
 have h2 := prIn_le P k m
 rw [prM, List.length_append]
 omega

theorem prTo_in {P : Nat → Nat → Bool} {n k : Nat} (hk : k ≤ n) : ∀ pr ∈ prTo P n k, pr.length = 2 ∧ (0 ≤ pr.getD 0 default ∧ (pr.getD 0 default).toNat < n) ∧ (0 ≤ pr.getD 1 default ∧ (pr.getD 1 default).toNat < n) := by
  intro pr hpr
  obtain ⟨i, hi, hp⟩ := List.mem_flatMap.1 hpr
  obtain ⟨j, hj, rfl⟩ := List.mem_map.1 hp
  have h1 := List.mem_range.1 hi
  have h2 := List.mem_range.1 (List.mem_filter.1 hj).1
  refine ⟨rfl, ?_, ?_⟩
  · show (0 : Int) ≤ (i : Int) ∧ ((i : Int)).toNat < n
    omega
  · show (0 : Int) ≤ (j : Int) ∧ ((j : Int)).toNat < n
    omega

theorem selTo_filter {τ : Type} (n : Nat) (p : Nat → Bool) (f : Nat → τ) (q : τ → Bool) : (selTo n p f).filter q = selTo n (fun j => p j && q (f j)) f := by
 unfold selTo
 rw [List.filter_map, List.filter_filter]
 congr 1
 apply List.filter_congr
 intro j _
 simp [Bool.and_comm]

theorem prTo_filter (P : Nat → Nat → Bool) (Q : List Int → Bool) (n k : Nat) : (prTo P n k).filter Q = prTo (fun i j => P i j && Q [(i : Int), (j : Int)]) n k := by
 unfold prTo
 rw [List.filter_flatMap]
 congr 1
 funext i
 unfold prIn
 rw [selTo_filter]
 congr 1
 funext j
 rw [Bool.and_assoc]

theorem flatMap_cong {σ τ : Type} {f g : σ → List τ} : ∀ {l : List σ}, (∀ a ∈ l, f a = g a) → l.flatMap f = l.flatMap g
 | [], _ => rfl
 | a :: l, h => by rw [List.flatMap_cons, List.flatMap_cons, h a List.mem_cons_self, flatMap_cong fun b hb => h b (List.mem_cons_of_mem _ hb)]

theorem prTo_congr {P Q : Nat → Nat → Bool} {n k : Nat} (hk : k ≤ n) (h : ∀ i j, i < n → j < n → P i j = Q i j) : prTo P n k = prTo Q n k := by
 unfold prTo
 apply flatMap_cong
 intro i hi
 have h1 := List.mem_range.1 hi
 unfold prIn selTo
 congr 1
 apply List.filter_congr
 intro j hj
 have h2 := List.mem_range.1 hj
 rw [h i j (by omega) h2]

def eqP (x : Sgr) (i k : Nat) : Bool := decide (x.codes.getD i default = x.codes.getD k default)

def cfS (x : Sgr) (pr : List Int) (s : Int) : Bool := !decide ((!excB x (pr.getD 0 default) s) = (!excB x (pr.getD 1 default) s))

def cfD (x : Sgr) (i k : Nat) : Bool := (outsL x.sigs).any fun s => excB x (i : Int) s != excB x (k : Int) s

def cfP (x : Sgr) (i k : Nat) : Bool := eqP x i k && cfD x i k

def cfL (x : Sgr) : List (List Int) := prTo (cfP x) x.codes.length x.codes.length

theorem cf_filter (x : Sgr) : (prTo (eqP x) x.codes.length x.codes.length).filter (fun u => !(fun pr => !(outsL x.sigs).any (cfS x pr)) u) = cfL x := by
  rw [prTo_filter]
  unfold cfL
  apply prTo_congr (Nat.le_refl _)
  intro i j _ _
  unfold cfP cfD
  rw [Bool.not_not]
  congr 1
  congr 1
  funext s
  unfold cfS
  show (!decide ((!excB x (i : Int) s) = (!excB x (j : Int) s))) = _
  cases excB x (i : Int) s <;> cases excB x (j : Int) s <;> rfl

theorem cfS_eq {x : Sgr} {pr : List Int} {s : Int} (hx : SgOk x) (h0 : 0 ≤ pr.getD 0 default ∧ (pr.getD 0 default).toNat < x.codes.length) (h1 : 0 ≤ pr.getD 1 default ∧ (pr.getD 1 default).toNat < x.codes.length) (hs : 0 ≤ s) :
  (!decide (decide (((two ((masksL x).getD (pr.getD 0 default).toNat default) (2 * s).toNat : Nat) : Int) = 0) = decide (((two ((masksL x).getD (pr.getD 1 default).toNat default) (2 * s).toNat : Nat) : Int) = 0))) = cfS x pr s := by
 rw [two_exc hx hs h0, two_exc hx hs h1]; rfl

set_option maxHeartbeats 1000000 in
theorem sp_impl_equalCodes (x : Sgr) (hb : x.bulk ≤ 1048576) (hx : SgOk x) : Sp Tryz.prog 300 [(.agg [(.slice false 2 (x.sigs.map Sgn.d)), (.slice false 1 (x.codes.map D.str)), (.slice false 4 (x.arcs.map Arc.d))])] [.any] (.slice true 1 ((prTo (eqP x) x.codes.length x.codes.length).map intsU)) := by
 refine Sp_intro (lend := true) Tryz.func300 rfl rfl rfl (fun _ => rfl) (fun c hc hX => ?_)
 obtain ⟨hp0, hp1, hp2⟩ := Sgr.parts hb
 have hn0 := bulkF_len hp0
 have hn1 := bulk_len hp1
 have hx1 := bulk_mem hp1
 have hn2 := bulkF_len hp2; have hx8 := hx.eight; have hxl := hx.len; have hxf := hx.few
 refine T_seq (T_region hc (Ch.s (.ptr 1000 0) (.box 1000 _ _ rfl (.aggD _)) (Ch.s (.c (.slice none 0 0)) pa (Ch.nil (T_seq (T_region hc (Ch.s (.row 7000) (.slice 7000 _ 55 _ rfl sty49 (xs := []) rfl rfl .nil rfl rfl (by decide)) ?_)))))))
 refine Ch.s (.row 7000) pa (Ch.nil (T_seq (T_seq (T_region hc (Ch.s (.ptr 1000 1) (.pure (.fldPtr _ _ _ rfl fld35_1 rfl)) (Ch.s (.d (.slice false 1 (x.codes.map D.str))) (.pure (.loadPtr1 _ _ rfl ag23 rfl rfl rfl)) (Ch.s (.d (.int .i64 ((x.codes.length : Nat) : Int))) (.pure (.len _ _ 9 rfl Tryz.underlying23 (.sh _ _) (by simp))) ?_)))))))
 refine Ch.s (.d (.int .i64 0)) pm (Ch.nil (T_block ?_))
 refine T_loop (ι := Nat) (fun k => { n := 40, sl := [(1, (.ptr 1000 0)), (3, (.row 3)), (9, (.d (.slice false 1 (x.codes.map D.str)))), (10, (.d (.int .i64 ((x.codes.length : Nat) : Int)))), (11, (.d (.int .i64 ((k : Nat) : Int))))], hp := [(3, (some (.row 1 ((prTo (eqP x) x.codes.length k).map intsU)))), (1000, (some (.box [(.d (.slice false 2 (x.sigs.map Sgn.d))), (.d (.slice false 1 (x.codes.map D.str))), (.d (.slice false 4 (x.arcs.map Arc.d)))])))], pin := [] }) (fun k => k ≤ x.codes.length) (fun k => x.codes.length - k) ⟨0, (by omega), (Wk.ren [(3, 7000)] rfl rfl rfl rfl (ai rfl (ai rfl (ai rfl (ai rfl (ai (vI (by first | rfl | omega | (simp; done) | (simp; omega))) trivial))))) (ai (oR (by first | rfl | (rw [prM_end (by omega) (by omega)]; done))) (ai rfl trivial)))⟩ (fun k hp0 => ?_)
 refine T_seq (T_region hc (Ch.s (.d (.bool (decide (((k : Nat) : Int) < ((x.codes.length : Nat) : Int))))) (.pure (.int _ _ _ _ _ rfl rfl rfl rfl)) (Ch.nil (T_seq ?_))))
 refine T_cond (b := (decide (((k : Nat) : Int) < ((x.codes.length : Nat) : Int)))) rfl (fun h1 => ?_) (fun h1 => ?_)
 ·
  replace h1 := of_decide_eq_true h1
  refine T_skip (T_seq (T_block (T_seq (T_region hc (Ch.s (.d (.int .i64 ((k : Nat) : Int))) pm (Ch.s (.d (.ref (.str (x.codes.getD k default)))) (.pure (.idx _ _ _ 9 (k) rfl Tryz.underlying23 sz9 rfl rfl rfl get_mapA)) (Ch.s (.d (.str (x.codes.getD k default))) (.pure (.loadRef1 _ _ rfl ag9 rfl rfl)) ?_)))))))
  refine Ch.s (.d (.int .i64 ((k : Nat) : Int))) pa (Ch.s (.d (.str (x.codes.getD k default))) pa (Ch.nil (T_seq (T_region hc (Ch.s (.d (.int .i64 ((k : Nat) : Int))) pm (Ch.s (.d (.int .i64 (((k : Nat) : Int) + 1))) (.pure (.int _ _ _ _ _ rfl rfl rfl intV_addA)) (Ch.s (.d (.int .i64 (((k : Nat) : Int) + 1))) pa ?_)))))))
  refine Ch.nil (T_block ?_)
  refine T_loop (ι := Nat) (fun m => { n := 40, sl := [(1, (.ptr 1000 0)), (3, (.row 3)), (4, (.d (.int .i64 ((k : Nat) : Int)))), (5, (.d (.str (x.codes.getD k default)))), (6, (.d (.int .i64 ((m : Nat) : Int)))), (9, (.d (.slice false 1 (x.codes.map D.str)))), (10, (.d (.int .i64 ((x.codes.length : Nat) : Int)))), (11, (.d (.int .i64 ((k : Nat) : Int))))], hp := [(3, (some (.row 1 ((prM (eqP x) x.codes.length k m).map intsU)))), (1000, (some (.box [(.d (.slice false 2 (x.sigs.map Sgn.d))), (.d (.slice false 1 (x.codes.map D.str))), (.d (.slice false 4 (x.arcs.map Arc.d)))])))], pin := [] }) (fun m => k < m ∧ m ≤ x.codes.length) (fun m => x.codes.length - m) ⟨k + 1, ⟨by omega, by omega⟩, (Wk.of rfl rfl (ai rfl (ai rfl (ai rfl (ai rfl (ai (vI (by first | rfl | omega | (simp; done) | (simp; omega))) (ai rfl (ai rfl (ai rfl trivial)))))))) (ai (oR (by first | (exact congrArg (List.map _) (prM_start _ _ _)) | (exact push rfl (prM_yes (by omega) (by first | exact decide_eq_true (by assumption) | exact decide_eq_true (Eq.symm (by assumption))))) | (exact congrArg (List.map _) (prM_no (by first | exact decide_eq_false (by assumption) | exact decide_eq_false (fun e => (by assumption : ¬ _) e.symm)))))) (ai rfl trivial)))⟩ (fun m hp1 => ?_)
  have hq := prM_le (eqP x) (n := x.codes.length) (k := k) (m := m) (by omega) (by omega) (by omega)
  refine T_seq (T_seq (T_region hc (Ch.s (.d (.int .i64 ((m : Nat) : Int))) pm (Ch.s (.ptr 1000 1) (.pure (.fldPtr _ _ _ rfl fld35_1 rfl)) (Ch.s (.d (.slice false 1 (x.codes.map D.str))) (.pure (.loadPtr1 _ _ rfl ag23 rfl rfl rfl)) (Ch.s (.d (.int .i64 ((x.codes.length : Nat) : Int))) (.pure (.len _ _ 9 rfl Tryz.underlying23 (.sh _ _) (by simp))) (Ch.s (.d (.bool (decide (((m : Nat) : Int) < ((x.codes.length : Nat) : Int))))) (.pure (.int _ _ _ _ _ rfl rfl rfl rfl)) ?_)))))))
  refine Ch.nil ?_
  refine T_cond (b := (decide (((m : Nat) : Int) < ((x.codes.length : Nat) : Int)))) rfl (fun h2 => ?_) (fun h2 => ?_)
  ·
   replace h2 := of_decide_eq_true h2
   refine T_skip (T_seq (T_block (T_seq (T_region hc (Ch.s (.ptr 1000 1) (.pure (.fldPtr _ _ _ rfl fld35_1 rfl)) (Ch.s (.d (.slice false 1 (x.codes.map D.str))) (.pure (.loadPtr1 _ _ rfl ag23 rfl rfl rfl)) (Ch.s (.d (.int .i64 ((m : Nat) : Int))) pm ?_)))))))
   refine Ch.s (.d (.ref (.str (x.codes.getD m default)))) (.pure (.idx _ _ _ 9 (m) rfl Tryz.underlying23 sz9 rfl rfl rfl get_mapA)) (Ch.s (.d (.str (x.codes.getD m default))) (.pure (.loadRef1 _ _ rfl ag9 rfl rfl)) (Ch.s (.d (.str (x.codes.getD k default))) pm (Ch.s (.d (.bool (decide ((x.codes.getD m default) = (x.codes.getD k default))))) (.pure (.str _ _ _ _ _ rfl rfl rfl rfl)) (Ch.nil ?_))))
   refine T_cond (b := (decide ((x.codes.getD m default) = (x.codes.getD k default)))) rfl (fun h3 => ?_) (fun h3 => ?_)
   ·
    replace h3 := of_decide_eq_true h3
    refine T_region hc (Ch.s (.row 3) pm (Ch.s (.d (.int .i64 ((k : Nat) : Int))) pm (Ch.s (.d (.int .i64 ((m : Nat) : Int))) pm (Ch.s (.row 35000) (.slice 35000 _ 3 _ rfl sty55 (xs := [.tmp 33, .tmp 34]) rfl rfl (.cons (.d _) (.cons (.d _) .nil)) rfl rfl (by decide)) (Ch.s (.row 36000) (.slice 36000 _ 55 _ rfl sty49 (xs := [.tmp 35]) rfl rfl (.cons (.row rfl) .nil) rfl rfl (by decide)) ?_)))))
    refine Ch.step (v := (.row 37000)) rfl (.append 37000 _ _ _ 55 rfl sty49 (by decide) (.rowK rfl) (.inr ⟨_, rfl, rfl⟩) (.rowK rfl) rfl (by first | omega | (simp only [List.length_append, List.length_map, List.length_cons, List.length_nil]; omega) | (simp; omega) | (simp; done))) rfl rfl ?_
    refine Ch.s (.row 37000) pa (Ch.nil (T_region hc (Ch.s (.d (.int .i64 ((m : Nat) : Int))) pm (Ch.s (.d (.int .i64 (((m : Nat) : Int) + 1))) (.pure (.int _ _ _ _ _ rfl rfl rfl intV_addA)) (Ch.s (.d (.int .i64 (((m : Nat) : Int) + 1))) pa (Ch.nil ?_))))))
    exact nx (m + 1) ⟨by omega, by omega⟩ (Wk.ren [(3, 37000)] rfl rfl rfl rfl (ai rfl (ai rfl (ai rfl (ai rfl (ai (vI (by first | rfl | omega | (simp; done) | (simp; omega))) (ai rfl (ai rfl (ai rfl trivial)))))))) (ai (oR (by first | (exact congrArg (List.map _) (prM_start _ _ _)) | (exact push rfl (prM_yes (by omega) (by first | exact decide_eq_true (by assumption) | exact decide_eq_true (Eq.symm (by assumption))))) | (exact congrArg (List.map _) (prM_no (by first | exact decide_eq_false (by assumption) | exact decide_eq_false (fun e => (by assumption : ¬ _) e.symm)))))) (ai rfl trivial)))
   ·
    replace h3 := of_decide_eq_false h3
    refine T_skip (T_region hc (Ch.s (.d (.int .i64 ((m : Nat) : Int))) pm (Ch.s (.d (.int .i64 (((m : Nat) : Int) + 1))) (.pure (.int _ _ _ _ _ rfl rfl rfl intV_addA)) (Ch.s (.d (.int .i64 (((m : Nat) : Int) + 1))) pa (Ch.nil ?_)))))
    exact nx (m + 1) ⟨by omega, by omega⟩ (Wk.of rfl rfl (ai rfl (ai rfl (ai rfl (ai rfl (ai (vI (by first | rfl | omega | (simp; done) | (simp; omega))) (ai rfl (ai rfl (ai rfl trivial)))))))) (ai (oR (by first | (exact congrArg (List.map _) (prM_start _ _ _)) | (exact push rfl (prM_yes (by omega) (by first | exact decide_eq_true (by assumption) | exact decide_eq_true (Eq.symm (by assumption))))) | (exact congrArg (List.map _) (prM_no (by first | exact decide_eq_false (by assumption) | exact decide_eq_false (fun e => (by assumption : ¬ _) e.symm)))))) (ai rfl trivial)))
  ·
   replace h2 := of_decide_eq_false h2
   refine T_exit (T_region hc (Ch.s (.d (.int .i64 (((k : Nat) : Int) + 1))) (.pure (.int _ _ _ _ _ rfl rfl rfl intV_addA)) (Ch.s (.d (.int .i64 (((k : Nat) : Int) + 1))) pm (Ch.nil ?_))))
   exact nx (k + 1) (by omega) (Wk.of rfl rfl (ai rfl (ai rfl (ai rfl (ai rfl (ai (vI (by first | rfl | omega | (simp; done) | (simp; omega))) trivial))))) (ai (oR (by first | rfl | (rw [prM_end (by omega) (by omega)]; done))) (ai rfl trivial)))
 ·
  replace h1 := of_decide_eq_false h1
  refine T_exit (T_seq (T_region hc (Ch.s (.row 3) pm (Ch.s (.row 3) pa (Ch.nil (T_ret ?_))))))
  exact endR [(.row 3)] [] [3] (.cons (.tmp 2 rfl) .nil) (.cons (.any _) .nil) (Exp.of (congrArg (D.slice true 1) (by rw [show x.codes.length = k by omega])) (.row rfl)) rfl rfl

set_option maxHeartbeats 1000000 in
theorem sp_spec_l6Pairs (x : Sgr) (hb : x.bulk ≤ 1048576) (hx : SgOk x) : Sp Tryz.prog 221 [(.agg [(.slice false 2 (x.sigs.map Sgn.d)), (.slice false 1 (x.codes.map D.str)), (.slice false 4 (x.arcs.map Arc.d))])] [.any] (.slice true 1 ((prTo (eqP x) x.codes.length x.codes.length).map intsU)) := by
 refine Sp_intro (lend := true) Tryz.func221 rfl rfl rfl (fun _ => rfl) (fun c hc hX => ?_)
 obtain ⟨hp0, hp1, hp2⟩ := Sgr.parts hb
 have hn0 := bulkF_len hp0
 have hn1 := bulk_len hp1
 have hx1 := bulk_mem hp1
 have hn2 := bulkF_len hp2; have hx8 := hx.eight; have hxl := hx.len; have hxf := hx.few
 refine T_seq (T_region hc (Ch.s (.ptr 1000 0) (.box 1000 _ _ rfl (.aggD _)) (Ch.s (.c (.slice none 0 0)) pa (Ch.nil (T_seq (T_region hc (Ch.s (.c (.slice none 0 0)) pa ?_)))))))
 refine Ch.nil (T_seq (T_seq (T_region hc (Ch.s (.ptr 1000 1) (.pure (.fldPtr _ _ _ rfl fld35_1 rfl)) (Ch.s (.d (.slice false 1 (x.codes.map D.str))) (.pure (.loadPtr1 _ _ rfl ag23 rfl rfl rfl)) (Ch.s (.d (.int .i64 ((x.codes.length : Nat) : Int))) (.pure (.len _ _ 9 rfl Tryz.underlying23 (.sh _ _) (by simp))) (Ch.s (.d (.int .i64 0)) pm ?_)))))))
 refine Ch.nil (T_block ?_)
 refine T_loop (ι := Nat) (fun k => { n := 40, sl := [(1, (.ptr 1000 0)), (3, (.row 3)), (8, (.d (.int .i64 ((x.codes.length : Nat) : Int)))), (9, (.d (.int .i64 ((k : Nat) : Int))))], hp := [(3, (some (.row 1 ((prTo (eqP x) x.codes.length k).map intsU)))), (1000, (some (.box [(.d (.slice false 2 (x.sigs.map Sgn.d))), (.d (.slice false 1 (x.codes.map D.str))), (.d (.slice false 4 (x.arcs.map Arc.d)))])))], pin := [] }) (fun k => k ≤ x.codes.length) (fun k => x.codes.length - k) ⟨0, (by omega), (Wk.trans (Wk.nilrow 3 900003 1 rfl rfl rfl) (Wk.ren [(3, 900003)] rfl rfl rfl rfl (ai rfl (ai rfl (ai rfl (ai (vI (by first | rfl | omega | (simp; done) | (simp; omega))) trivial)))) (ai (oR (by first | rfl | (rw [prM_end (by omega) (by omega)]; done))) (ai rfl trivial))))⟩ (fun k hp0 => ?_)
 refine T_seq (T_region hc (Ch.s (.d (.bool (decide (((k : Nat) : Int) < ((x.codes.length : Nat) : Int))))) (.pure (.int _ _ _ _ _ rfl rfl rfl rfl)) (Ch.nil (T_seq ?_))))
 refine T_cond (b := (decide (((k : Nat) : Int) < ((x.codes.length : Nat) : Int)))) rfl (fun h1 => ?_) (fun h1 => ?_)
 ·
  replace h1 := of_decide_eq_true h1
  refine T_skip (T_seq (T_block (T_seq (T_region hc (Ch.s (.d (.int .i64 ((k : Nat) : Int))) pm (Ch.s (.d (.int .i64 ((k : Nat) : Int))) pa (Ch.nil ?_)))))))
  refine T_seq (T_region hc (Ch.s (.d (.int .i64 ((k : Nat) : Int))) pm (Ch.s (.d (.int .i64 (((k : Nat) : Int) + 1))) (.pure (.int _ _ _ _ _ rfl rfl rfl intV_addA)) (Ch.s (.d (.int .i64 (((k : Nat) : Int) + 1))) pa (Ch.nil (T_block ?_))))))
  refine T_loop (ι := Nat) (fun m => { n := 40, sl := [(1, (.ptr 1000 0)), (3, (.row 3)), (4, (.d (.int .i64 ((k : Nat) : Int)))), (5, (.d (.int .i64 ((m : Nat) : Int)))), (8, (.d (.int .i64 ((x.codes.length : Nat) : Int)))), (9, (.d (.int .i64 ((k : Nat) : Int))))], hp := [(3, (some (.row 1 ((prM (eqP x) x.codes.length k m).map intsU)))), (1000, (some (.box [(.d (.slice false 2 (x.sigs.map Sgn.d))), (.d (.slice false 1 (x.codes.map D.str))), (.d (.slice false 4 (x.arcs.map Arc.d)))])))], pin := [] }) (fun m => k < m ∧ m ≤ x.codes.length) (fun m => x.codes.length - m) ⟨k + 1, ⟨by omega, by omega⟩, (Wk.of rfl rfl (ai rfl (ai rfl (ai rfl (ai (vI (by first | rfl | omega | (simp; done) | (simp; omega))) (ai rfl (ai rfl trivial)))))) (ai (oR (by first | (exact congrArg (List.map _) (prM_start _ _ _)) | (exact push rfl (prM_yes (by omega) (by first | exact decide_eq_true (by assumption) | exact decide_eq_true (Eq.symm (by assumption))))) | (exact congrArg (List.map _) (prM_no (by first | exact decide_eq_false (by assumption) | exact decide_eq_false (fun e => (by assumption : ¬ _) e.symm)))))) (ai rfl trivial)))⟩ (fun m hp1 => ?_)
  have hq := prM_le (eqP x) (n := x.codes.length) (k := k) (m := m) (by omega) (by omega) (by omega)
  refine T_seq (T_seq (T_region hc (Ch.s (.d (.int .i64 ((m : Nat) : Int))) pm (Ch.s (.ptr 1000 1) (.pure (.fldPtr _ _ _ rfl fld35_1 rfl)) (Ch.s (.d (.slice false 1 (x.codes.map D.str))) (.pure (.loadPtr1 _ _ rfl ag23 rfl rfl rfl)) (Ch.s (.d (.int .i64 ((x.codes.length : Nat) : Int))) (.pure (.len _ _ 9 rfl Tryz.underlying23 (.sh _ _) (by simp))) (Ch.s (.d (.bool (decide (((m : Nat) : Int) < ((x.codes.length : Nat) : Int))))) (.pure (.int _ _ _ _ _ rfl rfl rfl rfl)) ?_)))))))
  refine Ch.nil ?_
  refine T_cond (b := (decide (((m : Nat) : Int) < ((x.codes.length : Nat) : Int)))) rfl (fun h2 => ?_) (fun h2 => ?_)
  ·
   replace h2 := of_decide_eq_true h2
   refine T_skip (T_seq (T_block (T_seq ?_)))
   refine T_regionD hc (by kernel_rfl) ?_
   refine ChD.s (.ptr 1000 1) [] (.pure (.fldPtr _ _ _ rfl fld35_1 rfl)) (ChD.s (.d (.slice false 1 (x.codes.map D.str))) [1000] (.pure (.loadPtr1 _ _ rfl ag23 rfl rfl rfl)) (ChD.s (.d (.int .i64 ((k : Nat) : Int))) [] pm (ChD.s (.d (.ref (.str (x.codes.getD k default)))) [] (.pure (.idx _ _ _ 9 (k) rfl Tryz.underlying23 sz9 rfl rfl rfl get_mapA)) (ChD.s (.d (.str (x.codes.getD k default))) [] (.pure (.loadRef1 _ _ rfl ag9 rfl rfl)) (ChD.s (.ptr 1000 1) [] (.pure (.fldPtr _ _ _ rfl fld35_1 rfl)) (ChD.s (.d (.slice false 1 (x.codes.map D.str))) [1000] (.pure (.loadPtr1 _ _ rfl ag23 rfl rfl rfl)) (ChD.s (.d (.int .i64 ((m : Nat) : Int))) [] pm ?_)))))))
   refine ChD.s (.d (.ref (.str (x.codes.getD m default)))) [] (.pure (.idx _ _ _ 9 (m) rfl Tryz.underlying23 sz9 rfl rfl rfl get_mapA)) (ChD.s (.d (.str (x.codes.getD m default))) [] (.pure (.loadRef1 _ _ rfl ag9 rfl rfl)) (ChD.s (.d (.bool (decide ((x.codes.getD k default) = (x.codes.getD m default))))) [] (.pure (.str _ _ _ _ _ rfl rfl rfl rfl)) ?_))
   refine ChD.nil (And.intro ?_ (by kernel_rfl))
   refine T_cond (b := (decide ((x.codes.getD k default) = (x.codes.getD m default)))) rfl (fun h3 => ?_) (fun h3 => ?_)
   ·
    replace h3 := of_decide_eq_true h3
    refine T_region hc (Ch.s (.row 3) pm (Ch.s (.d (.int .i64 ((k : Nat) : Int))) pm (Ch.s (.d (.int .i64 ((m : Nat) : Int))) pm (Ch.s (.row 35000) (.slice 35000 _ 3 _ rfl sty55 (xs := [.tmp 33, .tmp 34]) rfl rfl (.cons (.d _) (.cons (.d _) .nil)) rfl rfl (by decide)) (Ch.s (.row 36000) (.slice 36000 _ 55 _ rfl sty49 (xs := [.tmp 35]) rfl rfl (.cons (.row rfl) .nil) rfl rfl (by decide)) ?_)))))
    refine Ch.step (v := (.row 37000)) rfl (.append 37000 _ _ _ 55 rfl sty49 (by decide) (.rowK rfl) (.inr ⟨_, rfl, rfl⟩) (.rowK rfl) rfl (by first | omega | (simp only [List.length_append, List.length_map, List.length_cons, List.length_nil]; omega) | (simp; omega) | (simp; done))) rfl rfl ?_
    refine Ch.s (.row 37000) pa (Ch.nil (T_region hc (Ch.s (.d (.int .i64 ((m : Nat) : Int))) pm (Ch.s (.d (.int .i64 (((m : Nat) : Int) + 1))) (.pure (.int _ _ _ _ _ rfl rfl rfl intV_addA)) (Ch.s (.d (.int .i64 (((m : Nat) : Int) + 1))) pa (Ch.nil ?_))))))
    exact nx (m + 1) ⟨by omega, by omega⟩ (Wk.ren [(3, 37000)] rfl rfl rfl rfl (ai rfl (ai rfl (ai rfl (ai (vI (by first | rfl | omega | (simp; done) | (simp; omega))) (ai rfl (ai rfl trivial)))))) (ai (oR (by first | (exact congrArg (List.map _) (prM_start _ _ _)) | (exact push rfl (prM_yes (by omega) (by first | exact decide_eq_true (by assumption) | exact decide_eq_true (Eq.symm (by assumption))))) | (exact congrArg (List.map _) (prM_no (by first | exact decide_eq_false (by assumption) | exact decide_eq_false (fun e => (by assumption : ¬ _) e.symm)))))) (ai rfl trivial)))
   ·
    replace h3 := of_decide_eq_false h3
    refine T_skip (T_region hc (Ch.s (.d (.int .i64 ((m : Nat) : Int))) pm (Ch.s (.d (.int .i64 (((m : Nat) : Int) + 1))) (.pure (.int _ _ _ _ _ rfl rfl rfl intV_addA)) (Ch.s (.d (.int .i64 (((m : Nat) : Int) + 1))) pa (Ch.nil ?_)))))
    exact nx (m + 1) ⟨by omega, by omega⟩ (Wk.of rfl rfl (ai rfl (ai rfl (ai rfl (ai (vI (by first | rfl | omega | (simp; done) | (simp; omega))) (ai rfl (ai rfl trivial)))))) (ai (oR (by first | (exact congrArg (List.map _) (prM_start _ _ _)) | (exact push rfl (prM_yes (by omega) (by first | exact decide_eq_true (by assumption) | exact decide_eq_true (Eq.symm (by assumption))))) | (exact congrArg (List.map _) (prM_no (by first | exact decide_eq_false (by assumption) | exact decide_eq_false (fun e => (by assumption : ¬ _) e.symm)))))) (ai rfl trivial)))
  ·
   replace h2 := of_decide_eq_false h2
   refine T_exit (T_region hc (Ch.s (.d (.int .i64 (((k : Nat) : Int) + 1))) (.pure (.int _ _ _ _ _ rfl rfl rfl intV_addA)) (Ch.s (.d (.int .i64 (((k : Nat) : Int) + 1))) pm (Ch.nil ?_))))
   exact nx (k + 1) (by omega) (Wk.of rfl rfl (ai rfl (ai rfl (ai rfl (ai (vI (by first | rfl | omega | (simp; done) | (simp; omega))) trivial)))) (ai (oR (by first | rfl | (rw [prM_end (by omega) (by omega)]; done))) (ai rfl trivial)))
 ·
  replace h1 := of_decide_eq_false h1
  refine T_exit (T_seq (T_region hc (Ch.s (.row 3) pm (Ch.s (.row 3) pa (Ch.nil (T_ret ?_))))))
  exact endR [(.row 3)] [] [3] (.cons (.tmp 2 rfl) .nil) (.cons (.any _) .nil) (Exp.of (congrArg (D.slice true 1) (by rw [show x.codes.length = k by omega])) (.row rfl)) rfl rfl

theorem sp_conflicts_in (s : Int) (x : Sgr) (pr : List Int) (hs : 0 ≤ s ∧ s.toNat < x.sigs.length) (hx : SgOk x) (hpr : pr.length = 2 ∧ (0 ≤ pr.getD 0 default ∧ (pr.getD 0 default).toNat < x.codes.length) ∧ (0 ≤ pr.getD 1 default ∧ (pr.getD 1 default).toNat < x.codes.length)) : Sp Tryz.prog 303 [(.int .i64 s), (.ref (.slice false 1 ((masksL x).map (fun n : Nat => D.int .i64 (n : Int))))), (.ref (.slice false 1 (pr.map (fun n : Int => D.int .i64 n))))] [.any, .any, .any] (.bool (cfS x pr s)) := by
 refine Sp_intro (lend := true) Tryz.func303 rfl rfl rfl (fun _ => rfl) (fun c hc hX => ?_)
 have hx8 := hx.eight; have hml : (masksL x).length = x.codes.length := masksTo_len x _
 refine T_seq (T_region hc (Ch.s (.d (.bool false)) pa (Ch.nil (T_seq ?_))))
 refine T_regionD hc (by kernel_rfl) ?_
 refine ChD.s (.d (.slice false 1 ((masksL x).map (fun n : Nat => D.int .i64 (n : Int))))) [] (.pure (.loadRef1 _ _ rfl ag55 rfl rfl)) (ChD.s (.d (.slice false 1 (pr.map (fun n : Int => D.int .i64 n)))) [] (.pure (.loadRef1 _ _ rfl ag55 rfl rfl)) (ChD.s (.d (.ref (.int .i64 (pr.getD 0 default)))) [] (.pure (.idx _ _ _ 3 (0) rfl Tryz.underlying55 sz3 rfl rfl rfl get_mapA)) (ChD.s (.d (.int .i64 (pr.getD 0 default))) [] (.pure (.loadRef1 _ _ rfl ag3 rfl rfl)) (ChD.s (.d (.ref (.int .i64 ((((masksL x).getD (((pr.getD 0 default)).toNat) default) : Nat) : Int)))) [] (.pure (.idx _ _ _ 3 (((pr.getD 0 default)).toNat) rfl Tryz.underlying55 sz3 rfl rfl (by omega) get_mapA)) (ChD.s (.d (.int .i64 ((((masksL x).getD (((pr.getD 0 default)).toNat) default) : Nat) : Int))) [] (.pure (.loadRef1 _ _ rfl ag3 rfl rfl)) (ChD.s (.d (.int .i64 s)) [] pm (ChD.s (.d (.int .i64 (2 * s))) [] (.pure (.int _ _ _ _ _ rfl rfl rfl (intV_mul (by first | omega | (simp only [List.length_map, List.length_append, List.length_take, List.length_drop, List.length_cons, List.length_nil]; omega) | (simp; omega) | (simp; done)) (by first | omega | (simp only [List.length_map, List.length_append, List.length_take, List.length_drop, List.length_cons, List.length_nil]; omega) | (simp; omega) | (simp; done))))) ?_)))))))
 refine ChD.s (.d (.int .i64 ((((masksL x).getD (((pr.getD 0 default)).toNat) default) >>> (((2 * s)).toNat) : Nat) : Int))) [] (.pure (.shift _ _ _ _ _ rfl rfl rfl (i64_shr (m := ((masksL x).getD (((pr.getD 0 default)).toNat) default)) (n := ((2 * s)).toNat) (by omega) (by first | omega | (simp only [List.length_map, List.length_append, List.length_take, List.length_drop, List.length_cons, List.length_nil]; omega) | (simp; omega) | (simp; done))))) (ChD.s (.d (.int .i64 ((two ((masksL x).getD (((pr.getD 0 default)).toNat) default) (((2 * s)).toNat) : Nat) : Int))) [] (.pure (.int _ _ _ _ _ rfl rfl rfl (i64_and3 (((masksL x).getD (((pr.getD 0 default)).toNat) default) >>> (((2 * s)).toNat))))) (ChD.s (.d (.bool (decide (((two ((masksL x).getD (((pr.getD 0 default)).toNat) default) (((2 * s)).toNat) : Nat) : Int) = 0)))) [] (.pure (.int _ _ _ _ _ rfl rfl rfl rfl)) (ChD.s (.d (.slice false 1 ((masksL x).map (fun n : Nat => D.int .i64 (n : Int))))) [] (.pure (.loadRef1 _ _ rfl ag55 rfl rfl)) (ChD.s (.d (.slice false 1 (pr.map (fun n : Int => D.int .i64 n)))) [] (.pure (.loadRef1 _ _ rfl ag55 rfl rfl)) (ChD.s (.d (.ref (.int .i64 (pr.getD 1 default)))) [] (.pure (.idx _ _ _ 3 (1) rfl Tryz.underlying55 sz3 rfl rfl rfl get_mapA)) (ChD.s (.d (.int .i64 (pr.getD 1 default))) [] (.pure (.loadRef1 _ _ rfl ag3 rfl rfl)) (ChD.s (.d (.ref (.int .i64 ((((masksL x).getD (((pr.getD 1 default)).toNat) default) : Nat) : Int)))) [] (.pure (.idx _ _ _ 3 (((pr.getD 1 default)).toNat) rfl Tryz.underlying55 sz3 rfl rfl (by omega) get_mapA)) ?_)))))))
 refine ChD.s (.d (.int .i64 ((((masksL x).getD (((pr.getD 1 default)).toNat) default) : Nat) : Int))) [] (.pure (.loadRef1 _ _ rfl ag3 rfl rfl)) (ChD.s (.d (.int .i64 s)) [] pm (ChD.s (.d (.int .i64 (2 * s))) [] (.pure (.int _ _ _ _ _ rfl rfl rfl (intV_mul (by first | omega | (simp only [List.length_map, List.length_append, List.length_take, List.length_drop, List.length_cons, List.length_nil]; omega) | (simp; omega) | (simp; done)) (by first | omega | (simp only [List.length_map, List.length_append, List.length_take, List.length_drop, List.length_cons, List.length_nil]; omega) | (simp; omega) | (simp; done))))) (ChD.s (.d (.int .i64 ((((masksL x).getD (((pr.getD 1 default)).toNat) default) >>> (((2 * s)).toNat) : Nat) : Int))) [] (.pure (.shift _ _ _ _ _ rfl rfl rfl (i64_shr (m := ((masksL x).getD (((pr.getD 1 default)).toNat) default)) (n := ((2 * s)).toNat) (by omega) (by first | omega | (simp only [List.length_map, List.length_append, List.length_take, List.length_drop, List.length_cons, List.length_nil]; omega) | (simp; omega) | (simp; done))))) (ChD.s (.d (.int .i64 ((two ((masksL x).getD (((pr.getD 1 default)).toNat) default) (((2 * s)).toNat) : Nat) : Int))) [] (.pure (.int _ _ _ _ _ rfl rfl rfl (i64_and3 (((masksL x).getD (((pr.getD 1 default)).toNat) default) >>> (((2 * s)).toNat))))) (ChD.s (.d (.bool (decide (((two ((masksL x).getD (((pr.getD 1 default)).toNat) default) (((2 * s)).toNat) : Nat) : Int) = 0)))) [] (.pure (.int _ _ _ _ _ rfl rfl rfl rfl)) (ChD.s (.d (.bool (!(decide ((decide (((two ((masksL x).getD (((pr.getD 0 default)).toNat) default) (((2 * s)).toNat) : Nat) : Int) = 0)) = (decide (((two ((masksL x).getD (((pr.getD 1 default)).toNat) default) (((2 * s)).toNat) : Nat) : Int) = 0))))))) [] (.pure (.neB _ _ _ _ rfl Tryz.underlying4 rfl rfl)) (ChD.s (.d (.bool (!(decide ((decide (((two ((masksL x).getD (((pr.getD 0 default)).toNat) default) (((2 * s)).toNat) : Nat) : Int) = 0)) = (decide (((two ((masksL x).getD (((pr.getD 1 default)).toNat) default) (((2 * s)).toNat) : Nat) : Int) = 0))))))) [] pa ?_)))))))
 refine ChD.nil (And.intro ?_ (by kernel_rfl))
 refine T_ret ?_
 exact endR [(.d (.bool (!(decide ((decide (((two ((masksL x).getD (((pr.getD 0 default)).toNat) default) (((2 * s)).toNat) : Nat) : Int) = 0)) = (decide (((two ((masksL x).getD (((pr.getD 1 default)).toNat) default) (((2 * s)).toNat) : Nat) : Int) = 0)))))))] [] [] (.cons (.tmp 4 rfl) .nil) (.cons (.any _) (.cons (.any _) (.cons (.any _) .nil))) (Exp.of (congrArg D.bool (by exact cfS_eq hx hpr.2.1 hpr.2.2 hs.1)) (.d _)) rfl rfl

theorem sp_conflicts_1 (x : Sgr) (pr : List Int) (hx : SgOk x) (hpr : pr.length = 2 ∧ (0 ≤ pr.getD 0 default ∧ (pr.getD 0 default).toNat < x.codes.length) ∧ (0 ≤ pr.getD 1 default ∧ (pr.getD 1 default).toNat < x.codes.length)) : Sp Tryz.prog 301 [(.slice false 1 (pr.map (fun n : Int => D.int .i64 n))), (.ref (.slice false 1 ((outsL x.sigs).map (fun n : Int => D.int .i64 n)))), (.ref (.slice false 1 ((masksL x).map (fun n : Nat => D.int .i64 (n : Int)))))] [.any, .any, .any] (.bool (!(outsL x.sigs).any (cfS x pr))) := by
 refine Sp_intro (lend := true) Tryz.func301 rfl rfl rfl (fun _ => rfl) (fun c hc hX => ?_)
 have hx8 := hx.eight; have hml : (masksL x).length = x.codes.length := masksTo_len x _; have hol := outs_len x.sigs
 refine T_seq (T_region hc (Ch.s (.ptr 3000 0) (.box 3000 _ _ rfl (.one _ rfl)) (Ch.s (.d (.bool false)) pa (Ch.nil (T_seq (T_region hc (Ch.s (.d (.slice false 1 ((outsL x.sigs).map (fun n : Int => D.int .i64 n)))) (.pure (.loadRef1 _ _ rfl ag55 rfl rfl)) ?_)))))))
 refine Ch.s (.fn 303 [(.d (.ref (.slice false 1 ((masksL x).map (fun n : Nat => D.int .i64 (n : Int)))))), (.ptr 3000 0)]) (.pure (.func _ _ rfl rfl)) (Ch.s (.d (.bool ((outsL x.sigs).any (cfS x pr)))) (.call 7000 302 _ _ _ en302 rfl (.inl rfl) (.cons (.d _) (.cons (.lend (.fn (.cons (.d _) (.cons (.ptr rfl (.one (.d _) rfl)) .nil)))) .nil)) rfl rfl (sp_ContainsFunc_int (outsL x.sigs) 303 [(.ref (.slice false 1 ((masksL x).map (fun n : Nat => D.int .i64 (n : Int))))), (.ref (.slice false 1 (pr.map (fun n : Int => D.int .i64 n))))] (cfS x pr) en303 (fun s hs => sp_conflicts_in s x pr (outs_in s hs) hx hpr) (by first | assumption | omega | (rw [List.length_take]; omega) | (have := bulkF_mem hb _ (getD_mem (d := default) (by omega)); assumption) | (unfold bulkS at *; omega) | (simp_all; done))) (.skip _ _ (.skip _ _ .nil)) rfl) (Ch.s (.d (.bool (!((outsL x.sigs).any (cfS x pr))))) (.pure (.not _ _ rfl rfl)) (Ch.s (.d (.bool (!((outsL x.sigs).any (cfS x pr))))) pa (Ch.nil (T_ret ?_)))))
 exact endR [(.d (.bool (!((outsL x.sigs).any (cfS x pr)))))] [] [] (.cons (.tmp 4 rfl) .nil) (.cons (.any _) (.cons (.any _) (.cons (.any _) .nil))) (Exp.of (congrArg D.bool (by rfl)) (.d _)) rfl rfl

theorem sp_impl_conflicts (x : Sgr) (hb : x.bulk ≤ 1048576) (hx : SgOk x) : Sp Tryz.prog 284 [(.agg [(.slice false 2 (x.sigs.map Sgn.d)), (.slice false 1 (x.codes.map D.str)), (.slice false 4 (x.arcs.map Arc.d))])] [.any] (.slice true 1 ((cfL x).map intsU)) := by
 refine Sp_intro (lend := true) Tryz.func284 rfl rfl rfl (fun _ => rfl) (fun c hc hX => ?_)
 obtain ⟨hp0, hp1, hp2⟩ := Sgr.parts hb
 have hn0 := bulkF_len hp0
 have hn1 := bulk_len hp1
 have hx1 := bulk_mem hp1
 have hn2 := bulkF_len hp2; have hx8 := hx.eight; have hxl := hx.len; have hxf := hx.few; have hpl := prTo_le (eqP x) (n := x.codes.length) (by omega) x.codes.length
 refine T_seq (T_region hc (Ch.s (.ptr 1000 0) (.box 1000 _ _ rfl (.aggD _)) (Ch.s (.c (.slice none 0 0)) pa (Ch.nil (T_seq ?_)))))
 refine T_regionD hc (by kernel_rfl) ?_
 refine ChD.s (.agg [(.d (.slice false 2 (x.sigs.map Sgn.d))), (.d (.slice false 1 (x.codes.map D.str))), (.d (.slice false 4 (x.arcs.map Arc.d)))]) [1000] (.pure (.loadPtrA _ _ rfl ag35 sz35 rfl rfl (Nat.le_of_ble_eq_true rfl) rfl)) (ChD.s (.row 6000) [] (.call 6000 296 _ _ _ en296 rfl (.inl rfl) (.cons (.lend (.agg (.cons (.d _) (.cons (.d _) (.cons (.d _) .nil))) rfl)) .nil) rfl (sol (solid_row (fun _ => rfl) _) rfl) (sp_impl_labelMasks x (by first | assumption | omega | (rw [List.length_take]; omega) | (have := bulkF_mem hb _ (getD_mem (d := default) (by omega)); assumption) | (unfold bulkS at *; omega) | (simp_all; done)) (by assumption)) (.skip _ _ .nil) rfl) (ChD.s (.agg [(.d (.slice false 2 (x.sigs.map Sgn.d))), (.d (.slice false 1 (x.codes.map D.str))), (.d (.slice false 4 (x.arcs.map Arc.d)))]) [1000] (.pure (.loadPtrA _ _ rfl ag35 sz35 rfl rfl (Nat.le_of_ble_eq_true rfl) rfl)) (ChD.s (.row 8000) [] (.call 8000 173 _ _ _ en173 rfl (.inl rfl) (.cons (.lend (.agg (.cons (.d _) (.cons (.d _) (.cons (.d _) .nil))) rfl)) .nil) rfl (sol (solid_row (fun _ => rfl) _) rfl) (sp_impl_outputs x (by first | assumption | (show Sgr.bulk (Sgr.mk _ [] []) ≤ 1048576; unfold Sgr.bulk bulkS bulkF; simp only [List.length_nil, List.map_nil, List.sum_nil]; unfold bulkF at *; omega))) (.skip _ _ .nil) rfl) (ChD.s (.ptr 3000 0) [] (.alloc 3000 _ rfl zer55) (ChD.s (.ptr 4000 0) [] (.alloc 4000 _ rfl zer55) (ChD.s .junk [3000, 6000] (.storePtr _ _ _ rfl rfl rfl (.one _ rfl) sz55 (Nat.le_of_ble_eq_true rfl)) (ChD.s .junk [4000, 8000] (.storePtr _ _ _ rfl rfl rfl (.one _ rfl) sz55 (Nat.le_of_ble_eq_true rfl)) ?_)))))))
 refine ChD.nil (And.intro ?_ (by kernel_rfl))
 refine T_seq (T_region hc (Ch.s (.agg [(.d (.slice false 2 (x.sigs.map Sgn.d))), (.d (.slice false 1 (x.codes.map D.str))), (.d (.slice false 4 (x.arcs.map Arc.d)))]) (.pure (.loadPtrA _ _ rfl ag35 sz35 rfl rfl (Nat.le_of_ble_eq_true rfl) rfl)) ?_))
 refine Ch.step (v := (.row 10000)) rfl (.call 10000 300 _ _ _ en300 rfl (.inl rfl) (.cons (.lend (.agg (.cons (.d _) (.cons (.d _) (.cons (.d _) .nil))) rfl)) .nil) rfl (sol (solid_row intsU_sol _) rfl) (sp_impl_equalCodes x (by first | assumption | omega | (rw [List.length_take]; omega) | (have := bulkF_mem hb _ (getD_mem (d := default) (by omega)); assumption) | (unfold bulkS at *; omega) | (simp_all; done)) (by assumption)) (.skip _ _ .nil) rfl) rfl rfl ?_
 refine Ch.s (.fn 301 [(.ptr 4000 0), (.ptr 3000 0)]) (.pure (.func _ _ rfl rfl)) ?_
 refine Ch.step (v := (.row 12000)) rfl (.call 12000 299 _ _ _ en299 rfl (.inl rfl) (.cons (.row rfl) (.cons (.lend (.fn (.cons (.ptr rfl (.one (.row rfl (frozs_map (fun _ => rfl) _)) rfl)) (.cons (.ptr rfl (.one (.row rfl (frozs_map (fun _ => rfl) _)) rfl)) .nil)))) .nil)) rfl (sol (solid_row intsU_sol _) rfl) (sp_DeleteFunc_ints (prTo (eqP x) x.codes.length x.codes.length) 301 [(.ref (.slice false 1 ((outsL x.sigs).map (fun n : Int => D.int .i64 n)))), (.ref (.slice false 1 ((masksL x).map (fun n : Nat => D.int .i64 (n : Int)))))] (fun pr => !(outsL x.sigs).any (cfS x pr)) en301 (fun pr hpr => sp_conflicts_1 x pr hx (prTo_in (Nat.le_refl _) pr hpr)) (by first | assumption | omega | (rw [List.length_take]; omega) | (have := bulkF_mem hb _ (getD_mem (d := default) (by omega)); assumption) | (unfold bulkS at *; omega) | (simp_all; done))) (.skip _ _ (.skip _ _ .nil)) rfl) rfl rfl ?_
 refine Ch.s (.row 12000) pa (Ch.nil (T_ret ?_))
 exact endR [(.row 12000)] [] [12000] (.cons (.tmp 2 rfl) .nil) (.cons (.any _) .nil) (Exp.of (congrArg (D.slice true 1) (by first | (rw [cf_filter]; done) | (exact congrArg (List.map _) (cf_filter x)))) (.row rfl)) rfl rfl

theorem mg_at {τ : Type} [Inhabited τ] {f : τ → D} {P : List D} {xs : List τ} {m : Nat} (h : P.length = m) (hm : m < xs.length) : (P ++ (xs.drop m).map f)[m]? = some (f (xs.getD m default)) := by
 rw [List.getElem?_append_right (by omega), h, Nat.sub_self, List.getElem?_map, List.getElem?_drop, Nat.add_zero]
 simp [hm]

theorem mg_set {τ : Type} {f : τ → D} {P : List D} {xs : List τ} {m : Nat} {y : D} (h : P.length = m) (hm : m < xs.length) : (P ++ (xs.drop m).map f).set m y = (P ++ [y]) ++ (xs.drop (m + 1)).map f := by
 rw [List.set_append_right (h := by omega), h, Nat.sub_self, List.drop_eq_getElem_cons hm, List.map_cons, List.set_cons_zero, List.append_assoc]
 rfl

theorem mg_len {τ : Type} {f : τ → D} {P : List D} {xs : List τ} {m : Nat} (h : P.length = m) (hm : m ≤ xs.length) : (P ++ (xs.drop m).map f).length = xs.length := by
 rw [List.length_append, List.length_map, List.length_drop]; omega

def nxTo (x : Sgr) : Nat → List (List Int)
 | 0 => List.replicate x.codes.length []
 | k + 1 => (nxTo x k).set (x.arcs.getD k default).src.toNat ((nxTo x k).getD (x.arcs.getD k default).src.toNat default ++ [(k : Int)])

theorem nxTo_len (x : Sgr) : ∀ k, (nxTo x k).length = x.codes.length
 | 0 => by simp [nxTo]
 | k + 1 => by rw [nxTo, List.length_set, nxTo_len x k]

theorem nx_mem {x : Sgr} (hen : ends x.codes.length x.arcs) {j : Nat} {i : Int} : ∀ k, k ≤ x.arcs.length → (i ∈ (nxTo x k).getD j default ↔ (0 ≤ i ∧ i.toNat < k) ∧ (x.arcs.getD i.toNat default).src.toNat = j)
  | 0, _ => by
    constructor
    · intro h
      exfalso
      unfold nxTo at h
      by_cases hj : j < x.codes.length
      · simp [hj] at h
      · simp [hj] at h
        cases h
    · rintro ⟨⟨_, h⟩, _⟩
      omega
  | k + 1, hk => by
    have he := hen _ (getD_mem (l := x.arcs) (j := k) (d := default) (by omega))
    rw [nxTo, getD_set, nxTo_len]
    split
    · rename_i h
      rw [List.mem_append, List.mem_singleton, h.1, nx_mem hen k (by omega)]
      constructor
      · rintro (⟨⟨h1, h2⟩, h3⟩ | h1)
        · exact ⟨⟨h1, by omega⟩, h3⟩
        · subst h1
          exact ⟨⟨by omega, by omega⟩, h.1⟩
      · rintro ⟨⟨h1, h2⟩, h3⟩
        by_cases e : i = (k : Int)
        · exact .inr e
        · exact .inl ⟨⟨h1, by omega⟩, h3⟩
    · rename_i h
      rw [nx_mem hen k (by omega)]
      constructor
      · rintro ⟨⟨h1, h2⟩, h3⟩
        exact ⟨⟨h1, by omega⟩, h3⟩
      · rintro ⟨⟨h1, h2⟩, h3⟩
        refine ⟨⟨h1, ?_⟩, h3⟩
        apply Classical.byContradiction
        intro hc
        have e : i.toNat = k := by omega
        rw [e] at h3
        exact h ⟨h3, he.1.2⟩

theorem nx_le (x : Sgr) : ∀ k, k ≤ x.arcs.length → ∀ j, ((nxTo x k).getD j default).length ≤ k
  | 0, _, j => by
    unfold nxTo
    by_cases hj : j < x.codes.length
    · simp [hj]
    · simp [hj]; rfl
  | k + 1, hk, j => by
    have h1 := nx_le x k (by omega)
    rw [nxTo, getD_set]
    split
    · rename_i h
      have := h1 (x.arcs.getD k default).src.toNat
      rw [List.length_append, List.length_singleton]; omega
    · have := h1 j; omega

theorem sp_impl_nextArcs (x : Sgr) (hb : x.bulk ≤ 1048576) (hx : SgOk x) : Sp Tryz.prog 297 [(.agg [(.slice false 2 (x.sigs.map Sgn.d)), (.slice false 1 (x.codes.map D.str)), (.slice false 4 (x.arcs.map Arc.d))])] [.any] (.slice true 1 ((nxTo x x.arcs.length).map intsU)) := by
 refine Sp_intro (lend := true) Tryz.func297 rfl rfl rfl (fun _ => rfl) (fun c hc hX => ?_)
 obtain ⟨hp0, hp1, hp2⟩ := Sgr.parts hb
 have hn0 := bulkF_len hp0
 have hn1 := bulk_len hp1
 have hx1 := bulk_mem hp1
 have hn2 := bulkF_len hp2; have hxl := hx.len; have hxf := hx.few; have hen := hx.ends
 refine T_seq (T_region hc (Ch.s (.ptr 1000 0) (.box 1000 _ _ rfl (.aggD _)) (Ch.s (.c (.slice none 0 0)) pa (Ch.nil (T_seq (T_region hc (Ch.s (.ptr 1000 1) (.pure (.fldPtr _ _ _ rfl fld35_1 rfl)) ?_)))))))
 refine Ch.s (.d (.slice false 1 (x.codes.map D.str))) (.pure (.loadPtr1 _ _ rfl ag23 rfl rfl rfl)) (Ch.s (.d (.int .i64 ((x.codes.length : Nat) : Int))) (.pure (.len _ _ 9 rfl Tryz.underlying23 (.sh _ _) (by simp))) (Ch.s (.row 9000) (.make 9000 _ 55 _ _ (x.codes.length) (x.codes.length) rfl sty49 rfl rfl rfl rfl (by first | omega | (simp only [List.length_map, List.length_append, List.length_take, List.length_drop, List.length_cons, List.length_nil]; omega) | (simp; omega) | (simp; done)) (by first | omega | (simp only [List.length_map, List.length_append, List.length_take, List.length_drop, List.length_cons, List.length_nil]; omega) | (simp; omega) | (simp; done)) (by first | omega | (simp only [List.length_map, List.length_append, List.length_take, List.length_drop, List.length_cons, List.length_nil]; omega) | (simp; omega) | (simp; done)) (zeroD_mk (zd := (.slice true 1 [])) zr55 (by intro S w; exact nil_reads true 1) rfl)) (Ch.s (.row 9000) pa (Ch.nil (T_seq (T_seq (T_region hc ?_)))))))
 refine Ch.s (.ptr 1000 2) (.pure (.fldPtr _ _ _ rfl fld35_2 rfl)) (Ch.s (.d (.slice false 4 (x.arcs.map Arc.d))) (.pure (.loadPtr1 _ _ rfl ag33 rfl rfl rfl)) (Ch.s (.d (.int .i64 ((x.arcs.length : Nat) : Int))) (.pure (.len _ _ 125 rfl Tryz.underlying33 (.sh _ _) (by simp))) (Ch.s (.d (.int .i64 0)) pm (Ch.nil (T_block ?_)))))
 refine T_loop (ι := Nat) (fun k => { n := 32, sl := [(3, (.row 3)), (11, (.d (.slice false 4 (x.arcs.map Arc.d)))), (12, (.d (.int .i64 ((x.arcs.length : Nat) : Int)))), (13, (.d (.int .i64 ((k : Nat) : Int))))], hp := [(3, (some (.row 1 ((nxTo x k).map intsU))))], pin := [] }) (fun k => k ≤ x.arcs.length) (fun k => x.arcs.length - k) ⟨0, (by omega), (Wk.ren [(3, 9000)] rfl rfl rfl rfl (ai rfl (ai rfl (ai rfl (ai (vI (by first | rfl | omega | (simp; done) | (simp; omega))) trivial)))) (ai (oR (by first | (rw [nxTo, List.map_replicate]; rfl) | (rw [nxTo]; exact set_holeI))) trivial))⟩ (fun k hp0 => ?_)
 have hnl := nxTo_len x k; have hnx := nx_le x k hp0 (x.arcs.getD k default).src.toNat
 refine T_seq (T_region hc (Ch.s (.d (.bool (decide (((k : Nat) : Int) < ((x.arcs.length : Nat) : Int))))) (.pure (.int _ _ _ _ _ rfl rfl rfl rfl)) (Ch.nil (T_seq ?_))))
 refine T_cond (b := (decide (((k : Nat) : Int) < ((x.arcs.length : Nat) : Int)))) rfl (fun h1 => ?_) (fun h1 => ?_)
 ·
  replace h1 := of_decide_eq_true h1
  try have hek := hen _ (getD_mem (l := x.arcs) (j := k) (d := default) (by omega))
  refine T_skip (T_seq (T_block (T_seq (T_region hc (Ch.s (.d (.int .i64 ((k : Nat) : Int))) pm (Ch.s (.d (.ref (.agg [(.int .i64 ((x.arcs.getD k default).src)), (.int .i64 ((x.arcs.getD k default).sig)), (.bool ((x.arcs.getD k default).up)), (.int .i64 ((x.arcs.getD k default).dst))]))) (.pure (.idx _ _ _ 125 (k) rfl Tryz.underlying33 sz125 rfl rfl rfl get_mapA)) (Ch.s (.d (.agg [(.int .i64 ((x.arcs.getD k default).src)), (.int .i64 ((x.arcs.getD k default).sig)), (.bool ((x.arcs.getD k default).up)), (.int .i64 ((x.arcs.getD k default).dst))])) (.pure (.loadRefA _ _ rfl ag125 sz125 rfl)) ?_)))))))
  refine Ch.s (.ptr 5000 0) (.alloc 5000 _ rfl zer125) (Ch.s (.d (.int .i64 ((k : Nat) : Int))) pa (Ch.s .junk (.storePtr _ _ _ rfl rfl rfl (.aggD _) sz125 (Nat.le_of_ble_eq_true rfl)) (Ch.nil ?_)))
  refine T_take 3 ((((x.arcs.getD k default).src)).toNat) 7000002 7000003 rfl get_mapA rfl rfl (fun u1 => ?_)
  refine T_regionD hc (by kernel_rfl) ?_
  refine ChD.s (.row 3) [] pm (ChD.s (.ptr 5000 0) [] (.pure (.fldPtr _ _ _ rfl fld125_0 rfl)) (ChD.s (.d (.int .i64 ((x.arcs.getD k default).src))) [5000] (.pure (.loadPtr1 _ _ rfl ag3 rfl rfl rfl)) (ChD.s (.row 3) [] pm (ChD.s (.ptr 5000 0) [] (.pure (.fldPtr _ _ _ rfl fld125_0 rfl)) (ChD.s (.d (.int .i64 ((x.arcs.getD k default).src))) [5000] (.pure (.loadPtr1 _ _ rfl ag3 rfl rfl rfl)) (ChD.s (.el 3 1 ((((x.arcs.getD k default).src)).toNat) 0) [3, 7000002, 7000003] (.pure (.idxRow _ _ _ 55 ((((x.arcs.getD k default).src)).toNat) rfl Tryz.underlying49 sz55 rfl rfl rfl (by omega) (by first | omega | (simp only [List.length_map, List.length_set]; omega) | (simp; omega)))) (ChD.s (.row 7000002) [3, 7000002, 7000003] (.pure (.loadHole (n := 7000002) (m := 7000003) (u := u1) _ _ rfl ag55 rfl rfl (get_set (by first | omega | (simp only [List.length_map, List.length_set]; omega) | (simp; omega))) rfl rfl)) ?_)))))))
  refine ChD.s (.d (.int .i64 ((k : Nat) : Int))) [] pm (ChD.s (.row 27000) [] (.slice 27000 _ 3 _ rfl sty55 (xs := [.tmp 26]) rfl rfl (.cons (.d _) .nil) rfl rfl (by decide)) (ChD.s (.row 28000) [27000, 7000002] (.append 28000 _ _ _ 3 rfl sty55 (by decide) (.rowK rfl) (.inr ⟨_, rfl, rfl⟩) (.row rfl rfl) rfl (by first | omega | (simp only [List.length_append, List.length_map, List.length_cons, List.length_nil]; omega) | (simp; omega) | (simp; done))) (ChD.s (.el 3 1 ((((x.arcs.getD k default).src)).toNat) 0) [3, 7000002, 7000003] (.pure (.idxRow _ _ _ 55 ((((x.arcs.getD k default).src)).toNat) rfl Tryz.underlying49 sz55 rfl rfl rfl (by omega) (by first | omega | (simp only [List.length_map, List.length_set]; omega) | (simp; omega)))) (ChD.s .junk [3, 28000, 7000002, 7000003] (.storeElK (y' := (.slice true 1 ((((nxTo x k).getD ((((x.arcs.getD k default).src)).toNat) default).map (fun n : Int => D.int .i64 n)) ++ [(.int .i64 ((k : Nat) : Int))]))) _ _ _ rfl rfl rfl (.row rfl) rfl rfl rfl sz55 rfl (get_set (by first | omega | (simp only [List.length_map, List.length_set]; omega) | (simp; omega))) rfl rfl) ?_))))
  refine ChD.nil (And.intro ?_ (by kernel_rfl))
  refine T_region hc (Ch.s (.d (.int .i64 (((k : Nat) : Int) + 1))) (.pure (.int _ _ _ _ _ rfl rfl rfl intV_addA)) (Ch.s (.d (.int .i64 (((k : Nat) : Int) + 1))) pm (Ch.nil ?_)))
  exact nx (k + 1) (by omega) (Wk.of rfl rfl (ai rfl (ai rfl (ai rfl (ai (vI (by first | rfl | omega | (simp; done) | (simp; omega))) trivial)))) (ai (oR (by first | (rw [nxTo, List.map_replicate]; rfl) | (rw [nxTo]; exact set_holeI))) trivial))
 ·
  replace h1 := of_decide_eq_false h1
  try have hek := hen _ (getD_mem (l := x.arcs) (j := k) (d := default) (by omega))
  refine T_exit (T_seq (T_region hc (Ch.s (.row 3) pm (Ch.s (.row 3) pa (Ch.nil (T_ret ?_))))))
  exact endR [(.row 3)] [] [3] (.cons (.tmp 2 rfl) .nil) (.cons (.any _) .nil) (Exp.of (congrArg (D.slice true 1) (by rw [show x.arcs.length = k by omega])) (.row rfl)) rfl rfl

theorem en93 : Enters Tryz.prog 93 := ⟨_, Tryz.func93, by kernel_rfl, rfl⟩

theorem en158 : Enters Tryz.prog 158 := ⟨_, Tryz.func158, by kernel_rfl, rfl⟩

theorem ag26 : AggIs Tryz.prog 26 true := by unfold AggIs; kernel_rfl

theorem sz26 : SizeIs Tryz.prog 26 3 := by unfold SizeIs; kernel_rfl

theorem en16 : Enters Tryz.prog 16 := ⟨_, Tryz.func16, by kernel_rfl, rfl⟩

theorem en18 : Enters Tryz.prog 18 := ⟨_, Tryz.func18, by kernel_rfl, rfl⟩

theorem en21 : Enters Tryz.prog 21 := ⟨_, Tryz.func21, by kernel_rfl, rfl⟩

theorem en203 : Enters Tryz.prog 203 := ⟨_, Tryz.func203, by kernel_rfl, rfl⟩

theorem sty175 : SlotTy Tryz.prog 175 216 3 24 := slotTy_mk (by kernel_rfl)

theorem en297 : Enters Tryz.prog 297 := ⟨_, Tryz.func297, by kernel_rfl, rfl⟩

theorem en298 : Enters Tryz.prog 298 := ⟨_, Tryz.func298, by kernel_rfl, rfl⟩

theorem stru216 : StructIs Tryz.prog 216 [.int .i64 0, .int .i64 0, .int .i64 0] [(0, 1), (1, 1), (2, 1)] := structIs_mk (by kernel_rfl) Tryz.underlying216 (by kernel_rfl)

theorem en221 : Enters Tryz.prog 221 := ⟨_, Tryz.func221, by kernel_rfl, rfl⟩

theorem en131 : Enters Tryz.prog 131 := ⟨_, Tryz.func131, by kernel_rfl, rfl⟩

theorem en281 : Enters Tryz.prog 281 := ⟨_, Tryz.func281, by kernel_rfl, rfl⟩

theorem en282 : Enters Tryz.prog 282 := ⟨_, Tryz.func282, by kernel_rfl, rfl⟩

theorem en283 : Enters Tryz.prog 283 := ⟨_, Tryz.func283, by kernel_rfl, rfl⟩

theorem en284 : Enters Tryz.prog 284 := ⟨_, Tryz.func284, by kernel_rfl, rfl⟩

theorem en166 : Enters Tryz.prog 166 := ⟨_, Tryz.func166, by kernel_rfl, rfl⟩

theorem en167 : Enters Tryz.prog 167 := ⟨_, Tryz.func167, by kernel_rfl, rfl⟩

theorem en168 : Enters Tryz.prog 168 := ⟨_, Tryz.func168, by kernel_rfl, rfl⟩

theorem en169 : Enters Tryz.prog 169 := ⟨_, Tryz.func169, by kernel_rfl, rfl⟩

theorem en258 : Enters Tryz.prog 258 := ⟨_, Tryz.func258, by kernel_rfl, rfl⟩

theorem en222 : Enters Tryz.prog 222 := ⟨_, Tryz.func222, by kernel_rfl, rfl⟩

theorem en171 : Enters Tryz.prog 171 := ⟨_, Tryz.func171, by kernel_rfl, rfl⟩

def inputB (x : Sgr) (sig : Int) : Bool := decide (0 ≤ sig) && decide ((x.sigs.getD sig.toNat default).kind = 1)

theorem inputB_lt {x : Sgr} {sig : Int} (h : ¬ 0 ≤ sig) : inputB x sig = false := by rw [inputB, decide_eq_false h]; rfl

theorem inputB_no {x : Sgr} {sig : Int} (h : ¬ (x.sigs.getD sig.toNat default).kind = 1) : inputB x sig = false := by rw [inputB, decide_eq_false h, Bool.and_false]

theorem inputB_yes {x : Sgr} {sig : Int} (h0 : 0 ≤ sig) (h : (x.sigs.getD sig.toNat default).kind = 1) : inputB x sig = true := by rw [inputB, decide_eq_true h0, decide_eq_true h]; rfl

theorem prTo_leA (P : Nat → Nat → Bool) {n : Nat} (hn : n ≤ 4000) : ∀ k, (prTo P n k).length ≤ k * 4000
 | 0 => Nat.le_refl 0
 | k + 1 => by
  have h1 := prTo_leA P hn k
  have h2 := prIn_le P k n
  have e : (prTo P n (k + 1)).length = (prTo P n k).length + (prIn P k n).length := by
   unfold prTo
   rw [List.range_succ, List.flatMap_append, List.length_append]; simp
  omega

theorem prM_leA (P : Nat → Nat → Bool) {n k m : Nat} (hn : n ≤ 4000) (hk : k ≤ 4000) (hm : m ≤ 4001) : (prM P n k m).length ≤ 17000000 := by
 have h1 := prTo_leA P hn k
 have h2 := prIn_le P k m
 rw [prM, List.length_append]
 omega

def hidB (x : Sgr) : Bool := x.arcs.any fun a => decide (a.sig = -1)

def twP (x : Sgr) (i k : Nat) : Bool := decide (0 ≤ (x.arcs.getD i default).sig ∧ (x.arcs.getD i default).src = (x.arcs.getD k default).src ∧ (x.arcs.getD i default).sig = (x.arcs.getD k default).sig ∧ ¬ (x.arcs.getD i default).dst = (x.arcs.getD k default).dst)

def twL (x : Sgr) : List (List Int) := prTo (twP x) x.arcs.length x.arcs.length

def pvQ (x : Sgr) (s n : Nat) : Bool := !decide ((x.arcs.getD n default).sig = (s : Int)) && (!excB x (x.arcs.getD n default).dst (s : Int) && !(inputB x (s : Int) && inputB x (x.arcs.getD n default).sig))

def pvP (x : Sgr) (k s n : Nat) : Bool := decide ((x.arcs.getD n default).src = (k : Int)) && pvQ x s n

def pvF (k s n : Nat) : Pvi := Pvi.mk (k : Int) (s : Int) (n : Int)

def pvI (x : Sgr) (k s m : Nat) : List Pvi := selTo m (pvP x k s) (pvF k s)

def pvS (x : Sgr) (k s : Nat) : List Pvi := if excB x (k : Int) (s : Int) then pvI x k s x.arcs.length else []

def pvK (x : Sgr) (k s : Nat) : List Pvi := (List.range s).flatMap (pvS x k)

def pvTo (x : Sgr) (k : Nat) : List Pvi := (List.range k).flatMap fun k => pvK x k x.sigs.length

def pvA (x : Sgr) (k s : Nat) : List Pvi := pvTo x k ++ pvK x k s

def pvC (x : Sgr) (k s m : Nat) : List Pvi := pvA x k s ++ pvI x k s m

def pvN (x : Sgr) (k s : Nat) (T : List Int) (m : Nat) : List Pvi := ((T.take m).filter fun i => pvQ x s i.toNat).map fun i => pvF k s i.toNat

def pvB (x : Sgr) (k s : Nat) (T : List Int) (m : Nat) : List Pvi := pvA x k s ++ pvN x k s T m

def pvL (x : Sgr) : List Pvi := pvTo x x.codes.length

theorem pvI_le (x : Sgr) (k s m : Nat) : (pvI x k s m).length ≤ m := selTo_le _ _ _

theorem pvK_le {x : Sgr} (hx : x.arcs.length ≤ 4000) (k : Nat) : ∀ s, (pvK x k s).length ≤ s * 4000
  | 0 => Nat.le_refl 0
  | s + 1 => by
    have h1 := pvK_le hx k s
    have e : (pvK x k (s + 1)).length = (pvK x k s).length + (pvS x k s).length := by
      unfold pvK; rw [List.range_succ, List.flatMap_append, List.length_append]; simp
    have h2 : (pvS x k s).length ≤ 4000 := by
      unfold pvS; split
      · exact Nat.le_trans (pvI_le _ _ _ _) hx
      · exact Nat.zero_le _
    omega

theorem pvTo_next (x : Sgr) (k : Nat) : pvTo x k ++ pvK x k x.sigs.length = pvTo x (k + 1) := by
 unfold pvTo; rw [List.range_succ, List.flatMap_append]; simp

theorem pvTo_le {x : Sgr} (hx : x.arcs.length ≤ 4000) (h8 : x.sigs.length ≤ 8) : ∀ k, (pvTo x k).length ≤ k * 32000
 | 0 => Nat.le_refl 0
 | k + 1 => by
  have h1 := pvTo_le hx h8 k
  have h2 := pvK_le hx k x.sigs.length
  rw [← pvTo_next, List.length_append]; omega

theorem pvA_le {x : Sgr} (hx : x.arcs.length ≤ 4000) (h8 : x.sigs.length ≤ 8) {k s : Nat} (hk : k ≤ 300) (hs : s ≤ 8) : (pvA x k s).length ≤ 10000000 := by
 have h1 := pvTo_le hx h8 k
 have h2 := pvK_le hx k s
 rw [pvA, List.length_append]; omega

theorem pvC_le {x : Sgr} (hx : x.arcs.length ≤ 4000) (h8 : x.sigs.length ≤ 8) {k s m : Nat} (hk : k ≤ 300) (hs : s ≤ 8) (hm : m ≤ 4000) : (pvC x k s m).length ≤ 11000000 := by
 have h1 := pvA_le hx h8 hk hs
 have h2 := pvI_le x k s m
 rw [pvC, List.length_append]; omega

theorem pvB_le {x : Sgr} (hx : x.arcs.length ≤ 4000) (h8 : x.sigs.length ≤ 8) {k s m : Nat} (hk : k ≤ 300) (hs : s ≤ 8) {T : List Int} (hm : T.length ≤ 4000) : (pvB x k s T m).length ≤ 11000000 := by
 have h1 := pvA_le hx h8 hk hs
 have h2 : (pvN x k s T m).length ≤ T.length := by
  unfold pvN
  rw [List.length_map]
  refine Nat.le_trans (List.length_filter_le _ _) ?_
  rw [List.length_take]; omega
 rw [pvB, List.length_append]; omega

theorem pvA_zero (x : Sgr) (k : Nat) : pvTo x k = pvA x k 0 := (List.append_nil _).symm

theorem pvA_end {x : Sgr} {k s : Nat} (h : s = x.sigs.length) : pvA x k s = pvTo x (k + 1) := by rw [h, ← pvTo_next]; rfl

theorem pvK_next (x : Sgr) (k s : Nat) : pvK x k s ++ pvS x k s = pvK x k (s + 1) := by
 unfold pvK; rw [List.range_succ, List.flatMap_append]; simp

theorem pvA_no {x : Sgr} {k s : Nat} (h : excB x (k : Int) (s : Int) = false) : pvA x k s = pvA x k (s + 1) := by
 rw [pvA, pvA, ← pvK_next, pvS, h]; simp

theorem pvA_yes {x : Sgr} {k s : Nat} (h : excB x (k : Int) (s : Int) = true) : pvC x k s x.arcs.length = pvA x k (s + 1) := by
 rw [pvC, pvA, pvA, ← pvK_next, pvS, h, if_pos rfl, List.append_assoc]

theorem pvC_zero (x : Sgr) (k s : Nat) : pvA x k s = pvC x k s 0 := (List.append_nil _).symm

theorem pvC_end {x : Sgr} {k s m : Nat} (h : excB x (k : Int) (s : Int) = true) (hm : m = x.arcs.length) : pvC x k s m = pvA x k (s + 1) := by rw [hm, pvA_yes h]

theorem pvC_yes {x : Sgr} {k s m : Nat} (h : pvP x k s m = true) : pvC x k s m ++ [Pvi.mk (k : Int) (s : Int) (m : Int)] = pvC x k s (m + 1) := by
 rw [pvC, pvC, List.append_assoc]
 congr 1
 exact selTo_yes (f := pvF k s) h

theorem pvC_no {x : Sgr} {k s m : Nat} (h : pvP x k s m = false) : pvC x k s m = pvC x k s (m + 1) := by
 rw [pvC, pvC]
 congr 1
 exact selTo_no h

theorem pvB_zero (x : Sgr) (k s : Nat) (T : List Int) : pvA x k s = pvB x k s T 0 := (List.append_nil _).symm

theorem pvB_yes {x : Sgr} {k s m : Nat} {T : List Int} (hm : m < T.length) (h0 : 0 ≤ T.getD m default) (h : pvQ x s (T.getD m default).toNat = true) : pvB x k s T m ++ [Pvi.mk (k : Int) (s : Int) (T.getD m default)] = pvB x k s T (m + 1) := by
 have hg : T.getD m default = T[m] := by simp [hm]
 rw [hg] at h h0 ⊢
 rw [pvB, pvB, List.append_assoc]
 congr 1
 unfold pvN
 rw [List.take_succ_eq_append_getElem hm, List.filter_append, List.map_append]
 congr 1
 rw [List.filter_cons, h]
 show _ = [pvF k s T[m].toNat]
 unfold pvF
 rw [show ((T[m].toNat : Nat) : Int) = T[m] by omega]

theorem pvB_no {x : Sgr} {k s m : Nat} {T : List Int} (hm : m < T.length) (h : pvQ x s (T.getD m default).toNat = false) : pvB x k s T m = pvB x k s T (m + 1) := by
 have hg : T.getD m default = T[m] := by simp [hm]
 rw [hg] at h
 rw [pvB, pvB]
 congr 1
 unfold pvN
 rw [List.take_succ_eq_append_getElem hm, List.filter_append, List.map_append, List.filter_cons, h]
 simp

theorem nx_eq {x : Sgr} (hen : ends x.codes.length x.arcs) {j : Nat} (hj : j < x.codes.length) : ∀ m, m ≤ x.arcs.length → (nxTo x m).getD j default = selTo m (fun i => decide ((x.arcs.getD i default).src = (j : Int))) (fun i => (i : Int))
  | 0, _ => by
    unfold nxTo selTo
    simp [hj]
  | m + 1, hm => by
    have he := hen _ (getD_mem (l := x.arcs) (j := m) (d := default) (by omega))
    rw [nxTo, getD_set, nxTo_len]
    by_cases h : (x.arcs.getD m default).src = (j : Int)
    · rw [if_pos ⟨by omega, he.1.2⟩, ← selTo_yes (f := fun i : Nat => (i : Int)) (decide_eq_true h), show (x.arcs.getD m default).src.toNat = j by omega, nx_eq hen hj m (by omega)]
    · rw [if_neg (fun e => h (by omega)), ← selTo_no (decide_eq_false h), nx_eq hen hj m (by omega)]

theorem pvN_end {x : Sgr} (hx : SgOk x) {k s m : Nat} (hk : k < x.codes.length) {T : List Int} (hT : T = (nxTo x x.arcs.length).getD k default) (hm : T.length ≤ m) : pvN x k s T m = pvI x k s x.arcs.length := by
 unfold pvN
 rw [List.take_of_length_le hm, hT, nx_eq hx.ends hk _ (Nat.le_refl _), selTo_filter, pvI]
 unfold selTo
 rw [List.map_map]
 rfl

theorem pvB_end {x : Sgr} (hx : SgOk x) {k s m : Nat} (hk : k < x.codes.length) (h : excB x (k : Int) (s : Int) = true) (hm : ((nxTo x x.arcs.length).getD k default).length ≤ m) : pvB x k s ((nxTo x x.arcs.length).getD k default) m = pvA x k (s + 1) := by
 rw [pvB, pvN_end hx hk rfl hm, ← pvA_yes h]; rfl

theorem two_nat {x : Sgr} (hx : SgOk x) {k s : Nat} (hk : k < x.codes.length) : decide (((two ((masksL x).getD k default) (2 * (s : Int)).toNat : Nat) : Int) = 0) = !excB x (k : Int) (s : Int) := two_exc (k := (k : Int)) (s := (s : Int)) hx (by omega) ⟨by omega, hk⟩

theorem two_n0 {x : Sgr} (hx : SgOk x) {k s : Nat} (hk : k < x.codes.length) (h : ((two ((masksL x).getD k default) (2 * (s : Int)).toNat : Nat) : Int) = 0) : excB x (k : Int) (s : Int) = false := by
  have := two_nat hx (s := s) hk
  rw [decide_eq_true h] at this
  cases he : excB x (k : Int) (s : Int)
  · rfl
  · rw [he] at this; cases this

theorem two_n1 {x : Sgr} (hx : SgOk x) {k s : Nat} (hk : k < x.codes.length) (h : ¬ ((two ((masksL x).getD k default) (2 * (s : Int)).toNat : Nat) : Int) = 0) : excB x (k : Int) (s : Int) = true := by
  have := two_nat hx (s := s) hk
  rw [decide_eq_false h] at this
  cases he : excB x (k : Int) (s : Int)
  · rw [he] at this; cases this
  · rfl

theorem two_i0 {x : Sgr} (hx : SgOk x) {k : Int} {s : Nat} (hk : 0 ≤ k ∧ k.toNat < x.codes.length) (h : ((two ((masksL x).getD k.toNat default) (2 * (s : Int)).toNat : Nat) : Int) = 0) : excB x k (s : Int) = false := by
 have := two_n0 hx (s := s) hk.2 h
 rwa [show ((k.toNat : Nat) : Int) = k by omega] at this

theorem two_i1 {x : Sgr} (hx : SgOk x) {k : Int} {s : Nat} (hk : 0 ≤ k ∧ k.toNat < x.codes.length) (h : ¬ ((two ((masksL x).getD k.toNat default) (2 * (s : Int)).toNat : Nat) : Int) = 0) : excB x k (s : Int) = true := by
 have := two_n1 hx (s := s) hk.2 h
 rwa [show ((k.toNat : Nat) : Int) = k by omega] at this

theorem pvQ_yes {x : Sgr} {s n : Nat} (h1 : ¬ (x.arcs.getD n default).sig = (s : Int)) (h2 : excB x (x.arcs.getD n default).dst (s : Int) = false) (h3 : inputB x (s : Int) = false ∨ inputB x (x.arcs.getD n default).sig = false) : pvQ x s n = true := by
  unfold pvQ
  rw [decide_eq_false h1, h2]
  rcases h3 with h3 | h3 <;> rw [h3] <;> simp

theorem pvQ_no1 {x : Sgr} {s n : Nat} (h1 : (x.arcs.getD n default).sig = (s : Int)) : pvQ x s n = false := by rw [pvQ, decide_eq_true h1]; rfl

theorem pvQ_no2 {x : Sgr} {s n : Nat} (h2 : excB x (x.arcs.getD n default).dst (s : Int) = true) : pvQ x s n = false := by rw [pvQ, h2]; simp

theorem pvQ_no3 {x : Sgr} {s n : Nat} (h3 : inputB x (s : Int) = true) (h4 : inputB x (x.arcs.getD n default).sig = true) : pvQ x s n = false := by rw [pvQ, h3, h4]; simp

theorem pvP_no {x : Sgr} {k s n : Nat} (h : ¬ (x.arcs.getD n default).src = (k : Int)) : pvP x k s n = false := by rw [pvP, decide_eq_false h]; rfl

theorem pvP_of {x : Sgr} {k s n : Nat} {b : Bool} (h : (x.arcs.getD n default).src = (k : Int)) (h2 : pvQ x s n = b) : pvP x k s n = b := by rw [pvP, decide_eq_true h, h2]; rfl

def unB (x : Sgr) (pr : List Int) : Bool := (outsL x.sigs).any fun s => !decide (excB x (pr.getD 0 default) s = excB x (pr.getD 1 default) s)

def unM (x : Sgr) (pr : List Int) (m : Nat) : Bool := ((outsL x.sigs).take m).any fun s => !decide (excB x (pr.getD 0 default) s = excB x (pr.getD 1 default) s)

theorem unM_succ {x : Sgr} {pr : List Int} {m : Nat} (hm : m < (outsL x.sigs).length) : unM x pr (m + 1) = (unM x pr m || !decide (excB x (pr.getD 0 default) ((outsL x.sigs).getD m default) = excB x (pr.getD 1 default) ((outsL x.sigs).getD m default))) := by
 have hg : (outsL x.sigs).getD m default = (outsL x.sigs)[m] := by simp [hm]
 unfold unM
 rw [hg, List.take_succ_eq_append_getElem hm, List.any_append]
 simp

theorem unM_all {x : Sgr} {pr : List Int} {m : Nat} (hm : (outsL x.sigs).length ≤ m) : unM x pr m = unB x pr := by rw [unM, List.take_of_length_le hm]; rfl

def prA (x : Sgr) : List (List Int) := prTo (eqP x) x.codes.length x.codes.length

def unK (x : Sgr) (k : Nat) : List (List Int) := ((prA x).take k).filter (unB x)

theorem unK_yes {x : Sgr} {k : Nat} (hk : k < (prA x).length) (h : unB x ((prA x).getD k default) = true) : unK x k ++ [(prA x).getD k default] = unK x (k + 1) := by
 have hg : (prA x).getD k default = (prA x)[k] := by simp [hk]
 rw [hg] at h ⊢
 rw [unK, unK, List.take_succ_eq_append_getElem hk, List.filter_append, List.filter_cons, h]; simp

theorem unK_no {x : Sgr} {k : Nat} (hk : k < (prA x).length) (h : unB x ((prA x).getD k default) = false) : unK x k = unK x (k + 1) := by
 have hg : (prA x).getD k default = (prA x)[k] := by simp [hk]
 rw [hg] at h
 rw [unK, unK, List.take_succ_eq_append_getElem hk, List.filter_append, List.filter_cons, h]; simp

theorem unK_le (x : Sgr) (k : Nat) : (unK x k).length ≤ k := by
 unfold unK
 refine Nat.le_trans (List.length_filter_le _ _) ?_
 rw [List.length_take]; omega

theorem unB_eq (x : Sgr) (u : List Int) : unB x u = (!(fun pr => !(outsL x.sigs).any (cfS x pr)) u) := by
  dsimp only
  rw [Bool.not_not]
  unfold unB
  congr 1
  funext s
  unfold cfS
  cases excB x (u.getD 0 default) s <;> cases excB x (u.getD 1 default) s <;> rfl

theorem unK_all {x : Sgr} {k : Nat} (hk : (prA x).length ≤ k) : unK x k = cfL x := by
 rw [unK, List.take_of_length_le hk, ← cf_filter]
 apply List.filter_congr
 intro u _
 exact unB_eq x u

def whyW (x : Sgr) : List UInt8 := if hidB x then [104, 105, 100, 100, 101, 110] else if 0 < (twL x).length then [116, 119, 111, 32, 119, 97, 121, 115] else if 0 < (pvL x).length then [98, 114, 101, 97, 107] else if 0 < (cfL x).length then [99, 111, 110, 102, 108, 105, 99, 116] else [109, 97, 100, 101]

def madeB (x : Sgr) : Bool := sgB x && decide (whyW x = [109, 97, 100, 101])

theorem why_hid {x : Sgr} (h : hidB x = true) : whyW x = [104, 105, 100, 100, 101, 110] := by rw [whyW, if_pos h]

theorem why_two {x : Sgr} (h : hidB x = false) (h1 : (0 : Int) < ((twL x).length : Int)) : whyW x = [116, 119, 111, 32, 119, 97, 121, 115] := by rw [whyW, if_neg (by rw [h]; decide), if_pos (by omega)]

theorem why_brk {x : Sgr} (h : hidB x = false) (h1 : ¬ (0 : Int) < ((twL x).length : Int)) (h2 : (0 : Int) < ((pvL x).length : Int)) : whyW x = [98, 114, 101, 97, 107] := by rw [whyW, if_neg (by rw [h]; decide), if_neg (by omega), if_pos (by omega)]

theorem why_cf {x : Sgr} (h : hidB x = false) (h1 : ¬ (0 : Int) < ((twL x).length : Int)) (h2 : ¬ (0 : Int) < ((pvL x).length : Int)) (h3 : (0 : Int) < ((cfL x).length : Int)) : whyW x = [99, 111, 110, 102, 108, 105, 99, 116] := by rw [whyW, if_neg (by rw [h]; decide), if_neg (by omega), if_neg (by omega), if_pos (by omega)]

theorem why_made {x : Sgr} (h : hidB x = false) (h1 : ¬ (0 : Int) < ((twL x).length : Int)) (h2 : ¬ (0 : Int) < ((pvL x).length : Int)) (h3 : ¬ (0 : Int) < ((cfL x).length : Int)) : whyW x = [109, 97, 100, 101] := by rw [whyW, if_neg (by rw [h]; decide), if_neg (by omega), if_neg (by omega), if_neg (by omega)]

theorem sp_impl_isInput (x : Sgr) (sig : Int) (hb : x.bulk ≤ 1048576) (hs : sig < x.sigs.length) : Sp Tryz.prog 298 [(.agg [(.slice false 2 (x.sigs.map Sgn.d)), (.slice false 1 (x.codes.map D.str)), (.slice false 4 (x.arcs.map Arc.d))]), (.int .i64 sig)] [.any, .any] (.bool (inputB x sig)) := by
 refine Sp_intro (lend := true) Tryz.func298 rfl rfl rfl (fun _ => rfl) (fun c hc hX => ?_)
 obtain ⟨hp0, hp1, hp2⟩ := Sgr.parts hb
 have hn0 := bulkF_len hp0
 have hn1 := bulk_len hp1
 have hx1 := bulk_mem hp1
 have hn2 := bulkF_len hp2
 refine T_seq (T_region hc (Ch.s (.ptr 2000 0) (.box 2000 _ _ rfl (.aggD _)) (Ch.s (.d (.bool false)) pa (Ch.nil (T_seq (T_region hc (Ch.s (.d (.int .i64 sig)) pm ?_)))))))
 refine Ch.s (.d (.bool (decide (0 ≤ sig)))) (.pure (.int _ _ _ _ _ rfl rfl rfl rfl)) (Ch.s (.d (.bool (decide (0 ≤ sig)))) pm ?_)
 cases h1 : (decide (0 ≤ sig)) with
 | true =>
  replace h1 := of_decide_eq_true h1
  refine Ch.s (.ptr 2000 0) (.pure (.fldPtr _ _ _ rfl fld35_0 rfl)) (Ch.s (.d (.slice false 2 (x.sigs.map Sgn.d))) (.pure (.loadPtr1 _ _ rfl ag32 rfl rfl rfl)) (Ch.s (.d (.int .i64 sig)) pm (Ch.s (.d (.ref (.agg [(.str ((x.sigs.getD ((sig).toNat) default).name)), (.int .i64 ((x.sigs.getD ((sig).toNat) default).kind))]))) (.pure (.idx _ _ _ 154 ((sig).toNat) rfl Tryz.underlying32 sz154 rfl rfl (by omega) get_mapA)) (Ch.s (.d (.ref (.int .i64 ((x.sigs.getD ((sig).toNat) default).kind)))) (.pure (.fldRef _ _ _ rfl fld154_1 rfl rfl rfl)) (Ch.s (.d (.int .i64 ((x.sigs.getD ((sig).toNat) default).kind))) (.pure (.loadRef1 _ _ rfl ag3 rfl rfl)) (Ch.s (.d (.bool (decide (((x.sigs.getD ((sig).toNat) default).kind) = 1)))) (.pure (.int _ _ _ _ _ rfl rfl rfl rfl)) (Ch.s (.d (.bool (decide (((x.sigs.getD ((sig).toNat) default).kind) = 1)))) (.pure (.pickT _ _ _ rfl rfl rfl)) ?_)))))))
  refine Ch.s (.d (.bool (decide (((x.sigs.getD ((sig).toNat) default).kind) = 1)))) pa (Ch.nil (T_ret ?_))
  exact endR [(.d (.bool (decide (((x.sigs.getD ((sig).toNat) default).kind) = 1))))] [] [] (.cons (.tmp 4 rfl) .nil) (.cons (.any _) (.cons (.any _) .nil)) (Exp.of (congrArg D.bool (by unfold inputB; simp only [*, decide_true, decide_false, Bool.true_and, Bool.false_and])) (.d _)) rfl rfl
 | false =>
  replace h1 := of_decide_eq_false h1
  refine Ch.skip rfl rfl (Ch.skip rfl rfl (Ch.skip rfl rfl (Ch.skip rfl rfl (Ch.skip rfl rfl (Ch.skip rfl rfl (Ch.skip rfl rfl (Ch.s (.d (.bool false)) (.pure (.pickF _ _ _ rfl rfl rfl)) ?_)))))))
  refine Ch.s (.d (.bool false)) pa (Ch.nil (T_ret ?_))
  exact endR [(.d (.bool false))] [] [] (.cons (.tmp 4 rfl) .nil) (.cons (.any _) (.cons (.any _) .nil)) (Exp.of (congrArg D.bool (by unfold inputB; simp only [*, decide_true, decide_false, Bool.true_and, Bool.false_and])) (.d _)) rfl rfl

set_option maxHeartbeats 1000000 in
theorem sp_impl_twoWays (x : Sgr) (hb : x.bulk ≤ 1048576) (hx : SgOk x) : Sp Tryz.prog 282 [(.agg [(.slice false 2 (x.sigs.map Sgn.d)), (.slice false 1 (x.codes.map D.str)), (.slice false 4 (x.arcs.map Arc.d))])] [.any] (.slice true 1 ((twL x).map intsU)) := by
 refine Sp_intro (lend := true) Tryz.func282 rfl rfl rfl (fun _ => rfl) (fun c hc hX => ?_)
 obtain ⟨hp0, hp1, hp2⟩ := Sgr.parts hb
 have hn0 := bulkF_len hp0
 have hn1 := bulk_len hp1
 have hx1 := bulk_mem hp1
 have hn2 := bulkF_len hp2; have hx8 := hx.eight; have hxl := hx.len; have hxf := hx.few; have hen := hx.ends
 refine T_seq (T_region hc (Ch.s (.ptr 1000 0) (.box 1000 _ _ rfl (.aggD _)) (Ch.s (.c (.slice none 0 0)) pa (Ch.nil (T_seq (T_region hc (Ch.s (.row 8000) (.slice 8000 _ 55 _ rfl sty49 (xs := []) rfl rfl .nil rfl rfl (by decide)) ?_)))))))
 refine Ch.s (.row 8000) pa (Ch.nil (T_seq (T_seq (T_region hc (Ch.s (.ptr 1000 2) (.pure (.fldPtr _ _ _ rfl fld35_2 rfl)) (Ch.s (.d (.slice false 4 (x.arcs.map Arc.d))) (.pure (.loadPtr1 _ _ rfl ag33 rfl rfl rfl)) (Ch.s (.d (.int .i64 ((x.arcs.length : Nat) : Int))) (.pure (.len _ _ 125 rfl Tryz.underlying33 (.sh _ _) (by simp))) ?_)))))))
 refine Ch.s (.d (.int .i64 0)) pm (Ch.nil (T_block ?_))
 refine T_loop (ι := Nat) (fun k => { n := 63, sl := [(1, (.ptr 1000 0)), (3, (.row 3)), (10, (.d (.slice false 4 (x.arcs.map Arc.d)))), (11, (.d (.int .i64 ((x.arcs.length : Nat) : Int)))), (12, (.d (.int .i64 ((k : Nat) : Int))))], hp := [(3, (some (.row 1 ((prTo (twP x) x.arcs.length k).map intsU)))), (1000, (some (.box [(.d (.slice false 2 (x.sigs.map Sgn.d))), (.d (.slice false 1 (x.codes.map D.str))), (.d (.slice false 4 (x.arcs.map Arc.d)))])))], pin := [] }) (fun k => k ≤ x.arcs.length) (fun k => x.arcs.length - k) ⟨0, (by omega), (Wk.ren [(3, 8000)] rfl rfl rfl rfl (ai rfl (ai rfl (ai rfl (ai rfl (ai (vI (by first | rfl | omega | (simp; done) | (simp; omega))) trivial))))) (ai (oR (by first | rfl | (rw [prM_end (by omega) (by omega)]; done))) (ai rfl trivial)))⟩ (fun k hp0 => ?_)
 refine T_seq (T_region hc (Ch.s (.d (.bool (decide (((k : Nat) : Int) < ((x.arcs.length : Nat) : Int))))) (.pure (.int _ _ _ _ _ rfl rfl rfl rfl)) (Ch.nil (T_seq ?_))))
 refine T_cond (b := (decide (((k : Nat) : Int) < ((x.arcs.length : Nat) : Int)))) rfl (fun h1 => ?_) (fun h1 => ?_)
 ·
  replace h1 := of_decide_eq_true h1
  try have hsk := (hx.sig _ (getD_mem (l := x.arcs) (j := k) (d := default) (by omega))).2
  refine T_skip (T_seq (T_block (T_seq (T_region hc (Ch.s (.d (.int .i64 ((k : Nat) : Int))) pm (Ch.s (.d (.ref (.agg [(.int .i64 ((x.arcs.getD k default).src)), (.int .i64 ((x.arcs.getD k default).sig)), (.bool ((x.arcs.getD k default).up)), (.int .i64 ((x.arcs.getD k default).dst))]))) (.pure (.idx _ _ _ 125 (k) rfl Tryz.underlying33 sz125 rfl rfl rfl get_mapA)) (Ch.s (.d (.agg [(.int .i64 ((x.arcs.getD k default).src)), (.int .i64 ((x.arcs.getD k default).sig)), (.bool ((x.arcs.getD k default).up)), (.int .i64 ((x.arcs.getD k default).dst))])) (.pure (.loadRefA _ _ rfl ag125 sz125 rfl)) ?_)))))))
  refine Ch.s (.ptr 5000 0) (.alloc 5000 _ rfl zer125) (Ch.s (.d (.int .i64 ((k : Nat) : Int))) pa (Ch.s .junk (.storePtr _ _ _ rfl rfl rfl (.aggD _) sz125 (Nat.le_of_ble_eq_true rfl)) (Ch.nil (T_seq (T_region hc (Ch.s (.d (.int .i64 ((k : Nat) : Int))) pm (Ch.s (.d (.int .i64 (((k : Nat) : Int) + 1))) (.pure (.int _ _ _ _ _ rfl rfl rfl intV_addA)) ?_)))))))
  refine Ch.s (.d (.int .i64 (((k : Nat) : Int) + 1))) pa (Ch.nil (T_block ?_))
  refine T_loop (ι := Nat) (fun m => { n := 63, sl := [(1, (.ptr 1000 0)), (3, (.row 3)), (4, (.d (.int .i64 ((k : Nat) : Int)))), (5, (.ptr 5000 0)), (6, (.d (.int .i64 ((m : Nat) : Int)))), (10, (.d (.slice false 4 (x.arcs.map Arc.d)))), (11, (.d (.int .i64 ((x.arcs.length : Nat) : Int)))), (12, (.d (.int .i64 ((k : Nat) : Int))))], hp := [(3, (some (.row 1 ((prM (twP x) x.arcs.length k m).map intsU)))), (1000, (some (.box [(.d (.slice false 2 (x.sigs.map Sgn.d))), (.d (.slice false 1 (x.codes.map D.str))), (.d (.slice false 4 (x.arcs.map Arc.d)))]))), (5000, (some (.box [(.d (.int .i64 ((x.arcs.getD k default).src))), (.d (.int .i64 ((x.arcs.getD k default).sig))), (.d (.bool ((x.arcs.getD k default).up))), (.d (.int .i64 ((x.arcs.getD k default).dst)))])))], pin := [] }) (fun m => k < m ∧ m ≤ x.arcs.length) (fun m => x.arcs.length - m) ⟨k + 1, ⟨by omega, by omega⟩, (Wk.of rfl rfl (ai rfl (ai rfl (ai rfl (ai rfl (ai (vI (by first | rfl | omega | (simp; done) | (simp; omega))) (ai rfl (ai rfl (ai rfl trivial)))))))) (ai (oR (by first | (exact congrArg (List.map _) (prM_start _ _ _)) | (exact push rfl (prM_yes (by omega) (decide_eq_true (by omega)))) | (exact congrArg (List.map _) (prM_no (decide_eq_false (by omega)))))) (ai rfl (ai rfl trivial))))⟩ (fun m hp1 => ?_)
  have hq := prM_leA (twP x) (n := x.arcs.length) (k := k) (m := m) (by omega) (by omega) (by omega)
  refine T_seq (T_seq (T_region hc (Ch.s (.d (.int .i64 ((m : Nat) : Int))) pm (Ch.s (.ptr 1000 2) (.pure (.fldPtr _ _ _ rfl fld35_2 rfl)) (Ch.s (.d (.slice false 4 (x.arcs.map Arc.d))) (.pure (.loadPtr1 _ _ rfl ag33 rfl rfl rfl)) (Ch.s (.d (.int .i64 ((x.arcs.length : Nat) : Int))) (.pure (.len _ _ 125 rfl Tryz.underlying33 (.sh _ _) (by simp))) (Ch.s (.d (.bool (decide (((m : Nat) : Int) < ((x.arcs.length : Nat) : Int))))) (.pure (.int _ _ _ _ _ rfl rfl rfl rfl)) ?_)))))))
  refine Ch.nil ?_
  refine T_cond (b := (decide (((m : Nat) : Int) < ((x.arcs.length : Nat) : Int)))) rfl (fun h2 => ?_) (fun h2 => ?_)
  ·
   replace h2 := of_decide_eq_true h2
   refine T_skip (T_seq (T_block (T_seq (T_region hc (Ch.s (.ptr 1000 2) (.pure (.fldPtr _ _ _ rfl fld35_2 rfl)) (Ch.s (.d (.slice false 4 (x.arcs.map Arc.d))) (.pure (.loadPtr1 _ _ rfl ag33 rfl rfl rfl)) (Ch.s (.d (.int .i64 ((m : Nat) : Int))) pm ?_)))))))
   refine Ch.s (.d (.ref (.agg [(.int .i64 ((x.arcs.getD m default).src)), (.int .i64 ((x.arcs.getD m default).sig)), (.bool ((x.arcs.getD m default).up)), (.int .i64 ((x.arcs.getD m default).dst))]))) (.pure (.idx _ _ _ 125 (m) rfl Tryz.underlying33 sz125 rfl rfl rfl get_mapA)) (Ch.s (.d (.agg [(.int .i64 ((x.arcs.getD m default).src)), (.int .i64 ((x.arcs.getD m default).sig)), (.bool ((x.arcs.getD m default).up)), (.int .i64 ((x.arcs.getD m default).dst))])) (.pure (.loadRefA _ _ rfl ag125 sz125 rfl)) (Ch.s (.ptr 7000 0) (.alloc 7000 _ rfl zer125) (Ch.s .junk (.storePtr _ _ _ rfl rfl rfl (.aggD _) sz125 (Nat.le_of_ble_eq_true rfl)) (Ch.nil (T_seq (T_region hc (Ch.s (.ptr 5000 1) (.pure (.fldPtr _ _ _ rfl fld125_1 rfl)) ?_)))))))
   refine Ch.s (.d (.int .i64 ((x.arcs.getD k default).sig))) (.pure (.loadPtr1 _ _ rfl ag3 rfl rfl rfl)) (Ch.s (.d (.bool (!(decide (((x.arcs.getD k default).sig) = (-1)))))) (.pure (.int _ _ _ _ _ rfl rfl rfl rfl)) (Ch.s (.d (.bool (!(decide (((x.arcs.getD k default).sig) = (-1)))))) pm ?_))
   cases h3 : (decide (((x.arcs.getD k default).sig) = (-1))) with
   | true =>
    replace h3 := of_decide_eq_true h3
    refine Ch.skip rfl rfl (Ch.skip rfl rfl (Ch.skip rfl rfl (Ch.skip rfl rfl (Ch.skip rfl rfl (Ch.s (.d (.bool false)) (.pure (.pickF _ _ _ rfl rfl rfl)) (Ch.s (.d (.bool false)) pm (Ch.skip rfl rfl ?_)))))))
    refine Ch.skip rfl rfl (Ch.skip rfl rfl (Ch.skip rfl rfl (Ch.skip rfl rfl (Ch.s (.d (.bool false)) (.pure (.pickF _ _ _ rfl rfl rfl)) (Ch.s (.d (.bool false)) pm (Ch.skip rfl rfl (Ch.skip rfl rfl ?_)))))))
    refine Ch.skip rfl rfl (Ch.skip rfl rfl (Ch.skip rfl rfl (Ch.s (.d (.bool false)) (.pure (.pickF _ _ _ rfl rfl rfl)) (Ch.nil ?_))))
    refine T_cond (b := false) rfl (fun h => nomatch h) (fun _ => ?_)
    refine T_skip (T_region hc (Ch.s (.d (.int .i64 ((m : Nat) : Int))) pm (Ch.s (.d (.int .i64 (((m : Nat) : Int) + 1))) (.pure (.int _ _ _ _ _ rfl rfl rfl intV_addA)) (Ch.s (.d (.int .i64 (((m : Nat) : Int) + 1))) pa (Ch.nil ?_)))))
    exact nx (m + 1) ⟨by omega, by omega⟩ (Wk.of rfl rfl (ai rfl (ai rfl (ai rfl (ai rfl (ai (vI (by first | rfl | omega | (simp; done) | (simp; omega))) (ai rfl (ai rfl (ai rfl trivial)))))))) (ai (oR (by first | (exact congrArg (List.map _) (prM_start _ _ _)) | (exact push rfl (prM_yes (by omega) (decide_eq_true (by omega)))) | (exact congrArg (List.map _) (prM_no (decide_eq_false (by omega)))))) (ai rfl (ai rfl trivial))))
   | false =>
    replace h3 := of_decide_eq_false h3
    refine Ch.s (.ptr 7000 0) (.pure (.fldPtr _ _ _ rfl fld125_0 rfl)) (Ch.s (.d (.int .i64 ((x.arcs.getD m default).src))) (.pure (.loadPtr1 _ _ rfl ag3 rfl rfl rfl)) (Ch.s (.ptr 5000 0) (.pure (.fldPtr _ _ _ rfl fld125_0 rfl)) (Ch.s (.d (.int .i64 ((x.arcs.getD k default).src))) (.pure (.loadPtr1 _ _ rfl ag3 rfl rfl rfl)) (Ch.s (.d (.bool (decide (((x.arcs.getD m default).src) = ((x.arcs.getD k default).src))))) (.pure (.int _ _ _ _ _ rfl rfl rfl rfl)) (Ch.s (.d (.bool (decide (((x.arcs.getD m default).src) = ((x.arcs.getD k default).src))))) (.pure (.pickT _ _ _ rfl rfl rfl)) (Ch.s (.d (.bool (decide (((x.arcs.getD m default).src) = ((x.arcs.getD k default).src))))) pm ?_))))))
    cases h4 : (decide (((x.arcs.getD m default).src) = ((x.arcs.getD k default).src))) with
    | true =>
     replace h4 := of_decide_eq_true h4
     refine Ch.s (.ptr 7000 1) (.pure (.fldPtr _ _ _ rfl fld125_1 rfl)) (Ch.s (.d (.int .i64 ((x.arcs.getD m default).sig))) (.pure (.loadPtr1 _ _ rfl ag3 rfl rfl rfl)) (Ch.s (.ptr 5000 1) (.pure (.fldPtr _ _ _ rfl fld125_1 rfl)) (Ch.s (.d (.int .i64 ((x.arcs.getD k default).sig))) (.pure (.loadPtr1 _ _ rfl ag3 rfl rfl rfl)) (Ch.s (.d (.bool (decide (((x.arcs.getD m default).sig) = ((x.arcs.getD k default).sig))))) (.pure (.int _ _ _ _ _ rfl rfl rfl rfl)) (Ch.s (.d (.bool (decide (((x.arcs.getD m default).sig) = ((x.arcs.getD k default).sig))))) (.pure (.pickT _ _ _ rfl rfl rfl)) (Ch.s (.d (.bool (decide (((x.arcs.getD m default).sig) = ((x.arcs.getD k default).sig))))) pm ?_))))))
     cases h5 : (decide (((x.arcs.getD m default).sig) = ((x.arcs.getD k default).sig))) with
     | true =>
      replace h5 := of_decide_eq_true h5
      refine Ch.s (.ptr 7000 3) (.pure (.fldPtr _ _ _ rfl fld125_3 rfl)) (Ch.s (.d (.int .i64 ((x.arcs.getD m default).dst))) (.pure (.loadPtr1 _ _ rfl ag3 rfl rfl rfl)) (Ch.s (.ptr 5000 3) (.pure (.fldPtr _ _ _ rfl fld125_3 rfl)) (Ch.s (.d (.int .i64 ((x.arcs.getD k default).dst))) (.pure (.loadPtr1 _ _ rfl ag3 rfl rfl rfl)) (Ch.s (.d (.bool (!(decide (((x.arcs.getD m default).dst) = ((x.arcs.getD k default).dst)))))) (.pure (.int _ _ _ _ _ rfl rfl rfl rfl)) (Ch.s (.d (.bool (!(decide (((x.arcs.getD m default).dst) = ((x.arcs.getD k default).dst)))))) (.pure (.pickT _ _ _ rfl rfl rfl)) (Ch.nil ?_))))))
      refine T_cond (b := (!(decide (((x.arcs.getD m default).dst) = ((x.arcs.getD k default).dst))))) rfl (fun h6 => ?_) (fun h6 => ?_)
      ·
       replace h6 := nott h6
       replace h6 := of_decide_eq_false h6
       refine T_region hc (Ch.s (.row 3) pm (Ch.s (.d (.int .i64 ((k : Nat) : Int))) pm (Ch.s (.d (.int .i64 ((m : Nat) : Int))) pm (Ch.s (.row 58000) (.slice 58000 _ 3 _ rfl sty55 (xs := [.tmp 56, .tmp 57]) rfl rfl (.cons (.d _) (.cons (.d _) .nil)) rfl rfl (by decide)) (Ch.s (.row 59000) (.slice 59000 _ 55 _ rfl sty49 (xs := [.tmp 58]) rfl rfl (.cons (.row rfl) .nil) rfl rfl (by decide)) ?_)))))
       refine Ch.step (v := (.row 60000)) rfl (.append 60000 _ _ _ 55 rfl sty49 (by decide) (.rowK rfl) (.inr ⟨_, rfl, rfl⟩) (.rowK rfl) rfl (by first | omega | (simp only [List.length_append, List.length_map, List.length_cons, List.length_nil]; omega) | (simp; omega) | (simp; done))) rfl rfl ?_
       refine Ch.s (.row 60000) pa (Ch.nil (T_region hc (Ch.s (.d (.int .i64 ((m : Nat) : Int))) pm (Ch.s (.d (.int .i64 (((m : Nat) : Int) + 1))) (.pure (.int _ _ _ _ _ rfl rfl rfl intV_addA)) (Ch.s (.d (.int .i64 (((m : Nat) : Int) + 1))) pa (Ch.nil ?_))))))
       exact nx (m + 1) ⟨by omega, by omega⟩ (Wk.ren [(3, 60000)] rfl rfl rfl rfl (ai rfl (ai rfl (ai rfl (ai rfl (ai (vI (by first | rfl | omega | (simp; done) | (simp; omega))) (ai rfl (ai rfl (ai rfl trivial)))))))) (ai (oR (by first | (exact congrArg (List.map _) (prM_start _ _ _)) | (exact push rfl (prM_yes (by omega) (decide_eq_true (by omega)))) | (exact congrArg (List.map _) (prM_no (decide_eq_false (by omega)))))) (ai rfl (ai rfl trivial))))
      ·
       replace h6 := notf h6
       replace h6 := of_decide_eq_true h6
       refine T_skip (T_region hc (Ch.s (.d (.int .i64 ((m : Nat) : Int))) pm (Ch.s (.d (.int .i64 (((m : Nat) : Int) + 1))) (.pure (.int _ _ _ _ _ rfl rfl rfl intV_addA)) (Ch.s (.d (.int .i64 (((m : Nat) : Int) + 1))) pa (Ch.nil ?_)))))
       exact nx (m + 1) ⟨by omega, by omega⟩ (Wk.of rfl rfl (ai rfl (ai rfl (ai rfl (ai rfl (ai (vI (by first | rfl | omega | (simp; done) | (simp; omega))) (ai rfl (ai rfl (ai rfl trivial)))))))) (ai (oR (by first | (exact congrArg (List.map _) (prM_start _ _ _)) | (exact push rfl (prM_yes (by omega) (decide_eq_true (by omega)))) | (exact congrArg (List.map _) (prM_no (decide_eq_false (by omega)))))) (ai rfl (ai rfl trivial))))
     | false =>
      replace h5 := of_decide_eq_false h5
      refine Ch.skip rfl rfl (Ch.skip rfl rfl (Ch.skip rfl rfl (Ch.skip rfl rfl (Ch.skip rfl rfl (Ch.s (.d (.bool false)) (.pure (.pickF _ _ _ rfl rfl rfl)) (Ch.nil ?_))))))
      refine T_cond (b := false) rfl (fun h => nomatch h) (fun _ => ?_)
      refine T_skip (T_region hc (Ch.s (.d (.int .i64 ((m : Nat) : Int))) pm (Ch.s (.d (.int .i64 (((m : Nat) : Int) + 1))) (.pure (.int _ _ _ _ _ rfl rfl rfl intV_addA)) (Ch.s (.d (.int .i64 (((m : Nat) : Int) + 1))) pa (Ch.nil ?_)))))
      exact nx (m + 1) ⟨by omega, by omega⟩ (Wk.of rfl rfl (ai rfl (ai rfl (ai rfl (ai rfl (ai (vI (by first | rfl | omega | (simp; done) | (simp; omega))) (ai rfl (ai rfl (ai rfl trivial)))))))) (ai (oR (by first | (exact congrArg (List.map _) (prM_start _ _ _)) | (exact push rfl (prM_yes (by omega) (decide_eq_true (by omega)))) | (exact congrArg (List.map _) (prM_no (decide_eq_false (by omega)))))) (ai rfl (ai rfl trivial))))
    | false =>
     replace h4 := of_decide_eq_false h4
     refine Ch.skip rfl rfl (Ch.skip rfl rfl (Ch.skip rfl rfl (Ch.skip rfl rfl (Ch.skip rfl rfl (Ch.s (.d (.bool false)) (.pure (.pickF _ _ _ rfl rfl rfl)) (Ch.s (.d (.bool false)) pm (Ch.skip rfl rfl ?_)))))))
     refine Ch.skip rfl rfl (Ch.skip rfl rfl (Ch.skip rfl rfl (Ch.skip rfl rfl (Ch.s (.d (.bool false)) (.pure (.pickF _ _ _ rfl rfl rfl)) (Ch.nil ?_)))))
     refine T_cond (b := false) rfl (fun h => nomatch h) (fun _ => ?_)
     refine T_skip (T_region hc (Ch.s (.d (.int .i64 ((m : Nat) : Int))) pm (Ch.s (.d (.int .i64 (((m : Nat) : Int) + 1))) (.pure (.int _ _ _ _ _ rfl rfl rfl intV_addA)) (Ch.s (.d (.int .i64 (((m : Nat) : Int) + 1))) pa (Ch.nil ?_)))))
     exact nx (m + 1) ⟨by omega, by omega⟩ (Wk.of rfl rfl (ai rfl (ai rfl (ai rfl (ai rfl (ai (vI (by first | rfl | omega | (simp; done) | (simp; omega))) (ai rfl (ai rfl (ai rfl trivial)))))))) (ai (oR (by first | (exact congrArg (List.map _) (prM_start _ _ _)) | (exact push rfl (prM_yes (by omega) (decide_eq_true (by omega)))) | (exact congrArg (List.map _) (prM_no (decide_eq_false (by omega)))))) (ai rfl (ai rfl trivial))))
  ·
   replace h2 := of_decide_eq_false h2
   refine T_exit (T_region hc (Ch.s (.d (.int .i64 (((k : Nat) : Int) + 1))) (.pure (.int _ _ _ _ _ rfl rfl rfl intV_addA)) (Ch.s (.d (.int .i64 (((k : Nat) : Int) + 1))) pm (Ch.nil ?_))))
   exact nx (k + 1) (by omega) (Wk.of rfl rfl (ai rfl (ai rfl (ai rfl (ai rfl (ai (vI (by first | rfl | omega | (simp; done) | (simp; omega))) trivial))))) (ai (oR (by first | rfl | (rw [prM_end (by omega) (by omega)]; done))) (ai rfl trivial)))
 ·
  replace h1 := of_decide_eq_false h1
  try have hsk := (hx.sig _ (getD_mem (l := x.arcs) (j := k) (d := default) (by omega))).2
  refine T_exit (T_seq (T_region hc (Ch.s (.row 3) pm (Ch.s (.row 3) pa (Ch.nil (T_ret ?_))))))
  exact endR [(.row 3)] [] [3] (.cons (.tmp 2 rfl) .nil) (.cons (.any _) .nil) (Exp.of (congrArg (D.slice true 1) (by rw [twL, show x.arcs.length = k by omega])) (.row rfl)) rfl rfl

set_option maxHeartbeats 1000000 in
theorem sp_spec_l6Ways (x : Sgr) (hb : x.bulk ≤ 1048576) (hx : SgOk x) : Sp Tryz.prog 167 [(.agg [(.slice false 2 (x.sigs.map Sgn.d)), (.slice false 1 (x.codes.map D.str)), (.slice false 4 (x.arcs.map Arc.d))])] [.any] (.slice true 1 ((twL x).map intsU)) := by
 refine Sp_intro (lend := true) Tryz.func167 rfl rfl rfl (fun _ => rfl) (fun c hc hX => ?_)
 obtain ⟨hp0, hp1, hp2⟩ := Sgr.parts hb
 have hn0 := bulkF_len hp0
 have hn1 := bulk_len hp1
 have hx1 := bulk_mem hp1
 have hn2 := bulkF_len hp2; have hx8 := hx.eight; have hxl := hx.len; have hxf := hx.few; have hen := hx.ends
 refine T_seq (T_region hc (Ch.s (.ptr 1000 0) (.box 1000 _ _ rfl (.aggD _)) (Ch.s (.c (.slice none 0 0)) pa (Ch.nil (T_seq (T_region hc (Ch.s (.c (.slice none 0 0)) pa ?_)))))))
 refine Ch.nil (T_seq (T_seq (T_region hc (Ch.s (.ptr 1000 2) (.pure (.fldPtr _ _ _ rfl fld35_2 rfl)) (Ch.s (.d (.slice false 4 (x.arcs.map Arc.d))) (.pure (.loadPtr1 _ _ rfl ag33 rfl rfl rfl)) (Ch.s (.d (.int .i64 ((x.arcs.length : Nat) : Int))) (.pure (.len _ _ 125 rfl Tryz.underlying33 (.sh _ _) (by simp))) (Ch.s (.d (.int .i64 0)) pm ?_)))))))
 refine Ch.nil (T_block ?_)
 refine T_loop (ι := Nat) (fun k => { n := 62, sl := [(1, (.ptr 1000 0)), (3, (.row 3)), (9, (.d (.slice false 4 (x.arcs.map Arc.d)))), (10, (.d (.int .i64 ((x.arcs.length : Nat) : Int)))), (11, (.d (.int .i64 ((k : Nat) : Int))))], hp := [(3, (some (.row 1 ((prTo (twP x) x.arcs.length k).map intsU)))), (1000, (some (.box [(.d (.slice false 2 (x.sigs.map Sgn.d))), (.d (.slice false 1 (x.codes.map D.str))), (.d (.slice false 4 (x.arcs.map Arc.d)))])))], pin := [] }) (fun k => k ≤ x.arcs.length) (fun k => x.arcs.length - k) ⟨0, (by omega), (Wk.trans (Wk.nilrow 3 900003 1 rfl rfl rfl) (Wk.ren [(3, 900003)] rfl rfl rfl rfl (ai rfl (ai rfl (ai rfl (ai rfl (ai (vI (by first | rfl | omega | (simp; done) | (simp; omega))) trivial))))) (ai (oR (by first | rfl | (rw [prM_end (by omega) (by omega)]; done))) (ai rfl trivial))))⟩ (fun k hp0 => ?_)
 refine T_seq (T_region hc (Ch.s (.d (.bool (decide (((k : Nat) : Int) < ((x.arcs.length : Nat) : Int))))) (.pure (.int _ _ _ _ _ rfl rfl rfl rfl)) (Ch.nil (T_seq ?_))))
 refine T_cond (b := (decide (((k : Nat) : Int) < ((x.arcs.length : Nat) : Int)))) rfl (fun h1 => ?_) (fun h1 => ?_)
 ·
  replace h1 := of_decide_eq_true h1
  try have hsk := (hx.sig _ (getD_mem (l := x.arcs) (j := k) (d := default) (by omega))).2
  refine T_skip (T_seq (T_block (T_seq (T_region hc (Ch.s (.d (.int .i64 ((k : Nat) : Int))) pm (Ch.s (.d (.ref (.agg [(.int .i64 ((x.arcs.getD k default).src)), (.int .i64 ((x.arcs.getD k default).sig)), (.bool ((x.arcs.getD k default).up)), (.int .i64 ((x.arcs.getD k default).dst))]))) (.pure (.idx _ _ _ 125 (k) rfl Tryz.underlying33 sz125 rfl rfl rfl get_mapA)) (Ch.s (.d (.agg [(.int .i64 ((x.arcs.getD k default).src)), (.int .i64 ((x.arcs.getD k default).sig)), (.bool ((x.arcs.getD k default).up)), (.int .i64 ((x.arcs.getD k default).dst))])) (.pure (.loadRefA _ _ rfl ag125 sz125 rfl)) ?_)))))))
  refine Ch.s (.ptr 5000 0) (.alloc 5000 _ rfl zer125) (Ch.s (.d (.int .i64 ((k : Nat) : Int))) pa (Ch.s .junk (.storePtr _ _ _ rfl rfl rfl (.aggD _) sz125 (Nat.le_of_ble_eq_true rfl)) (Ch.nil (T_seq (T_region hc (Ch.s (.d (.int .i64 ((k : Nat) : Int))) pm (Ch.s (.d (.int .i64 (((k : Nat) : Int) + 1))) (.pure (.int _ _ _ _ _ rfl rfl rfl intV_addA)) ?_)))))))
  refine Ch.s (.d (.int .i64 (((k : Nat) : Int) + 1))) pa (Ch.nil (T_block ?_))
  refine T_loop (ι := Nat) (fun m => { n := 62, sl := [(1, (.ptr 1000 0)), (3, (.row 3)), (4, (.d (.int .i64 ((k : Nat) : Int)))), (5, (.ptr 5000 0)), (6, (.d (.int .i64 ((m : Nat) : Int)))), (9, (.d (.slice false 4 (x.arcs.map Arc.d)))), (10, (.d (.int .i64 ((x.arcs.length : Nat) : Int)))), (11, (.d (.int .i64 ((k : Nat) : Int))))], hp := [(3, (some (.row 1 ((prM (twP x) x.arcs.length k m).map intsU)))), (1000, (some (.box [(.d (.slice false 2 (x.sigs.map Sgn.d))), (.d (.slice false 1 (x.codes.map D.str))), (.d (.slice false 4 (x.arcs.map Arc.d)))]))), (5000, (some (.box [(.d (.int .i64 ((x.arcs.getD k default).src))), (.d (.int .i64 ((x.arcs.getD k default).sig))), (.d (.bool ((x.arcs.getD k default).up))), (.d (.int .i64 ((x.arcs.getD k default).dst)))])))], pin := [] }) (fun m => k < m ∧ m ≤ x.arcs.length) (fun m => x.arcs.length - m) ⟨k + 1, ⟨by omega, by omega⟩, (Wk.of rfl rfl (ai rfl (ai rfl (ai rfl (ai rfl (ai (vI (by first | rfl | omega | (simp; done) | (simp; omega))) (ai rfl (ai rfl (ai rfl trivial)))))))) (ai (oR (by first | (exact congrArg (List.map _) (prM_start _ _ _)) | (exact push rfl (prM_yes (by omega) (decide_eq_true (by omega)))) | (exact congrArg (List.map _) (prM_no (decide_eq_false (by omega)))))) (ai rfl (ai rfl trivial))))⟩ (fun m hp1 => ?_)
  have hq := prM_leA (twP x) (n := x.arcs.length) (k := k) (m := m) (by omega) (by omega) (by omega)
  refine T_seq (T_seq (T_region hc (Ch.s (.d (.int .i64 ((m : Nat) : Int))) pm (Ch.s (.ptr 1000 2) (.pure (.fldPtr _ _ _ rfl fld35_2 rfl)) (Ch.s (.d (.slice false 4 (x.arcs.map Arc.d))) (.pure (.loadPtr1 _ _ rfl ag33 rfl rfl rfl)) (Ch.s (.d (.int .i64 ((x.arcs.length : Nat) : Int))) (.pure (.len _ _ 125 rfl Tryz.underlying33 (.sh _ _) (by simp))) (Ch.s (.d (.bool (decide (((m : Nat) : Int) < ((x.arcs.length : Nat) : Int))))) (.pure (.int _ _ _ _ _ rfl rfl rfl rfl)) ?_)))))))
  refine Ch.nil ?_
  refine T_cond (b := (decide (((m : Nat) : Int) < ((x.arcs.length : Nat) : Int)))) rfl (fun h2 => ?_) (fun h2 => ?_)
  ·
   replace h2 := of_decide_eq_true h2
   refine T_skip (T_seq (T_block (T_seq (T_region hc (Ch.s (.ptr 1000 2) (.pure (.fldPtr _ _ _ rfl fld35_2 rfl)) (Ch.s (.d (.slice false 4 (x.arcs.map Arc.d))) (.pure (.loadPtr1 _ _ rfl ag33 rfl rfl rfl)) (Ch.s (.d (.int .i64 ((m : Nat) : Int))) pm ?_)))))))
   refine Ch.s (.d (.ref (.agg [(.int .i64 ((x.arcs.getD m default).src)), (.int .i64 ((x.arcs.getD m default).sig)), (.bool ((x.arcs.getD m default).up)), (.int .i64 ((x.arcs.getD m default).dst))]))) (.pure (.idx _ _ _ 125 (m) rfl Tryz.underlying33 sz125 rfl rfl rfl get_mapA)) (Ch.s (.d (.agg [(.int .i64 ((x.arcs.getD m default).src)), (.int .i64 ((x.arcs.getD m default).sig)), (.bool ((x.arcs.getD m default).up)), (.int .i64 ((x.arcs.getD m default).dst))])) (.pure (.loadRefA _ _ rfl ag125 sz125 rfl)) (Ch.s (.ptr 7000 0) (.alloc 7000 _ rfl zer125) (Ch.s .junk (.storePtr _ _ _ rfl rfl rfl (.aggD _) sz125 (Nat.le_of_ble_eq_true rfl)) (Ch.nil (T_seq (T_region hc (Ch.s (.ptr 5000 0) (.pure (.fldPtr _ _ _ rfl fld125_0 rfl)) ?_)))))))
   refine Ch.s (.d (.int .i64 ((x.arcs.getD k default).src))) (.pure (.loadPtr1 _ _ rfl ag3 rfl rfl rfl)) (Ch.s (.ptr 7000 0) (.pure (.fldPtr _ _ _ rfl fld125_0 rfl)) (Ch.s (.d (.int .i64 ((x.arcs.getD m default).src))) (.pure (.loadPtr1 _ _ rfl ag3 rfl rfl rfl)) (Ch.s (.d (.bool (decide (((x.arcs.getD k default).src) = ((x.arcs.getD m default).src))))) (.pure (.int _ _ _ _ _ rfl rfl rfl rfl)) (Ch.s (.d (.bool (decide (((x.arcs.getD k default).src) = ((x.arcs.getD m default).src))))) pm ?_))))
   cases h3 : (decide (((x.arcs.getD k default).src) = ((x.arcs.getD m default).src))) with
   | true =>
    replace h3 := of_decide_eq_true h3
    refine Ch.s (.ptr 5000 1) (.pure (.fldPtr _ _ _ rfl fld125_1 rfl)) (Ch.s (.d (.int .i64 ((x.arcs.getD k default).sig))) (.pure (.loadPtr1 _ _ rfl ag3 rfl rfl rfl)) (Ch.s (.ptr 7000 1) (.pure (.fldPtr _ _ _ rfl fld125_1 rfl)) (Ch.s (.d (.int .i64 ((x.arcs.getD m default).sig))) (.pure (.loadPtr1 _ _ rfl ag3 rfl rfl rfl)) (Ch.s (.d (.bool (decide (((x.arcs.getD k default).sig) = ((x.arcs.getD m default).sig))))) (.pure (.int _ _ _ _ _ rfl rfl rfl rfl)) (Ch.s (.d (.bool (decide (((x.arcs.getD k default).sig) = ((x.arcs.getD m default).sig))))) (.pure (.pickT _ _ _ rfl rfl rfl)) (Ch.s (.d (.bool (decide (((x.arcs.getD k default).sig) = ((x.arcs.getD m default).sig))))) pm ?_))))))
    cases h4 : (decide (((x.arcs.getD k default).sig) = ((x.arcs.getD m default).sig))) with
    | true =>
     replace h4 := of_decide_eq_true h4
     refine Ch.s (.ptr 5000 1) (.pure (.fldPtr _ _ _ rfl fld125_1 rfl)) (Ch.s (.d (.int .i64 ((x.arcs.getD k default).sig))) (.pure (.loadPtr1 _ _ rfl ag3 rfl rfl rfl)) (Ch.s (.d (.bool (decide (0 ≤ ((x.arcs.getD k default).sig))))) (.pure (.int _ _ _ _ _ rfl rfl rfl rfl)) (Ch.s (.d (.bool (decide (0 ≤ ((x.arcs.getD k default).sig))))) (.pure (.pickT _ _ _ rfl rfl rfl)) (Ch.s (.d (.bool (decide (0 ≤ ((x.arcs.getD k default).sig))))) pm ?_))))
     cases h5 : (decide (0 ≤ ((x.arcs.getD k default).sig))) with
     | true =>
      replace h5 := of_decide_eq_true h5
      refine Ch.s (.ptr 5000 3) (.pure (.fldPtr _ _ _ rfl fld125_3 rfl)) (Ch.s (.d (.int .i64 ((x.arcs.getD k default).dst))) (.pure (.loadPtr1 _ _ rfl ag3 rfl rfl rfl)) (Ch.s (.ptr 7000 3) (.pure (.fldPtr _ _ _ rfl fld125_3 rfl)) (Ch.s (.d (.int .i64 ((x.arcs.getD m default).dst))) (.pure (.loadPtr1 _ _ rfl ag3 rfl rfl rfl)) (Ch.s (.d (.bool (!(decide (((x.arcs.getD k default).dst) = ((x.arcs.getD m default).dst)))))) (.pure (.int _ _ _ _ _ rfl rfl rfl rfl)) (Ch.s (.d (.bool (!(decide (((x.arcs.getD k default).dst) = ((x.arcs.getD m default).dst)))))) (.pure (.pickT _ _ _ rfl rfl rfl)) (Ch.nil ?_))))))
      refine T_cond (b := (!(decide (((x.arcs.getD k default).dst) = ((x.arcs.getD m default).dst))))) rfl (fun h6 => ?_) (fun h6 => ?_)
      ·
       replace h6 := nott h6
       replace h6 := of_decide_eq_false h6
       refine T_region hc (Ch.s (.row 3) pm (Ch.s (.d (.int .i64 ((k : Nat) : Int))) pm (Ch.s (.d (.int .i64 ((m : Nat) : Int))) pm (Ch.s (.row 57000) (.slice 57000 _ 3 _ rfl sty55 (xs := [.tmp 55, .tmp 56]) rfl rfl (.cons (.d _) (.cons (.d _) .nil)) rfl rfl (by decide)) (Ch.s (.row 58000) (.slice 58000 _ 55 _ rfl sty49 (xs := [.tmp 57]) rfl rfl (.cons (.row rfl) .nil) rfl rfl (by decide)) ?_)))))
       refine Ch.step (v := (.row 59000)) rfl (.append 59000 _ _ _ 55 rfl sty49 (by decide) (.rowK rfl) (.inr ⟨_, rfl, rfl⟩) (.rowK rfl) rfl (by first | omega | (simp only [List.length_append, List.length_map, List.length_cons, List.length_nil]; omega) | (simp; omega) | (simp; done))) rfl rfl ?_
       refine Ch.s (.row 59000) pa (Ch.nil (T_region hc (Ch.s (.d (.int .i64 ((m : Nat) : Int))) pm (Ch.s (.d (.int .i64 (((m : Nat) : Int) + 1))) (.pure (.int _ _ _ _ _ rfl rfl rfl intV_addA)) (Ch.s (.d (.int .i64 (((m : Nat) : Int) + 1))) pa (Ch.nil ?_))))))
       exact nx (m + 1) ⟨by omega, by omega⟩ (Wk.ren [(3, 59000)] rfl rfl rfl rfl (ai rfl (ai rfl (ai rfl (ai rfl (ai (vI (by first | rfl | omega | (simp; done) | (simp; omega))) (ai rfl (ai rfl (ai rfl trivial)))))))) (ai (oR (by first | (exact congrArg (List.map _) (prM_start _ _ _)) | (exact push rfl (prM_yes (by omega) (decide_eq_true (by omega)))) | (exact congrArg (List.map _) (prM_no (decide_eq_false (by omega)))))) (ai rfl (ai rfl trivial))))
      ·
       replace h6 := notf h6
       replace h6 := of_decide_eq_true h6
       refine T_skip (T_region hc (Ch.s (.d (.int .i64 ((m : Nat) : Int))) pm (Ch.s (.d (.int .i64 (((m : Nat) : Int) + 1))) (.pure (.int _ _ _ _ _ rfl rfl rfl intV_addA)) (Ch.s (.d (.int .i64 (((m : Nat) : Int) + 1))) pa (Ch.nil ?_)))))
       exact nx (m + 1) ⟨by omega, by omega⟩ (Wk.of rfl rfl (ai rfl (ai rfl (ai rfl (ai rfl (ai (vI (by first | rfl | omega | (simp; done) | (simp; omega))) (ai rfl (ai rfl (ai rfl trivial)))))))) (ai (oR (by first | (exact congrArg (List.map _) (prM_start _ _ _)) | (exact push rfl (prM_yes (by omega) (decide_eq_true (by omega)))) | (exact congrArg (List.map _) (prM_no (decide_eq_false (by omega)))))) (ai rfl (ai rfl trivial))))
     | false =>
      replace h5 := of_decide_eq_false h5
      refine Ch.skip rfl rfl (Ch.skip rfl rfl (Ch.skip rfl rfl (Ch.skip rfl rfl (Ch.skip rfl rfl (Ch.s (.d (.bool false)) (.pure (.pickF _ _ _ rfl rfl rfl)) (Ch.nil ?_))))))
      refine T_cond (b := false) rfl (fun h => nomatch h) (fun _ => ?_)
      refine T_skip (T_region hc (Ch.s (.d (.int .i64 ((m : Nat) : Int))) pm (Ch.s (.d (.int .i64 (((m : Nat) : Int) + 1))) (.pure (.int _ _ _ _ _ rfl rfl rfl intV_addA)) (Ch.s (.d (.int .i64 (((m : Nat) : Int) + 1))) pa (Ch.nil ?_)))))
      exact nx (m + 1) ⟨by omega, by omega⟩ (Wk.of rfl rfl (ai rfl (ai rfl (ai rfl (ai rfl (ai (vI (by first | rfl | omega | (simp; done) | (simp; omega))) (ai rfl (ai rfl (ai rfl trivial)))))))) (ai (oR (by first | (exact congrArg (List.map _) (prM_start _ _ _)) | (exact push rfl (prM_yes (by omega) (decide_eq_true (by omega)))) | (exact congrArg (List.map _) (prM_no (decide_eq_false (by omega)))))) (ai rfl (ai rfl trivial))))
    | false =>
     replace h4 := of_decide_eq_false h4
     refine Ch.skip rfl rfl (Ch.skip rfl rfl (Ch.skip rfl rfl (Ch.s (.d (.bool false)) (.pure (.pickF _ _ _ rfl rfl rfl)) (Ch.s (.d (.bool false)) pm (Ch.skip rfl rfl (Ch.skip rfl rfl (Ch.skip rfl rfl ?_)))))))
     refine Ch.skip rfl rfl (Ch.skip rfl rfl (Ch.s (.d (.bool false)) (.pure (.pickF _ _ _ rfl rfl rfl)) (Ch.nil ?_)))
     refine T_cond (b := false) rfl (fun h => nomatch h) (fun _ => ?_)
     refine T_skip (T_region hc (Ch.s (.d (.int .i64 ((m : Nat) : Int))) pm (Ch.s (.d (.int .i64 (((m : Nat) : Int) + 1))) (.pure (.int _ _ _ _ _ rfl rfl rfl intV_addA)) (Ch.s (.d (.int .i64 (((m : Nat) : Int) + 1))) pa (Ch.nil ?_)))))
     exact nx (m + 1) ⟨by omega, by omega⟩ (Wk.of rfl rfl (ai rfl (ai rfl (ai rfl (ai rfl (ai (vI (by first | rfl | omega | (simp; done) | (simp; omega))) (ai rfl (ai rfl (ai rfl trivial)))))))) (ai (oR (by first | (exact congrArg (List.map _) (prM_start _ _ _)) | (exact push rfl (prM_yes (by omega) (decide_eq_true (by omega)))) | (exact congrArg (List.map _) (prM_no (decide_eq_false (by omega)))))) (ai rfl (ai rfl trivial))))
   | false =>
    replace h3 := of_decide_eq_false h3
    refine Ch.skip rfl rfl (Ch.skip rfl rfl (Ch.skip rfl rfl (Ch.skip rfl rfl (Ch.skip rfl rfl (Ch.s (.d (.bool false)) (.pure (.pickF _ _ _ rfl rfl rfl)) (Ch.s (.d (.bool false)) pm (Ch.skip rfl rfl ?_)))))))
    refine Ch.skip rfl rfl (Ch.skip rfl rfl (Ch.s (.d (.bool false)) (.pure (.pickF _ _ _ rfl rfl rfl)) (Ch.s (.d (.bool false)) pm (Ch.skip rfl rfl (Ch.skip rfl rfl (Ch.skip rfl rfl (Ch.skip rfl rfl ?_)))))))
    refine Ch.skip rfl rfl (Ch.s (.d (.bool false)) (.pure (.pickF _ _ _ rfl rfl rfl)) (Ch.nil ?_))
    refine T_cond (b := false) rfl (fun h => nomatch h) (fun _ => ?_)
    refine T_skip (T_region hc (Ch.s (.d (.int .i64 ((m : Nat) : Int))) pm (Ch.s (.d (.int .i64 (((m : Nat) : Int) + 1))) (.pure (.int _ _ _ _ _ rfl rfl rfl intV_addA)) (Ch.s (.d (.int .i64 (((m : Nat) : Int) + 1))) pa (Ch.nil ?_)))))
    exact nx (m + 1) ⟨by omega, by omega⟩ (Wk.of rfl rfl (ai rfl (ai rfl (ai rfl (ai rfl (ai (vI (by first | rfl | omega | (simp; done) | (simp; omega))) (ai rfl (ai rfl (ai rfl trivial)))))))) (ai (oR (by first | (exact congrArg (List.map _) (prM_start _ _ _)) | (exact push rfl (prM_yes (by omega) (decide_eq_true (by omega)))) | (exact congrArg (List.map _) (prM_no (decide_eq_false (by omega)))))) (ai rfl (ai rfl trivial))))
  ·
   replace h2 := of_decide_eq_false h2
   refine T_exit (T_region hc (Ch.s (.d (.int .i64 (((k : Nat) : Int) + 1))) (.pure (.int _ _ _ _ _ rfl rfl rfl intV_addA)) (Ch.s (.d (.int .i64 (((k : Nat) : Int) + 1))) pm (Ch.nil ?_))))
   exact nx (k + 1) (by omega) (Wk.of rfl rfl (ai rfl (ai rfl (ai rfl (ai rfl (ai (vI (by first | rfl | omega | (simp; done) | (simp; omega))) trivial))))) (ai (oR (by first | rfl | (rw [prM_end (by omega) (by omega)]; done))) (ai rfl trivial)))
 ·
  replace h1 := of_decide_eq_false h1
  try have hsk := (hx.sig _ (getD_mem (l := x.arcs) (j := k) (d := default) (by omega))).2
  refine T_exit (T_seq (T_region hc (Ch.s (.row 3) pm (Ch.s (.row 3) pa (Ch.nil (T_ret ?_))))))
  exact endR [(.row 3)] [] [3] (.cons (.tmp 2 rfl) .nil) (.cons (.any _) .nil) (Exp.of (congrArg (D.slice true 1) (by rw [twL, show x.arcs.length = k by omega])) (.row rfl)) rfl rfl

theorem sp_spec_l6Own (x : Sgr) (sig : Int) (hb : x.bulk ≤ 1048576) (hs : sig < x.sigs.length) : Sp Tryz.prog 203 [(.agg [(.slice false 2 (x.sigs.map Sgn.d)), (.slice false 1 (x.codes.map D.str)), (.slice false 4 (x.arcs.map Arc.d))]), (.int .i64 sig)] [.any, .any] (.bool (!(inputB x sig))) := by
 refine Sp_intro (lend := true) Tryz.func203 rfl rfl rfl (fun _ => rfl) (fun c hc hX => ?_)
 obtain ⟨hp0, hp1, hp2⟩ := Sgr.parts hb
 have hn0 := bulkF_len hp0
 have hn1 := bulk_len hp1
 have hx1 := bulk_mem hp1
 have hn2 := bulkF_len hp2
 refine T_seq (T_region hc (Ch.s (.ptr 2000 0) (.box 2000 _ _ rfl (.aggD _)) (Ch.s (.d (.bool false)) pa (Ch.nil (T_seq (T_region hc (Ch.s (.d (.int .i64 sig)) pm ?_)))))))
 refine Ch.s (.d (.bool (decide (sig < 0)))) (.pure (.int _ _ _ _ _ rfl rfl rfl rfl)) (Ch.s (.d (.bool (decide (sig < 0)))) pm ?_)
 cases h1 : (decide (sig < 0)) with
 | true =>
  replace h1 := of_decide_eq_true h1
  refine Ch.skip rfl rfl (Ch.skip rfl rfl (Ch.skip rfl rfl (Ch.skip rfl rfl (Ch.skip rfl rfl (Ch.skip rfl rfl (Ch.skip rfl rfl (Ch.s (.d (.bool true)) (.pure (.pickT _ _ _ rfl rfl rfl)) ?_)))))))
  refine Ch.s (.d (.bool true)) pa (Ch.nil (T_ret ?_))
  exact endR [(.d (.bool true))] [] [] (.cons (.tmp 4 rfl) .nil) (.cons (.any _) (.cons (.any _) .nil)) (Exp.of (congrArg D.bool (by first | (rw [inputB_lt (by omega)]; rfl) | (rw [inputB_yes (by omega) (by assumption)]; rfl) | (rw [inputB_no (by assumption)]; rfl) | (unfold inputB; simp_all; done))) (.d _)) rfl rfl
 | false =>
  replace h1 := of_decide_eq_false h1
  refine Ch.s (.ptr 2000 0) (.pure (.fldPtr _ _ _ rfl fld35_0 rfl)) (Ch.s (.d (.slice false 2 (x.sigs.map Sgn.d))) (.pure (.loadPtr1 _ _ rfl ag32 rfl rfl rfl)) (Ch.s (.d (.int .i64 sig)) pm (Ch.s (.d (.ref (.agg [(.str ((x.sigs.getD ((sig).toNat) default).name)), (.int .i64 ((x.sigs.getD ((sig).toNat) default).kind))]))) (.pure (.idx _ _ _ 154 ((sig).toNat) rfl Tryz.underlying32 sz154 rfl rfl (by omega) get_mapA)) (Ch.s (.d (.ref (.int .i64 ((x.sigs.getD ((sig).toNat) default).kind)))) (.pure (.fldRef _ _ _ rfl fld154_1 rfl rfl rfl)) (Ch.s (.d (.int .i64 ((x.sigs.getD ((sig).toNat) default).kind))) (.pure (.loadRef1 _ _ rfl ag3 rfl rfl)) (Ch.s (.d (.bool (!(decide (((x.sigs.getD ((sig).toNat) default).kind) = 1))))) (.pure (.int _ _ _ _ _ rfl rfl rfl rfl)) (Ch.s (.d (.bool (!(decide (((x.sigs.getD ((sig).toNat) default).kind) = 1))))) (.pure (.pickF _ _ _ rfl rfl rfl)) ?_)))))))
  refine Ch.s (.d (.bool (!(decide (((x.sigs.getD ((sig).toNat) default).kind) = 1))))) pa (Ch.nil (T_ret ?_))
  exact endR [(.d (.bool (!(decide (((x.sigs.getD ((sig).toNat) default).kind) = 1)))))] [] [] (.cons (.tmp 4 rfl) .nil) (.cons (.any _) (.cons (.any _) .nil)) (Exp.of (congrArg D.bool (by first | (rw [inputB_lt (by omega)]; rfl) | (rw [inputB_yes (by omega) (by assumption)]; rfl) | (rw [inputB_no (by assumption)]; rfl) | (unfold inputB; simp_all; done))) (.d _)) rfl rfl

theorem out_in {x : Sgr} {k : Nat} (h : inputB x (k : Int) = false) : outP x.sigs k = true := by
 unfold inputB at h; rw [decide_eq_true (by omega : (0 : Int) ≤ (k : Int)), Bool.true_and] at h
 unfold outP; rw [show decide ((x.sigs.getD k default).kind = 1) = false from h]; rfl

theorem out_not {x : Sgr} {k : Nat} (h : inputB x (k : Int) = true) : outP x.sigs k = false := by
 unfold inputB at h; rw [decide_eq_true (by omega : (0 : Int) ≤ (k : Int)), Bool.true_and] at h
 unfold outP; rw [show decide ((x.sigs.getD k default).kind = 1) = true from h]; rfl

theorem sp_spec_l6Owned (x : Sgr) (hb : x.bulk ≤ 1048576) : Sp Tryz.prog 131 [(.agg [(.slice false 2 (x.sigs.map Sgn.d)), (.slice false 1 (x.codes.map D.str)), (.slice false 4 (x.arcs.map Arc.d))])] [.any] (.slice true 1 ((outsL x.sigs).map (fun n : Int => D.int .i64 n))) := by
 refine Sp_intro (lend := true) Tryz.func131 rfl rfl rfl (fun _ => rfl) (fun c hc hX => ?_)
 obtain ⟨hp0, hp1, hp2⟩ := Sgr.parts hb
 have hn0 := bulkF_len hp0
 have hn1 := bulk_len hp1
 have hx1 := bulk_mem hp1
 have hn2 := bulkF_len hp2
 refine T_seq (T_region hc (Ch.s (.ptr 1000 0) (.box 1000 _ _ rfl (.aggD _)) (Ch.s (.c (.slice none 0 0)) pa (Ch.nil (T_seq (T_region hc (Ch.s (.c (.slice none 0 0)) pa ?_)))))))
 refine Ch.nil (T_seq (T_seq (T_region hc (Ch.s (.ptr 1000 0) (.pure (.fldPtr _ _ _ rfl fld35_0 rfl)) (Ch.s (.d (.slice false 2 (x.sigs.map Sgn.d))) (.pure (.loadPtr1 _ _ rfl ag32 rfl rfl rfl)) (Ch.s (.d (.int .i64 ((x.sigs.length : Nat) : Int))) (.pure (.len _ _ 154 rfl Tryz.underlying32 (.sh _ _) (by simp))) (Ch.s (.d (.int .i64 0)) pm ?_)))))))
 refine Ch.nil (T_block ?_)
 refine T_loop (ι := Nat) (fun k => { n := 20, sl := [(1, (.ptr 1000 0)), (3, (.row 3)), (7, (.d (.int .i64 ((x.sigs.length : Nat) : Int)))), (8, (.d (.int .i64 ((k : Nat) : Int))))], hp := [(3, (some (.row 1 ((outK x.sigs k).map (fun n : Int => D.int .i64 n))))), (1000, (some (.box [(.d (.slice false 2 (x.sigs.map Sgn.d))), (.d (.slice false 1 (x.codes.map D.str))), (.d (.slice false 4 (x.arcs.map Arc.d)))])))], pin := [] }) (fun k => k ≤ x.sigs.length) (fun k => x.sigs.length - k) ⟨0, (by omega), (Wk.trans (Wk.nilrow 3 900003 1 rfl rfl rfl) (Wk.ren [(3, 900003)] rfl rfl rfl rfl (ai rfl (ai rfl (ai rfl (ai (vI (by first | rfl | omega | (simp; done) | (simp; omega))) trivial)))) (ai (oR (by first | rfl | (exact push rfl (selTo_yes (out_in (by assumption)))) | (exact congrArg (List.map _) (selTo_no (out_not (by assumption)))))) (ai rfl trivial))))⟩ (fun k hp0 => ?_)
 have hq := outK_le x.sigs k
 refine T_seq (T_region hc (Ch.s (.d (.bool (decide (((k : Nat) : Int) < ((x.sigs.length : Nat) : Int))))) (.pure (.int _ _ _ _ _ rfl rfl rfl rfl)) (Ch.nil (T_seq ?_))))
 refine T_cond (b := (decide (((k : Nat) : Int) < ((x.sigs.length : Nat) : Int)))) rfl (fun h1 => ?_) (fun h1 => ?_)
 ·
  replace h1 := of_decide_eq_true h1
  refine T_skip (T_seq (T_block (T_seq (T_region hc (Ch.s (.d (.int .i64 ((k : Nat) : Int))) pm (Ch.s (.d (.int .i64 ((k : Nat) : Int))) pa (Ch.nil ?_)))))))
  refine T_seq (T_region hc (Ch.s (.agg [(.d (.slice false 2 (x.sigs.map Sgn.d))), (.d (.slice false 1 (x.codes.map D.str))), (.d (.slice false 4 (x.arcs.map Arc.d)))]) (.pure (.loadPtrA _ _ rfl ag35 sz35 rfl rfl (Nat.le_of_ble_eq_true rfl) rfl)) (Ch.s (.d (.int .i64 ((k : Nat) : Int))) pm (Ch.s (.d (.bool (!(inputB x ((k : Nat) : Int))))) (.call 13000 203 _ _ _ en203 rfl (.inl rfl) (.cons (.lend (.agg (.cons (.d _) (.cons (.d _) (.cons (.d _) .nil))) rfl)) (.cons (.d _) .nil)) rfl rfl (sp_spec_l6Own x ((k : Nat) : Int) (by first | assumption | omega | (rw [List.length_take]; omega) | (have := bulkF_mem hb _ (getD_mem (d := default) (by omega)); assumption) | (unfold bulkS at *; omega) | (simp_all; done)) (by first | assumption | omega)) (.skip _ _ (.skip _ _ .nil)) rfl) (Ch.nil ?_)))))
  refine T_cond (b := (!(inputB x ((k : Nat) : Int)))) rfl (fun h2 => ?_) (fun h2 => ?_)
  ·
   replace h2 := nott h2
   refine T_region hc (Ch.s (.row 3) pm (Ch.s (.d (.int .i64 ((k : Nat) : Int))) pm (Ch.s (.row 16000) (.slice 16000 _ 3 _ rfl sty55 (xs := [.tmp 15]) rfl rfl (.cons (.d _) .nil) rfl rfl (by decide)) ?_)))
   refine Ch.step (v := (.row 17000)) rfl (.append 17000 _ _ _ 3 rfl sty55 (by decide) (.rowK rfl) (.inr ⟨_, rfl, rfl⟩) (.row rfl rfl) rfl (by first | omega | (simp only [List.length_append, List.length_map, List.length_cons, List.length_nil]; omega) | (simp; omega) | (simp; done))) rfl rfl ?_
   refine Ch.s (.row 17000) pa (Ch.nil (T_region hc (Ch.s (.d (.int .i64 (((k : Nat) : Int) + 1))) (.pure (.int _ _ _ _ _ rfl rfl rfl intV_addA)) (Ch.s (.d (.int .i64 (((k : Nat) : Int) + 1))) pm (Ch.nil ?_)))))
   exact nx (k + 1) (by omega) (Wk.ren [(3, 17000)] rfl rfl rfl rfl (ai rfl (ai rfl (ai rfl (ai (vI (by first | rfl | omega | (simp; done) | (simp; omega))) trivial)))) (ai (oR (by first | rfl | (exact push rfl (selTo_yes (out_in (by assumption)))) | (exact congrArg (List.map _) (selTo_no (out_not (by assumption)))))) (ai rfl trivial)))
  ·
   replace h2 := notf h2
   refine T_skip (T_region hc (Ch.s (.d (.int .i64 (((k : Nat) : Int) + 1))) (.pure (.int _ _ _ _ _ rfl rfl rfl intV_addA)) (Ch.s (.d (.int .i64 (((k : Nat) : Int) + 1))) pm (Ch.nil ?_))))
   exact nx (k + 1) (by omega) (Wk.of rfl rfl (ai rfl (ai rfl (ai rfl (ai (vI (by first | rfl | omega | (simp; done) | (simp; omega))) trivial)))) (ai (oR (by first | rfl | (exact push rfl (selTo_yes (out_in (by assumption)))) | (exact congrArg (List.map _) (selTo_no (out_not (by assumption)))))) (ai rfl trivial)))
 ·
  replace h1 := of_decide_eq_false h1
  refine T_exit (T_seq (T_region hc (Ch.s (.row 3) pm (Ch.s (.row 3) pa (Ch.nil (T_ret ?_))))))
  exact endR [(.row 3)] [] [3] (.cons (.tmp 2 rfl) .nil) (.cons (.any _) .nil) (Exp.of (congrArg (D.slice true 1) (by rw [outsL, show x.sigs.length = k by omega])) (.row rfl)) rfl rfl

set_option maxHeartbeats 2000000 in
theorem sp_impl_violations (x : Sgr) (hb : x.bulk ≤ 1048576) (hx : SgOk x) : Sp Tryz.prog 283 [(.agg [(.slice false 2 (x.sigs.map Sgn.d)), (.slice false 1 (x.codes.map D.str)), (.slice false 4 (x.arcs.map Arc.d))])] [.any] (.slice true 3 ((pvL x).map Pvi.d)) := by
 refine Sp_intro (lend := true) Tryz.func283 rfl rfl rfl (fun _ => rfl) (fun c hc hX => ?_)
 obtain ⟨hp0, hp1, hp2⟩ := Sgr.parts hb
 have hn0 := bulkF_len hp0
 have hn1 := bulk_len hp1
 have hx1 := bulk_mem hp1
 have hn2 := bulkF_len hp2; have hx8 := hx.eight; have hxl := hx.len; have hxf := hx.few; have hen := hx.ends; have hml : (masksL x).length = x.codes.length := masksTo_len x _; have hnl := nxTo_len x x.arcs.length; have hm6 := fun j => masksTo_lt (x := x) (fun a ha => by have := hx.sig a ha; omega) x.arcs.length j
 refine T_seq (T_region hc (Ch.s (.ptr 1000 0) (.box 1000 _ _ rfl (.aggD _)) (Ch.s (.c (.slice none 0 0)) pa (Ch.nil (T_seq ?_)))))
 refine T_regionD hc (by kernel_rfl) ?_
 refine ChD.s (.row 11000) [] (.slice 11000 _ 216 _ rfl sty175 (xs := []) rfl rfl .nil rfl rfl (by decide)) (ChD.s (.agg [(.d (.slice false 2 (x.sigs.map Sgn.d))), (.d (.slice false 1 (x.codes.map D.str))), (.d (.slice false 4 (x.arcs.map Arc.d)))]) [1000] (.pure (.loadPtrA _ _ rfl ag35 sz35 rfl rfl (Nat.le_of_ble_eq_true rfl) rfl)) (ChD.s (.row 13000) [] (.call 13000 296 _ _ _ en296 rfl (.inl rfl) (.cons (.lend (.agg (.cons (.d _) (.cons (.d _) (.cons (.d _) .nil))) rfl)) .nil) rfl (sol (solid_row (fun _ => rfl) _) rfl) (sp_impl_labelMasks x (by first | assumption | omega | (rw [List.length_take]; omega) | (have := bulkF_mem hb _ (getD_mem (d := default) (by omega)); assumption) | (unfold bulkS at *; omega) | (simp_all; done)) (by assumption)) (.skip _ _ .nil) rfl) (ChD.s (.agg [(.d (.slice false 2 (x.sigs.map Sgn.d))), (.d (.slice false 1 (x.codes.map D.str))), (.d (.slice false 4 (x.arcs.map Arc.d)))]) [1000] (.pure (.loadPtrA _ _ rfl ag35 sz35 rfl rfl (Nat.le_of_ble_eq_true rfl) rfl)) (ChD.s (.row 15000) [] (.call 15000 297 _ _ _ en297 rfl (.inl rfl) (.cons (.lend (.agg (.cons (.d _) (.cons (.d _) (.cons (.d _) .nil))) rfl)) .nil) rfl (sol (solid_row intsU_sol _) rfl) (sp_impl_nextArcs x (by first | assumption | omega | (rw [List.length_take]; omega) | (have := bulkF_mem hb _ (getD_mem (d := default) (by omega)); assumption) | (unfold bulkS at *; omega) | (simp_all; done)) (by assumption)) (.skip _ _ .nil) rfl) (ChD.s (.row 11000) [] pa (ChD.s (.row 13000) [] pa (ChD.s (.row 15000) [] pa ?_)))))))
 refine ChD.nil (And.intro ?_ (by kernel_rfl))
 refine T_seq (T_seq (T_region hc (Ch.s (.ptr 1000 1) (.pure (.fldPtr _ _ _ rfl fld35_1 rfl)) (Ch.s (.d (.slice false 1 (x.codes.map D.str))) (.pure (.loadPtr1 _ _ rfl ag23 rfl rfl rfl)) (Ch.s (.d (.int .i64 ((x.codes.length : Nat) : Int))) (.pure (.len _ _ 9 rfl Tryz.underlying23 (.sh _ _) (by simp))) (Ch.s (.d (.int .i64 0)) pm (Ch.nil ?_)))))))
 refine T_block ?_
 refine T_loop (ι := Nat) (fun k => { n := 90, sl := [(1, (.ptr 1000 0)), (3, (.row 3)), (4, (.row 13000)), (5, (.row 15000)), (18, (.d (.int .i64 ((x.codes.length : Nat) : Int)))), (19, (.d (.int .i64 ((k : Nat) : Int))))], hp := [(3, (some (.row 3 ((pvTo x k).map Pvi.d)))), (1000, (some (.box [(.d (.slice false 2 (x.sigs.map Sgn.d))), (.d (.slice false 1 (x.codes.map D.str))), (.d (.slice false 4 (x.arcs.map Arc.d)))]))), (13000, (some (.row 1 ((masksL x).map (fun n : Nat => D.int .i64 (n : Int)))))), (15000, (some (.row 1 ((nxTo x x.arcs.length).map intsU))))], pin := [] }) (fun k => k ≤ x.codes.length) (fun k => x.codes.length - k) ⟨0, (by omega), (Wk.ren [(3, 11000)] rfl rfl rfl rfl (ai rfl (ai rfl (ai rfl (ai rfl (ai rfl (ai (vI (by first | rfl | omega | (simp; done) | (simp; omega))) trivial)))))) (ai (oR (by first | rfl | (exact congrArg (List.map _) (pvA_end (by omega))))) (ai rfl (ai rfl (ai rfl trivial)))))⟩ (fun k hp0 => ?_)
 refine T_seq (T_region hc (Ch.s (.d (.bool (decide (((k : Nat) : Int) < ((x.codes.length : Nat) : Int))))) (.pure (.int _ _ _ _ _ rfl rfl rfl rfl)) (Ch.nil (T_seq ?_))))
 refine T_cond (b := (decide (((k : Nat) : Int) < ((x.codes.length : Nat) : Int)))) rfl (fun h1 => ?_) (fun h1 => ?_)
 ·
  replace h1 := of_decide_eq_true h1
  refine T_skip (T_seq (T_block (T_seq (T_region hc (Ch.s (.d (.int .i64 ((k : Nat) : Int))) pm (Ch.s (.d (.int .i64 ((k : Nat) : Int))) pa (Ch.nil ?_)))))))
  refine T_seq (T_region hc (Ch.s (.ptr 1000 0) (.pure (.fldPtr _ _ _ rfl fld35_0 rfl)) (Ch.s (.d (.slice false 2 (x.sigs.map Sgn.d))) (.pure (.loadPtr1 _ _ rfl ag32 rfl rfl rfl)) (Ch.s (.d (.int .i64 ((x.sigs.length : Nat) : Int))) (.pure (.len _ _ 154 rfl Tryz.underlying32 (.sh _ _) (by simp))) (Ch.s (.d (.int .i64 0)) pm (Ch.nil (T_block ?_)))))))
  refine T_loop (ι := Nat) (fun s => { n := 90, sl := [(1, (.ptr 1000 0)), (3, (.row 3)), (4, (.row 13000)), (5, (.row 15000)), (6, (.d (.int .i64 ((k : Nat) : Int)))), (18, (.d (.int .i64 ((x.codes.length : Nat) : Int)))), (19, (.d (.int .i64 ((k : Nat) : Int)))), (24, (.d (.int .i64 ((x.sigs.length : Nat) : Int)))), (25, (.d (.int .i64 ((s : Nat) : Int))))], hp := [(3, (some (.row 3 ((pvA x k s).map Pvi.d)))), (1000, (some (.box [(.d (.slice false 2 (x.sigs.map Sgn.d))), (.d (.slice false 1 (x.codes.map D.str))), (.d (.slice false 4 (x.arcs.map Arc.d)))]))), (13000, (some (.row 1 ((masksL x).map (fun n : Nat => D.int .i64 (n : Int)))))), (15000, (some (.row 1 ((nxTo x x.arcs.length).map intsU))))], pin := [] }) (fun s => s ≤ x.sigs.length) (fun s => x.sigs.length - s) ⟨0, (by omega), (Wk.of rfl rfl (ai rfl (ai rfl (ai rfl (ai rfl (ai rfl (ai rfl (ai rfl (ai rfl (ai (vI (by first | rfl | omega | (simp; done) | (simp; omega))) trivial))))))))) (ai (oR (by first | (exact congrArg (List.map _) (pvA_zero x k)) | (exact congrArg (List.map _) (pvA_no (by first | assumption | exact two_n0 hx (by omega) (by assumption)))) | (exact congrArg (List.map _) (pvB_end hx (by omega) (two_n1 hx (by omega) (by assumption)) (by omega))) | (exact congrArg (List.map _) (pvC_end (by assumption) (by omega))))) (ai rfl (ai rfl (ai rfl trivial)))))⟩ (fun s hp1 => ?_)
  refine T_seq (T_region hc (Ch.s (.d (.bool (decide (((s : Nat) : Int) < ((x.sigs.length : Nat) : Int))))) (.pure (.int _ _ _ _ _ rfl rfl rfl rfl)) (Ch.nil (T_seq ?_))))
  refine T_cond (b := (decide (((s : Nat) : Int) < ((x.sigs.length : Nat) : Int)))) rfl (fun h2 => ?_) (fun h2 => ?_)
  ·
   replace h2 := of_decide_eq_true h2
   try have hmk := hm6 k
   try have hnt := (nx_mem hen (j := k) (i := ((nxTo x x.arcs.length).getD k default).getD m default) x.arcs.length (Nat.le_refl _)).1 (getD_mem (by omega))
   try have hek := hen _ (getD_mem (l := x.arcs) (j := (((nxTo x x.arcs.length).getD k default).getD m default).toNat) (d := default) (by omega))
   try have hsk := (hx.sig _ (getD_mem (l := x.arcs) (j := (((nxTo x x.arcs.length).getD k default).getD m default).toNat) (d := default) (by omega))).1
   try have hm7 := hm6 (x.arcs.getD (((nxTo x x.arcs.length).getD k default).getD m default).toNat default).dst.toNat
   refine T_skip (T_seq (T_block (T_seq (T_region hc (Ch.s (.d (.int .i64 ((s : Nat) : Int))) pm (Ch.s (.d (.int .i64 ((s : Nat) : Int))) pa (Ch.nil ?_)))))))
   refine T_seq (T_seq (T_region hc (Ch.s (.row 13000) pm (Ch.s (.d (.int .i64 ((k : Nat) : Int))) pm (Ch.s (.el 13000 1 k 0) (.pure (.idxRow _ _ _ 3 (k) rfl Tryz.underlying55 sz3 rfl rfl rfl rfl (by first | omega | (simp only [List.length_map, List.length_set]; omega) | (simp; omega)))) (Ch.s (.d (.int .i64 ((((masksL x).getD k default) : Nat) : Int))) (.pure (.loadEl1 _ _ rfl ag3 rfl rfl get_mapA rfl rfl rfl)) (Ch.s (.d (.int .i64 ((s : Nat) : Int))) pm ?_)))))))
   refine Ch.s (.d (.int .i64 (2 * ((s : Nat) : Int)))) (.pure (.int _ _ _ _ _ rfl rfl rfl (intV_mul (by first | omega | (simp only [List.length_map, List.length_append, List.length_take, List.length_drop, List.length_cons, List.length_nil]; omega) | (simp; omega) | (simp; done)) (by first | omega | (simp only [List.length_map, List.length_append, List.length_take, List.length_drop, List.length_cons, List.length_nil]; omega) | (simp; omega) | (simp; done))))) (Ch.s (.d (.int .i64 ((((masksL x).getD k default) >>> (((2 * ((s : Nat) : Int))).toNat) : Nat) : Int))) (.pure (.shift _ _ _ _ _ rfl rfl rfl (i64_shr (m := ((masksL x).getD k default)) (n := ((2 * ((s : Nat) : Int))).toNat) (by omega) (by first | omega | (simp only [List.length_map, List.length_append, List.length_take, List.length_drop, List.length_cons, List.length_nil]; omega) | (simp; omega) | (simp; done))))) (Ch.s (.d (.int .i64 ((two ((masksL x).getD k default) (((2 * ((s : Nat) : Int))).toNat) : Nat) : Int))) (.pure (.int _ _ _ _ _ rfl rfl rfl (i64_and3 (((masksL x).getD k default) >>> (((2 * ((s : Nat) : Int))).toNat))))) (Ch.s (.d (.bool (decide (((two ((masksL x).getD k default) (((2 * ((s : Nat) : Int))).toNat) : Nat) : Int) = 0)))) (.pure (.int _ _ _ _ _ rfl rfl rfl rfl)) (Ch.nil ?_))))
   refine T_cond (b := (decide (((two ((masksL x).getD k default) (((2 * ((s : Nat) : Int))).toNat) : Nat) : Int) = 0))) rfl (fun h3 => ?_) (fun h3 => ?_)
   ·
    replace h3 := of_decide_eq_true h3
    try have hmk := hm6 k
    try have hnt := (nx_mem hen (j := k) (i := ((nxTo x x.arcs.length).getD k default).getD m default) x.arcs.length (Nat.le_refl _)).1 (getD_mem (by omega))
    try have hek := hen _ (getD_mem (l := x.arcs) (j := (((nxTo x x.arcs.length).getD k default).getD m default).toNat) (d := default) (by omega))
    try have hsk := (hx.sig _ (getD_mem (l := x.arcs) (j := (((nxTo x x.arcs.length).getD k default).getD m default).toNat) (d := default) (by omega))).1
    try have hm7 := hm6 (x.arcs.getD (((nxTo x x.arcs.length).getD k default).getD m default).toNat default).dst.toNat
    refine T_exit (T_region hc (Ch.s (.d (.int .i64 (((s : Nat) : Int) + 1))) (.pure (.int _ _ _ _ _ rfl rfl rfl intV_addA)) (Ch.s (.d (.int .i64 (((s : Nat) : Int) + 1))) pm (Ch.nil ?_))))
    exact nx (s + 1) (by omega) (Wk.of rfl rfl (ai rfl (ai rfl (ai rfl (ai rfl (ai rfl (ai rfl (ai rfl (ai rfl (ai (vI (by first | rfl | omega | (simp; done) | (simp; omega))) trivial))))))))) (ai (oR (by first | (exact congrArg (List.map _) (pvA_zero x k)) | (exact congrArg (List.map _) (pvA_no (by first | assumption | exact two_n0 hx (by omega) (by assumption)))) | (exact congrArg (List.map _) (pvB_end hx (by omega) (two_n1 hx (by omega) (by assumption)) (by omega))) | (exact congrArg (List.map _) (pvC_end (by assumption) (by omega))))) (ai rfl (ai rfl (ai rfl trivial)))))
   ·
    replace h3 := of_decide_eq_false h3
    try have hmk := hm6 k
    try have hnt := (nx_mem hen (j := k) (i := ((nxTo x x.arcs.length).getD k default).getD m default) x.arcs.length (Nat.le_refl _)).1 (getD_mem (by omega))
    try have hek := hen _ (getD_mem (l := x.arcs) (j := (((nxTo x x.arcs.length).getD k default).getD m default).toNat) (d := default) (by omega))
    try have hsk := (hx.sig _ (getD_mem (l := x.arcs) (j := (((nxTo x x.arcs.length).getD k default).getD m default).toNat) (d := default) (by omega))).1
    try have hm7 := hm6 (x.arcs.getD (((nxTo x x.arcs.length).getD k default).getD m default).toNat default).dst.toNat
    refine T_skip (T_seq ?_)
    refine T_take 15000 k 7000002 7000003 rfl get_mapA rfl rfl (fun u1 => ?_)
    refine T_region hc (Ch.s (.row 15000) pm (Ch.s (.d (.int .i64 ((k : Nat) : Int))) pm (Ch.s (.el 15000 1 k 0) (.pure (.idxRow _ _ _ 55 (k) rfl Tryz.underlying49 sz55 rfl rfl rfl rfl (by first | omega | (simp only [List.length_map, List.length_set]; omega) | (simp; omega)))) (Ch.s (.row 7000002) (.pure (.loadHole (n := 7000002) (m := 7000003) (u := u1) _ _ rfl ag55 rfl rfl (get_set (by first | omega | (simp only [List.length_map, List.length_set]; omega) | (simp; omega))) rfl rfl)) (Ch.s (.d (.int .i64 ((((nxTo x x.arcs.length).getD k default).length : Nat) : Int))) (.pure (.len _ _ 3 rfl Tryz.underlying55 (.row rfl) (by simp))) (Ch.s (.d (.int .i64 0)) pm (Ch.nil ?_)))))))
    refine T_block ?_
    refine T_loop (ι := Nat) (fun m => { n := 90, sl := [(1, (.ptr 1000 0)), (3, (.row 3)), (4, (.row 13000)), (5, (.row 15000)), (6, (.d (.int .i64 ((k : Nat) : Int)))), (7, (.d (.int .i64 ((s : Nat) : Int)))), (18, (.d (.int .i64 ((x.codes.length : Nat) : Int)))), (19, (.d (.int .i64 ((k : Nat) : Int)))), (24, (.d (.int .i64 ((x.sigs.length : Nat) : Int)))), (25, (.d (.int .i64 ((s : Nat) : Int)))), (40, (.row 7000002)), (41, (.d (.int .i64 ((((nxTo x x.arcs.length).getD k default).length : Nat) : Int)))), (42, (.d (.int .i64 ((m : Nat) : Int))))], hp := [(3, (some (.row 3 ((pvB x k s ((nxTo x x.arcs.length).getD k default) m).map Pvi.d)))), (1000, (some (.box [(.d (.slice false 2 (x.sigs.map Sgn.d))), (.d (.slice false 1 (x.codes.map D.str))), (.d (.slice false 4 (x.arcs.map Arc.d)))]))), (13000, (some (.row 1 ((masksL x).map (fun n : Nat => D.int .i64 (n : Int)))))), (15000, (some (.row 1 ((((nxTo x x.arcs.length).map intsU)).set k (.hole u1))))), (7000002, (some (.row 1 (((nxTo x x.arcs.length).getD k default).map (fun n : Int => D.int .i64 n))))), (7000003, (some (.head 7000002 u1)))], pin := [] }) (fun m => m ≤ ((nxTo x x.arcs.length).getD k default).length) (fun m => ((nxTo x x.arcs.length).getD k default).length - m) ⟨0, (by omega), (Wk.of rfl rfl (ai rfl (ai rfl (ai rfl (ai rfl (ai rfl (ai rfl (ai rfl (ai rfl (ai rfl (ai rfl (ai rfl (ai rfl (ai (vI (by first | rfl | omega | (simp; done) | (simp; omega))) trivial))))))))))))) (ai (oR (by first | (exact congrArg (List.map _) (pvB_zero x k s _)) | (exact push rfl (pvB_yes (by omega) (by omega) (pvQ_yes (by assumption) (by first | assumption | exact two_i0 hx (by omega) (by assumption)) (by first | exact .inl (by assumption) | exact .inr (by assumption))))) | (exact congrArg (List.map _) (pvB_no (by omega) (pvQ_no1 (by assumption)))) | (exact congrArg (List.map _) (pvB_no (by omega) (pvQ_no2 (by first | assumption | exact two_i1 hx (by omega) (by assumption))))) | (exact congrArg (List.map _) (pvB_no (by omega) (pvQ_no3 (by assumption) (by assumption)))))) (ai rfl (ai rfl (ai rfl (ai rfl (ai rfl trivial)))))))⟩ (fun m hp2 => ?_)
    have hTl := nx_le x _ (Nat.le_refl _) k; have hq := pvB_le hxf hx8.2 (k := k) (s := s) (m := m) (by omega) (by omega) (T := ((nxTo x x.arcs.length).getD k default)) (Nat.le_trans (nx_le x _ (Nat.le_refl _) k) hxf)
    refine T_seq (T_region hc (Ch.s (.d (.bool (decide (((m : Nat) : Int) < ((((nxTo x x.arcs.length).getD k default).length : Nat) : Int))))) (.pure (.int _ _ _ _ _ rfl rfl rfl rfl)) (Ch.nil (T_seq ?_))))
    refine T_cond (b := (decide (((m : Nat) : Int) < ((((nxTo x x.arcs.length).getD k default).length : Nat) : Int)))) rfl (fun h4 => ?_) (fun h4 => ?_)
    ·
     replace h4 := of_decide_eq_true h4
     try have hmk := hm6 k
     try have hnt := (nx_mem hen (j := k) (i := ((nxTo x x.arcs.length).getD k default).getD m default) x.arcs.length (Nat.le_refl _)).1 (getD_mem (by omega))
     try have hek := hen _ (getD_mem (l := x.arcs) (j := (((nxTo x x.arcs.length).getD k default).getD m default).toNat) (d := default) (by omega))
     try have hsk := (hx.sig _ (getD_mem (l := x.arcs) (j := (((nxTo x x.arcs.length).getD k default).getD m default).toNat) (d := default) (by omega))).1
     try have hm7 := hm6 (x.arcs.getD (((nxTo x x.arcs.length).getD k default).getD m default).toNat default).dst.toNat
     refine T_skip (T_seq (T_block (T_seq (T_region hc (Ch.s (.el 7000002 1 m 0) (.pure (.idxRow _ _ _ 3 (m) rfl Tryz.underlying55 sz3 rfl rfl rfl rfl (by first | omega | (simp only [List.length_map, List.length_set]; omega) | (simp; omega)))) (Ch.s (.d (.int .i64 (((nxTo x x.arcs.length).getD k default).getD m default))) (.pure (.loadEl1 _ _ rfl ag3 rfl rfl get_mapA rfl rfl rfl)) (Ch.s (.d (.int .i64 (((nxTo x x.arcs.length).getD k default).getD m default))) pa ?_)))))))
     refine Ch.nil (T_seq (T_region hc (Ch.s (.ptr 1000 2) (.pure (.fldPtr _ _ _ rfl fld35_2 rfl)) (Ch.s (.d (.slice false 4 (x.arcs.map Arc.d))) (.pure (.loadPtr1 _ _ rfl ag33 rfl rfl rfl)) (Ch.s (.d (.int .i64 (((nxTo x x.arcs.length).getD k default).getD m default))) pm (Ch.s (.d (.ref (.agg [(.int .i64 ((x.arcs.getD (((((nxTo x x.arcs.length).getD k default).getD m default)).toNat) default).src)), (.int .i64 ((x.arcs.getD (((((nxTo x x.arcs.length).getD k default).getD m default)).toNat) default).sig)), (.bool ((x.arcs.getD (((((nxTo x x.arcs.length).getD k default).getD m default)).toNat) default).up)), (.int .i64 ((x.arcs.getD (((((nxTo x x.arcs.length).getD k default).getD m default)).toNat) default).dst))]))) (.pure (.idx _ _ _ 125 (((((nxTo x x.arcs.length).getD k default).getD m default)).toNat) rfl Tryz.underlying33 sz125 rfl rfl (by omega) get_mapA)) (Ch.s (.d (.agg [(.int .i64 ((x.arcs.getD (((((nxTo x x.arcs.length).getD k default).getD m default)).toNat) default).src)), (.int .i64 ((x.arcs.getD (((((nxTo x x.arcs.length).getD k default).getD m default)).toNat) default).sig)), (.bool ((x.arcs.getD (((((nxTo x x.arcs.length).getD k default).getD m default)).toNat) default).up)), (.int .i64 ((x.arcs.getD (((((nxTo x x.arcs.length).getD k default).getD m default)).toNat) default).dst))])) (.pure (.loadRefA _ _ rfl ag125 sz125 rfl)) ?_)))))))
     refine Ch.s (.ptr 10000 0) (.alloc 10000 _ rfl zer125) (Ch.s .junk (.storePtr _ _ _ rfl rfl rfl (.aggD _) sz125 (Nat.le_of_ble_eq_true rfl)) (Ch.nil (T_seq (T_region hc (Ch.s (.ptr 10000 1) (.pure (.fldPtr _ _ _ rfl fld125_1 rfl)) (Ch.s (.d (.int .i64 ((x.arcs.getD (((((nxTo x x.arcs.length).getD k default).getD m default)).toNat) default).sig))) (.pure (.loadPtr1 _ _ rfl ag3 rfl rfl rfl)) (Ch.s (.d (.int .i64 ((s : Nat) : Int))) pm ?_)))))))
     refine Ch.s (.d (.bool (!(decide (((x.arcs.getD (((((nxTo x x.arcs.length).getD k default).getD m default)).toNat) default).sig) = ((s : Nat) : Int)))))) (.pure (.int _ _ _ _ _ rfl rfl rfl rfl)) (Ch.s (.d (.bool (!(decide (((x.arcs.getD (((((nxTo x x.arcs.length).getD k default).getD m default)).toNat) default).sig) = ((s : Nat) : Int)))))) pm ?_)
     cases h5 : (decide (((x.arcs.getD (((((nxTo x x.arcs.length).getD k default).getD m default)).toNat) default).sig) = ((s : Nat) : Int))) with
     | true =>
      replace h5 := of_decide_eq_true h5
      refine Ch.skip rfl rfl (Ch.skip rfl rfl (Ch.skip rfl rfl (Ch.skip rfl rfl (Ch.skip rfl rfl (Ch.skip rfl rfl (Ch.skip rfl rfl (Ch.skip rfl rfl ?_)))))))
      refine Ch.skip rfl rfl (Ch.skip rfl rfl (Ch.s (.d (.bool false)) (.pure (.pickF _ _ _ rfl rfl rfl)) (Ch.s (.d (.bool false)) pm (Ch.skip rfl rfl (Ch.skip rfl rfl (Ch.skip rfl rfl (Ch.skip rfl rfl ?_)))))))
      refine Ch.skip rfl rfl (Ch.skip rfl rfl (Ch.skip rfl rfl (Ch.skip rfl rfl (Ch.skip rfl rfl (Ch.skip rfl rfl (Ch.s (.d (.bool false)) (.pure (.pickF _ _ _ rfl rfl rfl)) (Ch.nil ?_)))))))
      refine T_cond (b := false) rfl (fun h => nomatch h) (fun _ => ?_)
      refine T_skip (T_region hc (Ch.s (.d (.int .i64 (((m : Nat) : Int) + 1))) (.pure (.int _ _ _ _ _ rfl rfl rfl intV_addA)) (Ch.s (.d (.int .i64 (((m : Nat) : Int) + 1))) pm (Ch.nil ?_))))
      exact nx (m + 1) (by omega) (Wk.of rfl rfl (ai rfl (ai rfl (ai rfl (ai rfl (ai rfl (ai rfl (ai rfl (ai rfl (ai rfl (ai rfl (ai rfl (ai rfl (ai (vI (by first | rfl | omega | (simp; done) | (simp; omega))) trivial))))))))))))) (ai (oR (by first | (exact congrArg (List.map _) (pvB_zero x k s _)) | (exact push rfl (pvB_yes (by omega) (by omega) (pvQ_yes (by assumption) (by first | assumption | exact two_i0 hx (by omega) (by assumption)) (by first | exact .inl (by assumption) | exact .inr (by assumption))))) | (exact congrArg (List.map _) (pvB_no (by omega) (pvQ_no1 (by assumption)))) | (exact congrArg (List.map _) (pvB_no (by omega) (pvQ_no2 (by first | assumption | exact two_i1 hx (by omega) (by assumption))))) | (exact congrArg (List.map _) (pvB_no (by omega) (pvQ_no3 (by assumption) (by assumption)))))) (ai rfl (ai rfl (ai rfl (ai rfl (ai rfl trivial)))))))
     | false =>
      replace h5 := of_decide_eq_false h5
      refine Ch.s (.row 13000) pm (Ch.s (.ptr 10000 3) (.pure (.fldPtr _ _ _ rfl fld125_3 rfl)) (Ch.s (.d (.int .i64 ((x.arcs.getD (((((nxTo x x.arcs.length).getD k default).getD m default)).toNat) default).dst))) (.pure (.loadPtr1 _ _ rfl ag3 rfl rfl rfl)) (Ch.s (.el 13000 1 ((((x.arcs.getD (((((nxTo x x.arcs.length).getD k default).getD m default)).toNat) default).dst)).toNat) 0) (.pure (.idxRow _ _ _ 3 ((((x.arcs.getD (((((nxTo x x.arcs.length).getD k default).getD m default)).toNat) default).dst)).toNat) rfl Tryz.underlying55 sz3 rfl rfl rfl (by omega) (by first | omega | (simp only [List.length_map, List.length_set]; omega) | (simp; omega)))) (Ch.s (.d (.int .i64 ((((masksL x).getD ((((x.arcs.getD (((((nxTo x x.arcs.length).getD k default).getD m default)).toNat) default).dst)).toNat) default) : Nat) : Int))) (.pure (.loadEl1 _ _ rfl ag3 rfl rfl get_mapA rfl rfl rfl)) (Ch.s (.d (.int .i64 ((s : Nat) : Int))) pm (Ch.s (.d (.int .i64 (2 * ((s : Nat) : Int)))) (.pure (.int _ _ _ _ _ rfl rfl rfl (intV_mul (by first | omega | (simp only [List.length_map, List.length_append, List.length_take, List.length_drop, List.length_cons, List.length_nil]; omega) | (simp; omega) | (simp; done)) (by first | omega | (simp only [List.length_map, List.length_append, List.length_take, List.length_drop, List.length_cons, List.length_nil]; omega) | (simp; omega) | (simp; done))))) (Ch.s (.d (.int .i64 ((((masksL x).getD ((((x.arcs.getD (((((nxTo x x.arcs.length).getD k default).getD m default)).toNat) default).dst)).toNat) default) >>> (((2 * ((s : Nat) : Int))).toNat) : Nat) : Int))) (.pure (.shift _ _ _ _ _ rfl rfl rfl (i64_shr (m := ((masksL x).getD ((((x.arcs.getD (((((nxTo x x.arcs.length).getD k default).getD m default)).toNat) default).dst)).toNat) default)) (n := ((2 * ((s : Nat) : Int))).toNat) (by omega) (by first | omega | (simp only [List.length_map, List.length_append, List.length_take, List.length_drop, List.length_cons, List.length_nil]; omega) | (simp; omega) | (simp; done))))) ?_)))))))
      refine Ch.s (.d (.int .i64 ((two ((masksL x).getD ((((x.arcs.getD (((((nxTo x x.arcs.length).getD k default).getD m default)).toNat) default).dst)).toNat) default) (((2 * ((s : Nat) : Int))).toNat) : Nat) : Int))) (.pure (.int _ _ _ _ _ rfl rfl rfl (i64_and3 (((masksL x).getD ((((x.arcs.getD (((((nxTo x x.arcs.length).getD k default).getD m default)).toNat) default).dst)).toNat) default) >>> (((2 * ((s : Nat) : Int))).toNat))))) (Ch.s (.d (.bool (decide (((two ((masksL x).getD ((((x.arcs.getD (((((nxTo x x.arcs.length).getD k default).getD m default)).toNat) default).dst)).toNat) default) (((2 * ((s : Nat) : Int))).toNat) : Nat) : Int) = 0)))) (.pure (.int _ _ _ _ _ rfl rfl rfl rfl)) (Ch.s (.d (.bool (decide (((two ((masksL x).getD ((((x.arcs.getD (((((nxTo x x.arcs.length).getD k default).getD m default)).toNat) default).dst)).toNat) default) (((2 * ((s : Nat) : Int))).toNat) : Nat) : Int) = 0)))) (.pure (.pickT _ _ _ rfl rfl rfl)) (Ch.s (.d (.bool (decide (((two ((masksL x).getD ((((x.arcs.getD (((((nxTo x x.arcs.length).getD k default).getD m default)).toNat) default).dst)).toNat) default) (((2 * ((s : Nat) : Int))).toNat) : Nat) : Int) = 0)))) pm ?_)))
      cases h6 : (decide (((two ((masksL x).getD ((((x.arcs.getD (((((nxTo x x.arcs.length).getD k default).getD m default)).toNat) default).dst)).toNat) default) (((2 * ((s : Nat) : Int))).toNat) : Nat) : Int) = 0)) with
      | true =>
       replace h6 := of_decide_eq_true h6
       refine Ch.s (.agg [(.d (.slice false 2 (x.sigs.map Sgn.d))), (.d (.slice false 1 (x.codes.map D.str))), (.d (.slice false 4 (x.arcs.map Arc.d)))]) (.pure (.loadPtrA _ _ rfl ag35 sz35 rfl rfl (Nat.le_of_ble_eq_true rfl) rfl)) (Ch.s (.d (.int .i64 ((s : Nat) : Int))) pm (Ch.s (.d (.bool (inputB x ((s : Nat) : Int)))) (.call 70000 298 _ _ _ en298 rfl (.inl rfl) (.cons (.lend (.agg (.cons (.d _) (.cons (.d _) (.cons (.d _) .nil))) rfl)) (.cons (.d _) .nil)) rfl rfl (sp_impl_isInput x ((s : Nat) : Int) (by first | assumption | omega | (rw [List.length_take]; omega) | (have := bulkF_mem hb _ (getD_mem (d := default) (by omega)); assumption) | (unfold bulkS at *; omega) | (simp_all; done)) (by first | assumption | omega)) (.skip _ _ (.skip _ _ .nil)) rfl) (Ch.s (.d (.bool (inputB x ((s : Nat) : Int)))) pm ?_)))
       cases h7 : (inputB x ((s : Nat) : Int)) with
       | true =>
        refine Ch.s (.agg [(.d (.slice false 2 (x.sigs.map Sgn.d))), (.d (.slice false 1 (x.codes.map D.str))), (.d (.slice false 4 (x.arcs.map Arc.d)))]) (.pure (.loadPtrA _ _ rfl ag35 sz35 rfl rfl (Nat.le_of_ble_eq_true rfl) rfl)) (Ch.s (.ptr 10000 1) (.pure (.fldPtr _ _ _ rfl fld125_1 rfl)) (Ch.s (.d (.int .i64 ((x.arcs.getD (((((nxTo x x.arcs.length).getD k default).getD m default)).toNat) default).sig))) (.pure (.loadPtr1 _ _ rfl ag3 rfl rfl rfl)) (Ch.s (.d (.bool (inputB x ((x.arcs.getD (((((nxTo x x.arcs.length).getD k default).getD m default)).toNat) default).sig)))) (.call 75000 298 _ _ _ en298 rfl (.inl rfl) (.cons (.lend (.agg (.cons (.d _) (.cons (.d _) (.cons (.d _) .nil))) rfl)) (.cons (.d _) .nil)) rfl rfl (sp_impl_isInput x ((x.arcs.getD (((((nxTo x x.arcs.length).getD k default).getD m default)).toNat) default).sig) (by first | assumption | omega | (rw [List.length_take]; omega) | (have := bulkF_mem hb _ (getD_mem (d := default) (by omega)); assumption) | (unfold bulkS at *; omega) | (simp_all; done)) (by first | assumption | omega)) (.skip _ _ (.skip _ _ .nil)) rfl) (Ch.s (.d (.bool (inputB x ((x.arcs.getD (((((nxTo x x.arcs.length).getD k default).getD m default)).toNat) default).sig)))) (.pure (.pickT _ _ _ rfl rfl rfl)) (Ch.s (.d (.bool (!(inputB x ((x.arcs.getD (((((nxTo x x.arcs.length).getD k default).getD m default)).toNat) default).sig))))) (.pure (.not _ _ rfl rfl)) (Ch.s (.d (.bool (!(inputB x ((x.arcs.getD (((((nxTo x x.arcs.length).getD k default).getD m default)).toNat) default).sig))))) (.pure (.pickT _ _ _ rfl rfl rfl)) (Ch.nil ?_)))))))
        refine T_cond (b := (!(inputB x ((x.arcs.getD (((((nxTo x x.arcs.length).getD k default).getD m default)).toNat) default).sig)))) rfl (fun h8 => ?_) (fun h8 => ?_)
        ·
         replace h8 := nott h8
         refine T_region hc (Ch.s (.row 3) pm (Ch.s (.d (.int .i64 ((k : Nat) : Int))) pm (Ch.s (.d (.int .i64 ((s : Nat) : Int))) pm (Ch.s (.d (.int .i64 (((nxTo x x.arcs.length).getD k default).getD m default))) pm (Ch.s (.agg [(.d (.int .i64 ((k : Nat) : Int))), (.d (.int .i64 ((s : Nat) : Int))), (.d (.int .i64 (((nxTo x x.arcs.length).getD k default).getD m default)))]) (.build _ _ rfl stru216 (.cons (.one _ rfl) (.cons (.one _ rfl) (.cons (.one _ rfl) .nil))) rfl) (Ch.s (.row 84000) (.slice 84000 _ 216 _ rfl sty175 (xs := [.tmp 83]) rfl rfl (.cons (.agg (.cons (.d _) (.cons (.d _) (.cons (.d _) .nil))) rfl) .nil) rfl rfl (by decide)) ?_))))))
         refine Ch.step (v := (.row 85000)) rfl (.append 85000 _ _ _ 216 rfl sty175 (by decide) (.rowK rfl) (.inr ⟨_, rfl, rfl⟩) (.row rfl rfl) rfl (by first | omega | (simp only [List.length_append, List.length_map, List.length_cons, List.length_nil]; omega) | (simp; omega) | (simp; done))) rfl rfl ?_
         refine Ch.s (.row 85000) pa (Ch.nil (T_region hc (Ch.s (.d (.int .i64 (((m : Nat) : Int) + 1))) (.pure (.int _ _ _ _ _ rfl rfl rfl intV_addA)) (Ch.s (.d (.int .i64 (((m : Nat) : Int) + 1))) pm (Ch.nil ?_)))))
         exact nx (m + 1) (by omega) (Wk.ren [(3, 85000)] rfl rfl rfl rfl (ai rfl (ai rfl (ai rfl (ai rfl (ai rfl (ai rfl (ai rfl (ai rfl (ai rfl (ai rfl (ai rfl (ai rfl (ai (vI (by first | rfl | omega | (simp; done) | (simp; omega))) trivial))))))))))))) (ai (oR (by first | (exact congrArg (List.map _) (pvB_zero x k s _)) | (exact push rfl (pvB_yes (by omega) (by omega) (pvQ_yes (by assumption) (by first | assumption | exact two_i0 hx (by omega) (by assumption)) (by first | exact .inl (by assumption) | exact .inr (by assumption))))) | (exact congrArg (List.map _) (pvB_no (by omega) (pvQ_no1 (by assumption)))) | (exact congrArg (List.map _) (pvB_no (by omega) (pvQ_no2 (by first | assumption | exact two_i1 hx (by omega) (by assumption))))) | (exact congrArg (List.map _) (pvB_no (by omega) (pvQ_no3 (by assumption) (by assumption)))))) (ai rfl (ai rfl (ai rfl (ai rfl (ai rfl trivial)))))))
        ·
         replace h8 := notf h8
         refine T_skip (T_region hc (Ch.s (.d (.int .i64 (((m : Nat) : Int) + 1))) (.pure (.int _ _ _ _ _ rfl rfl rfl intV_addA)) (Ch.s (.d (.int .i64 (((m : Nat) : Int) + 1))) pm (Ch.nil ?_))))
         exact nx (m + 1) (by omega) (Wk.of rfl rfl (ai rfl (ai rfl (ai rfl (ai rfl (ai rfl (ai rfl (ai rfl (ai rfl (ai rfl (ai rfl (ai rfl (ai rfl (ai (vI (by first | rfl | omega | (simp; done) | (simp; omega))) trivial))))))))))))) (ai (oR (by first | (exact congrArg (List.map _) (pvB_zero x k s _)) | (exact push rfl (pvB_yes (by omega) (by omega) (pvQ_yes (by assumption) (by first | assumption | exact two_i0 hx (by omega) (by assumption)) (by first | exact .inl (by assumption) | exact .inr (by assumption))))) | (exact congrArg (List.map _) (pvB_no (by omega) (pvQ_no1 (by assumption)))) | (exact congrArg (List.map _) (pvB_no (by omega) (pvQ_no2 (by first | assumption | exact two_i1 hx (by omega) (by assumption))))) | (exact congrArg (List.map _) (pvB_no (by omega) (pvQ_no3 (by assumption) (by assumption)))))) (ai rfl (ai rfl (ai rfl (ai rfl (ai rfl trivial)))))))
       | false =>
        refine Ch.skip rfl rfl (Ch.skip rfl rfl (Ch.skip rfl rfl (Ch.skip rfl rfl (Ch.s (.d (.bool false)) (.pure (.pickF _ _ _ rfl rfl rfl)) (Ch.s (.d (.bool true)) (.pure (.not (b := false) _ _ rfl rfl)) (Ch.s (.d (.bool true)) (.pure (.pickT _ _ _ rfl rfl rfl)) (Ch.nil ?_)))))))
        refine T_cond (b := true) rfl (fun _ => ?_) (fun h => nomatch h)
        refine T_region hc (Ch.s (.row 3) pm (Ch.s (.d (.int .i64 ((k : Nat) : Int))) pm (Ch.s (.d (.int .i64 ((s : Nat) : Int))) pm (Ch.s (.d (.int .i64 (((nxTo x x.arcs.length).getD k default).getD m default))) pm (Ch.s (.agg [(.d (.int .i64 ((k : Nat) : Int))), (.d (.int .i64 ((s : Nat) : Int))), (.d (.int .i64 (((nxTo x x.arcs.length).getD k default).getD m default)))]) (.build _ _ rfl stru216 (.cons (.one _ rfl) (.cons (.one _ rfl) (.cons (.one _ rfl) .nil))) rfl) (Ch.s (.row 84000) (.slice 84000 _ 216 _ rfl sty175 (xs := [.tmp 83]) rfl rfl (.cons (.agg (.cons (.d _) (.cons (.d _) (.cons (.d _) .nil))) rfl) .nil) rfl rfl (by decide)) ?_))))))
        refine Ch.step (v := (.row 85000)) rfl (.append 85000 _ _ _ 216 rfl sty175 (by decide) (.rowK rfl) (.inr ⟨_, rfl, rfl⟩) (.row rfl rfl) rfl (by first | omega | (simp only [List.length_append, List.length_map, List.length_cons, List.length_nil]; omega) | (simp; omega) | (simp; done))) rfl rfl ?_
        refine Ch.s (.row 85000) pa (Ch.nil (T_region hc (Ch.s (.d (.int .i64 (((m : Nat) : Int) + 1))) (.pure (.int _ _ _ _ _ rfl rfl rfl intV_addA)) (Ch.s (.d (.int .i64 (((m : Nat) : Int) + 1))) pm (Ch.nil ?_)))))
        exact nx (m + 1) (by omega) (Wk.ren [(3, 85000)] rfl rfl rfl rfl (ai rfl (ai rfl (ai rfl (ai rfl (ai rfl (ai rfl (ai rfl (ai rfl (ai rfl (ai rfl (ai rfl (ai rfl (ai (vI (by first | rfl | omega | (simp; done) | (simp; omega))) trivial))))))))))))) (ai (oR (by first | (exact congrArg (List.map _) (pvB_zero x k s _)) | (exact push rfl (pvB_yes (by omega) (by omega) (pvQ_yes (by assumption) (by first | assumption | exact two_i0 hx (by omega) (by assumption)) (by first | exact .inl (by assumption) | exact .inr (by assumption))))) | (exact congrArg (List.map _) (pvB_no (by omega) (pvQ_no1 (by assumption)))) | (exact congrArg (List.map _) (pvB_no (by omega) (pvQ_no2 (by first | assumption | exact two_i1 hx (by omega) (by assumption))))) | (exact congrArg (List.map _) (pvB_no (by omega) (pvQ_no3 (by assumption) (by assumption)))))) (ai rfl (ai rfl (ai rfl (ai rfl (ai rfl trivial)))))))
      | false =>
       replace h6 := of_decide_eq_false h6
       refine Ch.skip rfl rfl (Ch.skip rfl rfl (Ch.skip rfl rfl (Ch.skip rfl rfl (Ch.skip rfl rfl (Ch.skip rfl rfl (Ch.skip rfl rfl (Ch.skip rfl rfl ?_)))))))
       refine Ch.skip rfl rfl (Ch.skip rfl rfl (Ch.s (.d (.bool false)) (.pure (.pickF _ _ _ rfl rfl rfl)) (Ch.nil ?_)))
       refine T_cond (b := false) rfl (fun h => nomatch h) (fun _ => ?_)
       refine T_skip (T_region hc (Ch.s (.d (.int .i64 (((m : Nat) : Int) + 1))) (.pure (.int _ _ _ _ _ rfl rfl rfl intV_addA)) (Ch.s (.d (.int .i64 (((m : Nat) : Int) + 1))) pm (Ch.nil ?_))))
       exact nx (m + 1) (by omega) (Wk.of rfl rfl (ai rfl (ai rfl (ai rfl (ai rfl (ai rfl (ai rfl (ai rfl (ai rfl (ai rfl (ai rfl (ai rfl (ai rfl (ai (vI (by first | rfl | omega | (simp; done) | (simp; omega))) trivial))))))))))))) (ai (oR (by first | (exact congrArg (List.map _) (pvB_zero x k s _)) | (exact push rfl (pvB_yes (by omega) (by omega) (pvQ_yes (by assumption) (by first | assumption | exact two_i0 hx (by omega) (by assumption)) (by first | exact .inl (by assumption) | exact .inr (by assumption))))) | (exact congrArg (List.map _) (pvB_no (by omega) (pvQ_no1 (by assumption)))) | (exact congrArg (List.map _) (pvB_no (by omega) (pvQ_no2 (by first | assumption | exact two_i1 hx (by omega) (by assumption))))) | (exact congrArg (List.map _) (pvB_no (by omega) (pvQ_no3 (by assumption) (by assumption)))))) (ai rfl (ai rfl (ai rfl (ai rfl (ai rfl trivial)))))))
    ·
     replace h4 := of_decide_eq_false h4
     try have hmk := hm6 k
     try have hnt := (nx_mem hen (j := k) (i := ((nxTo x x.arcs.length).getD k default).getD m default) x.arcs.length (Nat.le_refl _)).1 (getD_mem (by omega))
     try have hek := hen _ (getD_mem (l := x.arcs) (j := (((nxTo x x.arcs.length).getD k default).getD m default).toNat) (d := default) (by omega))
     try have hsk := (hx.sig _ (getD_mem (l := x.arcs) (j := (((nxTo x x.arcs.length).getD k default).getD m default).toNat) (d := default) (by omega))).1
     try have hm7 := hm6 (x.arcs.getD (((nxTo x x.arcs.length).getD k default).getD m default).toNat default).dst.toNat
     refine T_exit (T_region hc (Ch.s (.d (.int .i64 (((s : Nat) : Int) + 1))) (.pure (.int _ _ _ _ _ rfl rfl rfl intV_addA)) (Ch.s (.d (.int .i64 (((s : Nat) : Int) + 1))) pm (Ch.nil ?_))))
     exact nx (s + 1) (by omega) (Wk.trans (Wk.give 15000 k 7000002 7000003 rfl (get_set (by first | omega | (simp only [List.length_map, List.length_set]; omega) | (simp; omega))) rfl rfl rfl (set_back (f := intsU) (by omega))) (Wk.of rfl rfl (ai rfl (ai rfl (ai rfl (ai rfl (ai rfl (ai rfl (ai rfl (ai rfl (ai (vI (by first | rfl | omega | (simp; done) | (simp; omega))) trivial))))))))) (ai (oR (by first | (exact congrArg (List.map _) (pvA_zero x k)) | (exact congrArg (List.map _) (pvA_no (by first | assumption | exact two_n0 hx (by omega) (by assumption)))) | (exact congrArg (List.map _) (pvB_end hx (by omega) (two_n1 hx (by omega) (by assumption)) (by omega))) | (exact congrArg (List.map _) (pvC_end (by assumption) (by omega))))) (ai rfl (ai rfl (ai rfl trivial))))))
  ·
   replace h2 := of_decide_eq_false h2
   try have hmk := hm6 k
   try have hnt := (nx_mem hen (j := k) (i := ((nxTo x x.arcs.length).getD k default).getD m default) x.arcs.length (Nat.le_refl _)).1 (getD_mem (by omega))
   try have hek := hen _ (getD_mem (l := x.arcs) (j := (((nxTo x x.arcs.length).getD k default).getD m default).toNat) (d := default) (by omega))
   try have hsk := (hx.sig _ (getD_mem (l := x.arcs) (j := (((nxTo x x.arcs.length).getD k default).getD m default).toNat) (d := default) (by omega))).1
   try have hm7 := hm6 (x.arcs.getD (((nxTo x x.arcs.length).getD k default).getD m default).toNat default).dst.toNat
   refine T_exit (T_region hc (Ch.s (.d (.int .i64 (((k : Nat) : Int) + 1))) (.pure (.int _ _ _ _ _ rfl rfl rfl intV_addA)) (Ch.s (.d (.int .i64 (((k : Nat) : Int) + 1))) pm (Ch.nil ?_))))
   exact nx (k + 1) (by omega) (Wk.of rfl rfl (ai rfl (ai rfl (ai rfl (ai rfl (ai rfl (ai (vI (by first | rfl | omega | (simp; done) | (simp; omega))) trivial)))))) (ai (oR (by first | rfl | (exact congrArg (List.map _) (pvA_end (by omega))))) (ai rfl (ai rfl (ai rfl trivial)))))
 ·
  replace h1 := of_decide_eq_false h1
  refine T_exit (T_seq (T_region hc (Ch.s (.row 3) pm (Ch.s (.row 3) pa (Ch.nil (T_ret ?_))))))
  exact endR [(.row 3)] [] [3] (.cons (.tmp 2 rfl) .nil) (.cons (.any _) .nil) (Exp.of (congrArg (D.slice true 3) (by rw [pvL, show x.codes.length = k by omega])) (.row rfl)) rfl rfl

set_option maxHeartbeats 2000000 in
theorem sp_spec_l6Breaks (x : Sgr) (hb : x.bulk ≤ 1048576) (hx : SgOk x) : Sp Tryz.prog 168 [(.agg [(.slice false 2 (x.sigs.map Sgn.d)), (.slice false 1 (x.codes.map D.str)), (.slice false 4 (x.arcs.map Arc.d))])] [.any] (.slice true 3 ((pvL x).map Pvi.d)) := by
 refine Sp_intro (lend := true) Tryz.func168 rfl rfl rfl (fun _ => rfl) (fun c hc hX => ?_)
 obtain ⟨hp0, hp1, hp2⟩ := Sgr.parts hb
 have hn0 := bulkF_len hp0
 have hn1 := bulk_len hp1
 have hx1 := bulk_mem hp1
 have hn2 := bulkF_len hp2; have hx8 := hx.eight; have hxl := hx.len; have hxf := hx.few; have hen := hx.ends
 refine T_seq (T_region hc (Ch.s (.ptr 1000 0) (.box 1000 _ _ rfl (.aggD _)) (Ch.s (.c (.slice none 0 0)) pa (Ch.nil (T_seq (T_region hc (Ch.s (.c (.slice none 0 0)) pa ?_)))))))
 refine Ch.nil (T_seq (T_seq (T_region hc (Ch.s (.ptr 1000 1) (.pure (.fldPtr _ _ _ rfl fld35_1 rfl)) (Ch.s (.d (.slice false 1 (x.codes.map D.str))) (.pure (.loadPtr1 _ _ rfl ag23 rfl rfl rfl)) (Ch.s (.d (.int .i64 ((x.codes.length : Nat) : Int))) (.pure (.len _ _ 9 rfl Tryz.underlying23 (.sh _ _) (by simp))) (Ch.s (.d (.int .i64 0)) pm ?_)))))))
 refine Ch.nil (T_block ?_)
 refine T_loop (ι := Nat) (fun k => { n := 73, sl := [(1, (.ptr 1000 0)), (3, (.row 3)), (10, (.d (.int .i64 ((x.codes.length : Nat) : Int)))), (11, (.d (.int .i64 ((k : Nat) : Int))))], hp := [(3, (some (.row 3 ((pvTo x k).map Pvi.d)))), (1000, (some (.box [(.d (.slice false 2 (x.sigs.map Sgn.d))), (.d (.slice false 1 (x.codes.map D.str))), (.d (.slice false 4 (x.arcs.map Arc.d)))])))], pin := [] }) (fun k => k ≤ x.codes.length) (fun k => x.codes.length - k) ⟨0, (by omega), (Wk.trans (Wk.nilrow 3 900003 3 rfl rfl rfl) (Wk.ren [(3, 900003)] rfl rfl rfl rfl (ai rfl (ai rfl (ai rfl (ai (vI (by first | rfl | omega | (simp; done) | (simp; omega))) trivial)))) (ai (oR (by first | rfl | (exact congrArg (List.map _) (pvA_end (by omega))))) (ai rfl trivial))))⟩ (fun k hp0 => ?_)
 refine T_seq (T_region hc (Ch.s (.d (.bool (decide (((k : Nat) : Int) < ((x.codes.length : Nat) : Int))))) (.pure (.int _ _ _ _ _ rfl rfl rfl rfl)) (Ch.nil (T_seq ?_))))
 refine T_cond (b := (decide (((k : Nat) : Int) < ((x.codes.length : Nat) : Int)))) rfl (fun h1 => ?_) (fun h1 => ?_)
 ·
  replace h1 := of_decide_eq_true h1
  refine T_skip (T_seq (T_block (T_seq (T_region hc (Ch.s (.d (.int .i64 ((k : Nat) : Int))) pm (Ch.s (.d (.int .i64 ((k : Nat) : Int))) pa (Ch.nil ?_)))))))
  refine T_seq (T_region hc (Ch.s (.ptr 1000 0) (.pure (.fldPtr _ _ _ rfl fld35_0 rfl)) (Ch.s (.d (.slice false 2 (x.sigs.map Sgn.d))) (.pure (.loadPtr1 _ _ rfl ag32 rfl rfl rfl)) (Ch.s (.d (.int .i64 ((x.sigs.length : Nat) : Int))) (.pure (.len _ _ 154 rfl Tryz.underlying32 (.sh _ _) (by simp))) (Ch.s (.d (.int .i64 0)) pm (Ch.nil (T_block ?_)))))))
  refine T_loop (ι := Nat) (fun s => { n := 73, sl := [(1, (.ptr 1000 0)), (3, (.row 3)), (4, (.d (.int .i64 ((k : Nat) : Int)))), (10, (.d (.int .i64 ((x.codes.length : Nat) : Int)))), (11, (.d (.int .i64 ((k : Nat) : Int)))), (16, (.d (.int .i64 ((x.sigs.length : Nat) : Int)))), (17, (.d (.int .i64 ((s : Nat) : Int))))], hp := [(3, (some (.row 3 ((pvA x k s).map Pvi.d)))), (1000, (some (.box [(.d (.slice false 2 (x.sigs.map Sgn.d))), (.d (.slice false 1 (x.codes.map D.str))), (.d (.slice false 4 (x.arcs.map Arc.d)))])))], pin := [] }) (fun s => s ≤ x.sigs.length) (fun s => x.sigs.length - s) ⟨0, (by omega), (Wk.of rfl rfl (ai rfl (ai rfl (ai rfl (ai rfl (ai rfl (ai rfl (ai (vI (by first | rfl | omega | (simp; done) | (simp; omega))) trivial))))))) (ai (oR (by first | (exact congrArg (List.map _) (pvA_zero x k)) | (exact congrArg (List.map _) (pvA_no (by first | assumption | exact two_n0 hx (by omega) (by assumption)))) | (exact congrArg (List.map _) (pvB_end hx (by omega) (two_n1 hx (by omega) (by assumption)) (by omega))) | (exact congrArg (List.map _) (pvC_end (by assumption) (by omega))))) (ai rfl trivial)))⟩ (fun s hp1 => ?_)
  refine T_seq (T_region hc (Ch.s (.d (.bool (decide (((s : Nat) : Int) < ((x.sigs.length : Nat) : Int))))) (.pure (.int _ _ _ _ _ rfl rfl rfl rfl)) (Ch.nil (T_seq ?_))))
  refine T_cond (b := (decide (((s : Nat) : Int) < ((x.sigs.length : Nat) : Int)))) rfl (fun h2 => ?_) (fun h2 => ?_)
  ·
   replace h2 := of_decide_eq_true h2
   refine T_skip (T_seq (T_block (T_seq (T_region hc (Ch.s (.d (.int .i64 ((s : Nat) : Int))) pm (Ch.s (.d (.int .i64 ((s : Nat) : Int))) pa (Ch.nil ?_)))))))
   refine T_seq (T_seq (T_region hc (Ch.s (.agg [(.d (.slice false 2 (x.sigs.map Sgn.d))), (.d (.slice false 1 (x.codes.map D.str))), (.d (.slice false 4 (x.arcs.map Arc.d)))]) (.pure (.loadPtrA _ _ rfl ag35 sz35 rfl rfl (Nat.le_of_ble_eq_true rfl) rfl)) (Ch.s (.d (.int .i64 ((k : Nat) : Int))) pm (Ch.s (.d (.int .i64 ((s : Nat) : Int))) pm (Ch.s (.d (.bool (excB x ((k : Nat) : Int) ((s : Nat) : Int)))) (.call 23000 158 _ _ _ en158 rfl (.inl rfl) (.cons (.lend (.agg (.cons (.d _) (.cons (.d _) (.cons (.d _) .nil))) rfl)) (.cons (.d _) (.cons (.d _) .nil))) rfl rfl (sp_spec_l5Excited x ((k : Nat) : Int) ((s : Nat) : Int) (by first | assumption | omega | (rw [List.length_take]; omega) | (have := bulkF_mem hb _ (getD_mem (d := default) (by omega)); assumption) | (unfold bulkS at *; omega) | (simp_all; done))) (.skip _ _ (.skip _ _ (.skip _ _ .nil))) rfl) (Ch.s (.d (.bool (!(excB x ((k : Nat) : Int) ((s : Nat) : Int))))) (.pure (.not _ _ rfl rfl)) ?_)))))))
   refine Ch.nil ?_
   refine T_cond (b := (!(excB x ((k : Nat) : Int) ((s : Nat) : Int)))) rfl (fun h3 => ?_) (fun h3 => ?_)
   ·
    replace h3 := nott h3
    try have hek := hen _ (getD_mem (l := x.arcs) (j := m) (d := default) (by omega))
    try have hsk := (hx.sig _ (getD_mem (l := x.arcs) (j := m) (d := default) (by omega))).1
    refine T_exit (T_region hc (Ch.s (.d (.int .i64 (((s : Nat) : Int) + 1))) (.pure (.int _ _ _ _ _ rfl rfl rfl intV_addA)) (Ch.s (.d (.int .i64 (((s : Nat) : Int) + 1))) pm (Ch.nil ?_))))
    exact nx (s + 1) (by omega) (Wk.of rfl rfl (ai rfl (ai rfl (ai rfl (ai rfl (ai rfl (ai rfl (ai (vI (by first | rfl | omega | (simp; done) | (simp; omega))) trivial))))))) (ai (oR (by first | (exact congrArg (List.map _) (pvA_zero x k)) | (exact congrArg (List.map _) (pvA_no (by first | assumption | exact two_n0 hx (by omega) (by assumption)))) | (exact congrArg (List.map _) (pvB_end hx (by omega) (two_n1 hx (by omega) (by assumption)) (by omega))) | (exact congrArg (List.map _) (pvC_end (by assumption) (by omega))))) (ai rfl trivial)))
   ·
    replace h3 := notf h3
    try have hek := hen _ (getD_mem (l := x.arcs) (j := m) (d := default) (by omega))
    try have hsk := (hx.sig _ (getD_mem (l := x.arcs) (j := m) (d := default) (by omega))).1
    refine T_skip (T_seq (T_region hc (Ch.s (.ptr 1000 2) (.pure (.fldPtr _ _ _ rfl fld35_2 rfl)) (Ch.s (.d (.slice false 4 (x.arcs.map Arc.d))) (.pure (.loadPtr1 _ _ rfl ag33 rfl rfl rfl)) (Ch.s (.d (.int .i64 ((x.arcs.length : Nat) : Int))) (.pure (.len _ _ 125 rfl Tryz.underlying33 (.sh _ _) (by simp))) (Ch.s (.d (.int .i64 0)) pm (Ch.nil ?_)))))))
    refine T_block ?_
    refine T_loop (ι := Nat) (fun m => { n := 73, sl := [(1, (.ptr 1000 0)), (3, (.row 3)), (4, (.d (.int .i64 ((k : Nat) : Int)))), (5, (.d (.int .i64 ((s : Nat) : Int)))), (10, (.d (.int .i64 ((x.codes.length : Nat) : Int)))), (11, (.d (.int .i64 ((k : Nat) : Int)))), (16, (.d (.int .i64 ((x.sigs.length : Nat) : Int)))), (17, (.d (.int .i64 ((s : Nat) : Int)))), (26, (.d (.slice false 4 (x.arcs.map Arc.d)))), (27, (.d (.int .i64 ((x.arcs.length : Nat) : Int)))), (28, (.d (.int .i64 ((m : Nat) : Int))))], hp := [(3, (some (.row 3 ((pvC x k s m).map Pvi.d)))), (1000, (some (.box [(.d (.slice false 2 (x.sigs.map Sgn.d))), (.d (.slice false 1 (x.codes.map D.str))), (.d (.slice false 4 (x.arcs.map Arc.d)))])))], pin := [] }) (fun m => m ≤ x.arcs.length) (fun m => x.arcs.length - m) ⟨0, (by omega), (Wk.of rfl rfl (ai rfl (ai rfl (ai rfl (ai rfl (ai rfl (ai rfl (ai rfl (ai rfl (ai rfl (ai rfl (ai (vI (by first | rfl | omega | (simp; done) | (simp; omega))) trivial))))))))))) (ai (oR (by first | (exact congrArg (List.map _) (pvC_zero x k s)) | (exact push rfl (pvC_yes (pvP_of (by assumption) (pvQ_yes (by assumption) (by first | assumption | exact two_i0 hx (by omega) (by assumption)) (by first | exact .inl (by assumption) | exact .inr (by assumption)))))) | (exact congrArg (List.map _) (pvC_no (pvP_no (by assumption)))) | (exact congrArg (List.map _) (pvC_no (pvP_of (by assumption) (pvQ_no1 (by assumption))))) | (exact congrArg (List.map _) (pvC_no (pvP_of (by assumption) (pvQ_no2 (by first | assumption | exact two_i1 hx (by omega) (by assumption)))))) | (exact congrArg (List.map _) (pvC_no (pvP_of (by assumption) (pvQ_no3 (by assumption) (by assumption))))))) (ai rfl trivial)))⟩ (fun m hp2 => ?_)
    have hq := pvC_le hxf hx8.2 (k := k) (s := s) (m := m) (by omega) (by omega) (by omega)
    refine T_seq (T_region hc (Ch.s (.d (.bool (decide (((m : Nat) : Int) < ((x.arcs.length : Nat) : Int))))) (.pure (.int _ _ _ _ _ rfl rfl rfl rfl)) (Ch.nil (T_seq ?_))))
    refine T_cond (b := (decide (((m : Nat) : Int) < ((x.arcs.length : Nat) : Int)))) rfl (fun h4 => ?_) (fun h4 => ?_)
    ·
     replace h4 := of_decide_eq_true h4
     try have hek := hen _ (getD_mem (l := x.arcs) (j := m) (d := default) (by omega))
     try have hsk := (hx.sig _ (getD_mem (l := x.arcs) (j := m) (d := default) (by omega))).1
     refine T_skip (T_seq (T_block (T_seq (T_region hc (Ch.s (.d (.int .i64 ((m : Nat) : Int))) pm (Ch.s (.d (.ref (.agg [(.int .i64 ((x.arcs.getD m default).src)), (.int .i64 ((x.arcs.getD m default).sig)), (.bool ((x.arcs.getD m default).up)), (.int .i64 ((x.arcs.getD m default).dst))]))) (.pure (.idx _ _ _ 125 (m) rfl Tryz.underlying33 sz125 rfl rfl rfl get_mapA)) (Ch.s (.d (.agg [(.int .i64 ((x.arcs.getD m default).src)), (.int .i64 ((x.arcs.getD m default).sig)), (.bool ((x.arcs.getD m default).up)), (.int .i64 ((x.arcs.getD m default).dst))])) (.pure (.loadRefA _ _ rfl ag125 sz125 rfl)) ?_)))))))
     refine Ch.s (.ptr 7000 0) (.alloc 7000 _ rfl zer125) (Ch.s (.d (.int .i64 ((m : Nat) : Int))) pa (Ch.s .junk (.storePtr _ _ _ rfl rfl rfl (.aggD _) sz125 (Nat.le_of_ble_eq_true rfl)) (Ch.nil (T_seq (T_region hc (Ch.s (.ptr 7000 0) (.pure (.fldPtr _ _ _ rfl fld125_0 rfl)) (Ch.s (.d (.int .i64 ((x.arcs.getD m default).src))) (.pure (.loadPtr1 _ _ rfl ag3 rfl rfl rfl)) ?_)))))))
     refine Ch.s (.d (.int .i64 ((k : Nat) : Int))) pm (Ch.s (.d (.bool (decide (((x.arcs.getD m default).src) = ((k : Nat) : Int))))) (.pure (.int _ _ _ _ _ rfl rfl rfl rfl)) (Ch.s (.d (.bool (decide (((x.arcs.getD m default).src) = ((k : Nat) : Int))))) pm ?_))
     cases h5 : (decide (((x.arcs.getD m default).src) = ((k : Nat) : Int))) with
     | true =>
      replace h5 := of_decide_eq_true h5
      try have hek := hen _ (getD_mem (l := x.arcs) (j := m) (d := default) (by omega))
      try have hsk := (hx.sig _ (getD_mem (l := x.arcs) (j := m) (d := default) (by omega))).1
      refine Ch.s (.ptr 7000 1) (.pure (.fldPtr _ _ _ rfl fld125_1 rfl)) (Ch.s (.d (.int .i64 ((x.arcs.getD m default).sig))) (.pure (.loadPtr1 _ _ rfl ag3 rfl rfl rfl)) (Ch.s (.d (.int .i64 ((s : Nat) : Int))) pm (Ch.s (.d (.bool (!(decide (((x.arcs.getD m default).sig) = ((s : Nat) : Int)))))) (.pure (.int _ _ _ _ _ rfl rfl rfl rfl)) (Ch.s (.d (.bool (!(decide (((x.arcs.getD m default).sig) = ((s : Nat) : Int)))))) (.pure (.pickT _ _ _ rfl rfl rfl)) (Ch.s (.d (.bool (!(decide (((x.arcs.getD m default).sig) = ((s : Nat) : Int)))))) pm ?_)))))
      cases h6 : (decide (((x.arcs.getD m default).sig) = ((s : Nat) : Int))) with
      | true =>
       replace h6 := of_decide_eq_true h6
       refine Ch.skip rfl rfl (Ch.skip rfl rfl (Ch.skip rfl rfl (Ch.skip rfl rfl (Ch.skip rfl rfl (Ch.skip rfl rfl (Ch.s (.d (.bool false)) (.pure (.pickF _ _ _ rfl rfl rfl)) (Ch.s (.d (.bool false)) pm ?_)))))))
       refine Ch.skip rfl rfl (Ch.skip rfl rfl (Ch.skip rfl rfl (Ch.skip rfl rfl (Ch.skip rfl rfl (Ch.skip rfl rfl (Ch.skip rfl rfl (Ch.skip rfl rfl ?_)))))))
       refine Ch.skip rfl rfl (Ch.s (.d (.bool false)) (.pure (.pickF _ _ _ rfl rfl rfl)) (Ch.nil ?_))
       refine T_cond (b := false) rfl (fun h => nomatch h) (fun _ => ?_)
       refine T_skip (T_region hc (Ch.s (.d (.int .i64 (((m : Nat) : Int) + 1))) (.pure (.int _ _ _ _ _ rfl rfl rfl intV_addA)) (Ch.s (.d (.int .i64 (((m : Nat) : Int) + 1))) pm (Ch.nil ?_))))
       exact nx (m + 1) (by omega) (Wk.of rfl rfl (ai rfl (ai rfl (ai rfl (ai rfl (ai rfl (ai rfl (ai rfl (ai rfl (ai rfl (ai rfl (ai (vI (by first | rfl | omega | (simp; done) | (simp; omega))) trivial))))))))))) (ai (oR (by first | (exact congrArg (List.map _) (pvC_zero x k s)) | (exact push rfl (pvC_yes (pvP_of (by assumption) (pvQ_yes (by assumption) (by first | assumption | exact two_i0 hx (by omega) (by assumption)) (by first | exact .inl (by assumption) | exact .inr (by assumption)))))) | (exact congrArg (List.map _) (pvC_no (pvP_no (by assumption)))) | (exact congrArg (List.map _) (pvC_no (pvP_of (by assumption) (pvQ_no1 (by assumption))))) | (exact congrArg (List.map _) (pvC_no (pvP_of (by assumption) (pvQ_no2 (by first | assumption | exact two_i1 hx (by omega) (by assumption)))))) | (exact congrArg (List.map _) (pvC_no (pvP_of (by assumption) (pvQ_no3 (by assumption) (by assumption))))))) (ai rfl trivial)))
      | false =>
       replace h6 := of_decide_eq_false h6
       refine Ch.s (.agg [(.d (.slice false 2 (x.sigs.map Sgn.d))), (.d (.slice false 1 (x.codes.map D.str))), (.d (.slice false 4 (x.arcs.map Arc.d)))]) (.pure (.loadPtrA _ _ rfl ag35 sz35 rfl rfl (Nat.le_of_ble_eq_true rfl) rfl)) (Ch.s (.ptr 7000 3) (.pure (.fldPtr _ _ _ rfl fld125_3 rfl)) (Ch.s (.d (.int .i64 ((x.arcs.getD m default).dst))) (.pure (.loadPtr1 _ _ rfl ag3 rfl rfl rfl)) (Ch.s (.d (.int .i64 ((s : Nat) : Int))) pm (Ch.s (.d (.bool (excB x ((x.arcs.getD m default).dst) ((s : Nat) : Int)))) (.call 48000 158 _ _ _ en158 rfl (.inl rfl) (.cons (.lend (.agg (.cons (.d _) (.cons (.d _) (.cons (.d _) .nil))) rfl)) (.cons (.d _) (.cons (.d _) .nil))) rfl rfl (sp_spec_l5Excited x ((x.arcs.getD m default).dst) ((s : Nat) : Int) (by first | assumption | omega | (rw [List.length_take]; omega) | (have := bulkF_mem hb _ (getD_mem (d := default) (by omega)); assumption) | (unfold bulkS at *; omega) | (simp_all; done))) (.skip _ _ (.skip _ _ (.skip _ _ .nil))) rfl) (Ch.s (.d (.bool (!(excB x ((x.arcs.getD m default).dst) ((s : Nat) : Int))))) (.pure (.not _ _ rfl rfl)) (Ch.s (.d (.bool (!(excB x ((x.arcs.getD m default).dst) ((s : Nat) : Int))))) (.pure (.pickT _ _ _ rfl rfl rfl)) (Ch.s (.d (.bool (!(excB x ((x.arcs.getD m default).dst) ((s : Nat) : Int))))) pm ?_)))))))
       cases h7 : (excB x ((x.arcs.getD m default).dst) ((s : Nat) : Int)) with
       | true =>
        refine Ch.skip rfl rfl (Ch.skip rfl rfl (Ch.skip rfl rfl (Ch.skip rfl rfl (Ch.skip rfl rfl (Ch.skip rfl rfl (Ch.skip rfl rfl (Ch.skip rfl rfl ?_)))))))
        refine Ch.skip rfl rfl (Ch.s (.d (.bool false)) (.pure (.pickF _ _ _ rfl rfl rfl)) (Ch.nil ?_))
        refine T_cond (b := false) rfl (fun h => nomatch h) (fun _ => ?_)
        refine T_skip (T_region hc (Ch.s (.d (.int .i64 (((m : Nat) : Int) + 1))) (.pure (.int _ _ _ _ _ rfl rfl rfl intV_addA)) (Ch.s (.d (.int .i64 (((m : Nat) : Int) + 1))) pm (Ch.nil ?_))))
        exact nx (m + 1) (by omega) (Wk.of rfl rfl (ai rfl (ai rfl (ai rfl (ai rfl (ai rfl (ai rfl (ai rfl (ai rfl (ai rfl (ai rfl (ai (vI (by first | rfl | omega | (simp; done) | (simp; omega))) trivial))))))))))) (ai (oR (by first | (exact congrArg (List.map _) (pvC_zero x k s)) | (exact push rfl (pvC_yes (pvP_of (by assumption) (pvQ_yes (by assumption) (by first | assumption | exact two_i0 hx (by omega) (by assumption)) (by first | exact .inl (by assumption) | exact .inr (by assumption)))))) | (exact congrArg (List.map _) (pvC_no (pvP_no (by assumption)))) | (exact congrArg (List.map _) (pvC_no (pvP_of (by assumption) (pvQ_no1 (by assumption))))) | (exact congrArg (List.map _) (pvC_no (pvP_of (by assumption) (pvQ_no2 (by first | assumption | exact two_i1 hx (by omega) (by assumption)))))) | (exact congrArg (List.map _) (pvC_no (pvP_of (by assumption) (pvQ_no3 (by assumption) (by assumption))))))) (ai rfl trivial)))
       | false =>
        refine Ch.s (.agg [(.d (.slice false 2 (x.sigs.map Sgn.d))), (.d (.slice false 1 (x.codes.map D.str))), (.d (.slice false 4 (x.arcs.map Arc.d)))]) (.pure (.loadPtrA _ _ rfl ag35 sz35 rfl rfl (Nat.le_of_ble_eq_true rfl) rfl)) (Ch.s (.d (.int .i64 ((s : Nat) : Int))) pm (Ch.s (.d (.bool (!(inputB x ((s : Nat) : Int))))) (.call 54000 203 _ _ _ en203 rfl (.inl rfl) (.cons (.lend (.agg (.cons (.d _) (.cons (.d _) (.cons (.d _) .nil))) rfl)) (.cons (.d _) .nil)) rfl rfl (sp_spec_l6Own x ((s : Nat) : Int) (by first | assumption | omega | (rw [List.length_take]; omega) | (have := bulkF_mem hb _ (getD_mem (d := default) (by omega)); assumption) | (unfold bulkS at *; omega) | (simp_all; done)) (by first | assumption | omega)) (.skip _ _ (.skip _ _ .nil)) rfl) (Ch.s (.d (.bool (!(inputB x ((s : Nat) : Int))))) pm ?_)))
        cases h8 : (inputB x ((s : Nat) : Int)) with
        | true =>
         refine Ch.s (.agg [(.d (.slice false 2 (x.sigs.map Sgn.d))), (.d (.slice false 1 (x.codes.map D.str))), (.d (.slice false 4 (x.arcs.map Arc.d)))]) (.pure (.loadPtrA _ _ rfl ag35 sz35 rfl rfl (Nat.le_of_ble_eq_true rfl) rfl)) (Ch.s (.ptr 7000 1) (.pure (.fldPtr _ _ _ rfl fld125_1 rfl)) (Ch.s (.d (.int .i64 ((x.arcs.getD m default).sig))) (.pure (.loadPtr1 _ _ rfl ag3 rfl rfl rfl)) (Ch.s (.d (.bool (!(inputB x ((x.arcs.getD m default).sig))))) (.call 59000 203 _ _ _ en203 rfl (.inl rfl) (.cons (.lend (.agg (.cons (.d _) (.cons (.d _) (.cons (.d _) .nil))) rfl)) (.cons (.d _) .nil)) rfl rfl (sp_spec_l6Own x ((x.arcs.getD m default).sig) (by first | assumption | omega | (rw [List.length_take]; omega) | (have := bulkF_mem hb _ (getD_mem (d := default) (by omega)); assumption) | (unfold bulkS at *; omega) | (simp_all; done)) (by first | assumption | omega)) (.skip _ _ (.skip _ _ .nil)) rfl) (Ch.s (.d (.bool (!(inputB x ((x.arcs.getD m default).sig))))) (.pure (.pickF _ _ _ rfl rfl rfl)) (Ch.s (.d (.bool (!(inputB x ((x.arcs.getD m default).sig))))) (.pure (.pickT _ _ _ rfl rfl rfl)) (Ch.nil ?_))))))
         refine T_cond (b := (!(inputB x ((x.arcs.getD m default).sig)))) rfl (fun h9 => ?_) (fun h9 => ?_)
         ·
          replace h9 := nott h9
          refine T_region hc (Ch.s (.row 3) pm (Ch.s (.d (.int .i64 ((k : Nat) : Int))) pm (Ch.s (.d (.int .i64 ((s : Nat) : Int))) pm (Ch.s (.d (.int .i64 ((m : Nat) : Int))) pm (Ch.s (.agg [(.d (.int .i64 ((k : Nat) : Int))), (.d (.int .i64 ((s : Nat) : Int))), (.d (.int .i64 ((m : Nat) : Int)))]) (.build _ _ rfl stru216 (.cons (.one _ rfl) (.cons (.one _ rfl) (.cons (.one _ rfl) .nil))) rfl) (Ch.s (.row 67000) (.slice 67000 _ 216 _ rfl sty175 (xs := [.tmp 66]) rfl rfl (.cons (.agg (.cons (.d _) (.cons (.d _) (.cons (.d _) .nil))) rfl) .nil) rfl rfl (by decide)) ?_))))))
          refine Ch.step (v := (.row 68000)) rfl (.append 68000 _ _ _ 216 rfl sty175 (by decide) (.rowK rfl) (.inr ⟨_, rfl, rfl⟩) (.row rfl rfl) rfl (by first | omega | (simp only [List.length_append, List.length_map, List.length_cons, List.length_nil]; omega) | (simp; omega) | (simp; done))) rfl rfl ?_
          refine Ch.s (.row 68000) pa (Ch.nil (T_region hc (Ch.s (.d (.int .i64 (((m : Nat) : Int) + 1))) (.pure (.int _ _ _ _ _ rfl rfl rfl intV_addA)) (Ch.s (.d (.int .i64 (((m : Nat) : Int) + 1))) pm (Ch.nil ?_)))))
          exact nx (m + 1) (by omega) (Wk.ren [(3, 68000)] rfl rfl rfl rfl (ai rfl (ai rfl (ai rfl (ai rfl (ai rfl (ai rfl (ai rfl (ai rfl (ai rfl (ai rfl (ai (vI (by first | rfl | omega | (simp; done) | (simp; omega))) trivial))))))))))) (ai (oR (by first | (exact congrArg (List.map _) (pvC_zero x k s)) | (exact push rfl (pvC_yes (pvP_of (by assumption) (pvQ_yes (by assumption) (by first | assumption | exact two_i0 hx (by omega) (by assumption)) (by first | exact .inl (by assumption) | exact .inr (by assumption)))))) | (exact congrArg (List.map _) (pvC_no (pvP_no (by assumption)))) | (exact congrArg (List.map _) (pvC_no (pvP_of (by assumption) (pvQ_no1 (by assumption))))) | (exact congrArg (List.map _) (pvC_no (pvP_of (by assumption) (pvQ_no2 (by first | assumption | exact two_i1 hx (by omega) (by assumption)))))) | (exact congrArg (List.map _) (pvC_no (pvP_of (by assumption) (pvQ_no3 (by assumption) (by assumption))))))) (ai rfl trivial)))
         ·
          replace h9 := notf h9
          refine T_skip (T_region hc (Ch.s (.d (.int .i64 (((m : Nat) : Int) + 1))) (.pure (.int _ _ _ _ _ rfl rfl rfl intV_addA)) (Ch.s (.d (.int .i64 (((m : Nat) : Int) + 1))) pm (Ch.nil ?_))))
          exact nx (m + 1) (by omega) (Wk.of rfl rfl (ai rfl (ai rfl (ai rfl (ai rfl (ai rfl (ai rfl (ai rfl (ai rfl (ai rfl (ai rfl (ai (vI (by first | rfl | omega | (simp; done) | (simp; omega))) trivial))))))))))) (ai (oR (by first | (exact congrArg (List.map _) (pvC_zero x k s)) | (exact push rfl (pvC_yes (pvP_of (by assumption) (pvQ_yes (by assumption) (by first | assumption | exact two_i0 hx (by omega) (by assumption)) (by first | exact .inl (by assumption) | exact .inr (by assumption)))))) | (exact congrArg (List.map _) (pvC_no (pvP_no (by assumption)))) | (exact congrArg (List.map _) (pvC_no (pvP_of (by assumption) (pvQ_no1 (by assumption))))) | (exact congrArg (List.map _) (pvC_no (pvP_of (by assumption) (pvQ_no2 (by first | assumption | exact two_i1 hx (by omega) (by assumption)))))) | (exact congrArg (List.map _) (pvC_no (pvP_of (by assumption) (pvQ_no3 (by assumption) (by assumption))))))) (ai rfl trivial)))
        | false =>
         refine Ch.skip rfl rfl (Ch.skip rfl rfl (Ch.skip rfl rfl (Ch.skip rfl rfl (Ch.s (.d (.bool true)) (.pure (.pickT _ _ _ rfl rfl rfl)) (Ch.s (.d (.bool true)) (.pure (.pickT _ _ _ rfl rfl rfl)) (Ch.nil ?_))))))
         refine T_cond (b := true) rfl (fun _ => ?_) (fun h => nomatch h)
         refine T_region hc (Ch.s (.row 3) pm (Ch.s (.d (.int .i64 ((k : Nat) : Int))) pm (Ch.s (.d (.int .i64 ((s : Nat) : Int))) pm (Ch.s (.d (.int .i64 ((m : Nat) : Int))) pm (Ch.s (.agg [(.d (.int .i64 ((k : Nat) : Int))), (.d (.int .i64 ((s : Nat) : Int))), (.d (.int .i64 ((m : Nat) : Int)))]) (.build _ _ rfl stru216 (.cons (.one _ rfl) (.cons (.one _ rfl) (.cons (.one _ rfl) .nil))) rfl) (Ch.s (.row 67000) (.slice 67000 _ 216 _ rfl sty175 (xs := [.tmp 66]) rfl rfl (.cons (.agg (.cons (.d _) (.cons (.d _) (.cons (.d _) .nil))) rfl) .nil) rfl rfl (by decide)) ?_))))))
         refine Ch.step (v := (.row 68000)) rfl (.append 68000 _ _ _ 216 rfl sty175 (by decide) (.rowK rfl) (.inr ⟨_, rfl, rfl⟩) (.row rfl rfl) rfl (by first | omega | (simp only [List.length_append, List.length_map, List.length_cons, List.length_nil]; omega) | (simp; omega) | (simp; done))) rfl rfl ?_
         refine Ch.s (.row 68000) pa (Ch.nil (T_region hc (Ch.s (.d (.int .i64 (((m : Nat) : Int) + 1))) (.pure (.int _ _ _ _ _ rfl rfl rfl intV_addA)) (Ch.s (.d (.int .i64 (((m : Nat) : Int) + 1))) pm (Ch.nil ?_)))))
         exact nx (m + 1) (by omega) (Wk.ren [(3, 68000)] rfl rfl rfl rfl (ai rfl (ai rfl (ai rfl (ai rfl (ai rfl (ai rfl (ai rfl (ai rfl (ai rfl (ai rfl (ai (vI (by first | rfl | omega | (simp; done) | (simp; omega))) trivial))))))))))) (ai (oR (by first | (exact congrArg (List.map _) (pvC_zero x k s)) | (exact push rfl (pvC_yes (pvP_of (by assumption) (pvQ_yes (by assumption) (by first | assumption | exact two_i0 hx (by omega) (by assumption)) (by first | exact .inl (by assumption) | exact .inr (by assumption)))))) | (exact congrArg (List.map _) (pvC_no (pvP_no (by assumption)))) | (exact congrArg (List.map _) (pvC_no (pvP_of (by assumption) (pvQ_no1 (by assumption))))) | (exact congrArg (List.map _) (pvC_no (pvP_of (by assumption) (pvQ_no2 (by first | assumption | exact two_i1 hx (by omega) (by assumption)))))) | (exact congrArg (List.map _) (pvC_no (pvP_of (by assumption) (pvQ_no3 (by assumption) (by assumption))))))) (ai rfl trivial)))
     | false =>
      replace h5 := of_decide_eq_false h5
      try have hek := hen _ (getD_mem (l := x.arcs) (j := m) (d := default) (by omega))
      try have hsk := (hx.sig _ (getD_mem (l := x.arcs) (j := m) (d := default) (by omega))).1
      refine Ch.skip rfl rfl (Ch.skip rfl rfl (Ch.skip rfl rfl (Ch.skip rfl rfl (Ch.s (.d (.bool false)) (.pure (.pickF _ _ _ rfl rfl rfl)) (Ch.s (.d (.bool false)) pm (Ch.skip rfl rfl (Ch.skip rfl rfl ?_)))))))
      refine Ch.skip rfl rfl (Ch.skip rfl rfl (Ch.skip rfl rfl (Ch.skip rfl rfl (Ch.s (.d (.bool false)) (.pure (.pickF _ _ _ rfl rfl rfl)) (Ch.s (.d (.bool false)) pm (Ch.skip rfl rfl (Ch.skip rfl rfl ?_)))))))
      refine Ch.skip rfl rfl (Ch.skip rfl rfl (Ch.skip rfl rfl (Ch.skip rfl rfl (Ch.skip rfl rfl (Ch.skip rfl rfl (Ch.skip rfl rfl (Ch.s (.d (.bool false)) (.pure (.pickF _ _ _ rfl rfl rfl)) ?_)))))))
      refine Ch.nil ?_
      refine T_cond (b := false) rfl (fun h => nomatch h) (fun _ => ?_)
      refine T_skip (T_region hc (Ch.s (.d (.int .i64 (((m : Nat) : Int) + 1))) (.pure (.int _ _ _ _ _ rfl rfl rfl intV_addA)) (Ch.s (.d (.int .i64 (((m : Nat) : Int) + 1))) pm (Ch.nil ?_))))
      exact nx (m + 1) (by omega) (Wk.of rfl rfl (ai rfl (ai rfl (ai rfl (ai rfl (ai rfl (ai rfl (ai rfl (ai rfl (ai rfl (ai rfl (ai (vI (by first | rfl | omega | (simp; done) | (simp; omega))) trivial))))))))))) (ai (oR (by first | (exact congrArg (List.map _) (pvC_zero x k s)) | (exact push rfl (pvC_yes (pvP_of (by assumption) (pvQ_yes (by assumption) (by first | assumption | exact two_i0 hx (by omega) (by assumption)) (by first | exact .inl (by assumption) | exact .inr (by assumption)))))) | (exact congrArg (List.map _) (pvC_no (pvP_no (by assumption)))) | (exact congrArg (List.map _) (pvC_no (pvP_of (by assumption) (pvQ_no1 (by assumption))))) | (exact congrArg (List.map _) (pvC_no (pvP_of (by assumption) (pvQ_no2 (by first | assumption | exact two_i1 hx (by omega) (by assumption)))))) | (exact congrArg (List.map _) (pvC_no (pvP_of (by assumption) (pvQ_no3 (by assumption) (by assumption))))))) (ai rfl trivial)))
    ·
     replace h4 := of_decide_eq_false h4
     try have hek := hen _ (getD_mem (l := x.arcs) (j := m) (d := default) (by omega))
     try have hsk := (hx.sig _ (getD_mem (l := x.arcs) (j := m) (d := default) (by omega))).1
     refine T_exit (T_region hc (Ch.s (.d (.int .i64 (((s : Nat) : Int) + 1))) (.pure (.int _ _ _ _ _ rfl rfl rfl intV_addA)) (Ch.s (.d (.int .i64 (((s : Nat) : Int) + 1))) pm (Ch.nil ?_))))
     exact nx (s + 1) (by omega) (Wk.of rfl rfl (ai rfl (ai rfl (ai rfl (ai rfl (ai rfl (ai rfl (ai (vI (by first | rfl | omega | (simp; done) | (simp; omega))) trivial))))))) (ai (oR (by first | (exact congrArg (List.map _) (pvA_zero x k)) | (exact congrArg (List.map _) (pvA_no (by first | assumption | exact two_n0 hx (by omega) (by assumption)))) | (exact congrArg (List.map _) (pvB_end hx (by omega) (two_n1 hx (by omega) (by assumption)) (by omega))) | (exact congrArg (List.map _) (pvC_end (by assumption) (by omega))))) (ai rfl trivial)))
  ·
   replace h2 := of_decide_eq_false h2
   refine T_exit (T_region hc (Ch.s (.d (.int .i64 (((k : Nat) : Int) + 1))) (.pure (.int _ _ _ _ _ rfl rfl rfl intV_addA)) (Ch.s (.d (.int .i64 (((k : Nat) : Int) + 1))) pm (Ch.nil ?_))))
   exact nx (k + 1) (by omega) (Wk.of rfl rfl (ai rfl (ai rfl (ai rfl (ai (vI (by first | rfl | omega | (simp; done) | (simp; omega))) trivial)))) (ai (oR (by first | rfl | (exact congrArg (List.map _) (pvA_end (by omega))))) (ai rfl trivial)))
 ·
  replace h1 := of_decide_eq_false h1
  refine T_exit (T_seq (T_region hc (Ch.s (.row 3) pm (Ch.s (.row 3) pa (Ch.nil (T_ret ?_))))))
  exact endR [(.row 3)] [] [3] (.cons (.tmp 2 rfl) .nil) (.cons (.any _) .nil) (Exp.of (congrArg (D.slice true 3) (by rw [pvL, show x.codes.length = k by omega])) (.row rfl)) rfl rfl

theorem sp_prA (x : Sgr) (hb : x.bulk ≤ 1048576) (hx : SgOk x) : Sp Tryz.prog 221 [(.agg [(.slice false 2 (x.sigs.map Sgn.d)), (.slice false 1 (x.codes.map D.str)), (.slice false 4 (x.arcs.map Arc.d))])] [.any] (.slice true 1 ((prA x).map intsU)) := sp_spec_l6Pairs x hb hx

set_option maxHeartbeats 2000000 in
theorem sp_spec_l6Conflicts (x : Sgr) (hb : x.bulk ≤ 1048576) (hx : SgOk x) : Sp Tryz.prog 169 [(.agg [(.slice false 2 (x.sigs.map Sgn.d)), (.slice false 1 (x.codes.map D.str)), (.slice false 4 (x.arcs.map Arc.d))])] [.any] (.slice true 1 ((cfL x).map intsU)) := by
 refine Sp_intro (lend := true) Tryz.func169 rfl rfl rfl (fun _ => rfl) (fun c hc hX => ?_)
 obtain ⟨hp0, hp1, hp2⟩ := Sgr.parts hb
 have hn0 := bulkF_len hp0
 have hn1 := bulk_len hp1
 have hx1 := bulk_mem hp1
 have hn2 := bulkF_len hp2; have hx8 := hx.eight; have hxl := hx.len; have hxf := hx.few; have hen := hx.ends; have hpl : (prA x).length ≤ 90000 := Nat.le_trans (prTo_le (eqP x) (n := x.codes.length) (by omega) x.codes.length) (by omega); have hol := outs_len x.sigs
 refine T_seq (T_region hc (Ch.s (.ptr 1000 0) (.box 1000 _ _ rfl (.aggD _)) (Ch.s (.c (.slice none 0 0)) pa (Ch.nil (T_seq (T_region hc (Ch.s (.c (.slice none 0 0)) pa ?_)))))))
 refine Ch.nil (T_seq (T_seq (T_region hc (Ch.s (.agg [(.d (.slice false 2 (x.sigs.map Sgn.d))), (.d (.slice false 1 (x.codes.map D.str))), (.d (.slice false 4 (x.arcs.map Arc.d)))]) (.pure (.loadPtrA _ _ rfl ag35 sz35 rfl rfl (Nat.le_of_ble_eq_true rfl) rfl)) ?_))))
 refine Ch.step (v := (.row 10000)) rfl (.call 10000 221 _ _ _ en221 rfl (.inl rfl) (.cons (.lend (.agg (.cons (.d _) (.cons (.d _) (.cons (.d _) .nil))) rfl)) .nil) rfl (sol (solid_row intsU_sol _) rfl) (sp_prA x (by first | assumption | omega | (rw [List.length_take]; omega) | (have := bulkF_mem hb _ (getD_mem (d := default) (by omega)); assumption) | (unfold bulkS at *; omega) | (simp_all; done)) (by assumption)) (.skip _ _ .nil) rfl) rfl rfl ?_
 refine Ch.s (.d (.int .i64 (((prA x).length : Nat) : Int))) (.pure (.len _ _ 55 rfl Tryz.underlying49 (.row rfl) (by simp))) (Ch.s (.d (.int .i64 0)) pm (Ch.nil (T_block ?_)))
 refine T_loop (ι := Nat × List D) (fun q => { n := 47, sl := [(1, (.ptr 1000 0)), (3, (.row 3)), (10, (.row 10000)), (11, (.d (.int .i64 (((prA x).length : Nat) : Int)))), (12, (.d (.int .i64 ((q.1 : Nat) : Int))))], hp := [(3, (some (.row 1 ((unK x q.1).map intsU)))), (1000, (some (.box [(.d (.slice false 2 (x.sigs.map Sgn.d))), (.d (.slice false 1 (x.codes.map D.str))), (.d (.slice false 4 (x.arcs.map Arc.d)))]))), (10000, (some (.row 1 ((q.2 ++ ((prA x).drop q.1).map intsU)))))], pin := [] }) (fun q => q.1 ≤ (prA x).length ∧ q.2.length = q.1) (fun q => (prA x).length - q.1) ⟨(0, []), ⟨by dsimp only; omega, rfl⟩, (Wk.trans (Wk.nilrow 3 900003 1 rfl rfl rfl) (Wk.ren [(3, 900003)] rfl rfl rfl rfl (ai rfl (ai rfl (ai rfl (ai rfl (ai (vI (by first | rfl | omega | (simp; done) | (simp; omega))) trivial))))) (ai (oR (by first | rfl | (exact push rfl (unK_yes (by omega) (by rw [← unM_all (m := m) (by omega)]; assumption))) | (exact congrArg (List.map _) (unK_no (by omega) (by rw [← unM_all (m := m) (by omega)]; assumption))) | (exact mg_set (f := intsU) (xs := prA x) hp0.2 (by omega)))) (ai rfl (ai (oR (by first | rfl | (exact push rfl (unK_yes (by omega) (by rw [← unM_all (m := m) (by omega)]; assumption))) | (exact congrArg (List.map _) (unK_no (by omega) (by rw [← unM_all (m := m) (by omega)]; assumption))) | (exact mg_set (f := intsU) (xs := prA x) hp0.2 (by omega)))) trivial)))))⟩ (fun q hp0 => ?_)
 have hq := unK_le x q.1; have hgl := mg_len (f := intsU) hp0.2 hp0.1
 refine T_seq (T_region hc (Ch.s (.d (.bool (decide (((q.1 : Nat) : Int) < (((prA x).length : Nat) : Int))))) (.pure (.int _ _ _ _ _ rfl rfl rfl rfl)) (Ch.nil (T_seq ?_))))
 refine T_cond (b := (decide (((q.1 : Nat) : Int) < (((prA x).length : Nat) : Int)))) rfl (fun h1 => ?_) (fun h1 => ?_)
 ·
  replace h1 := of_decide_eq_true h1
  try have hpr := prTo_in (Nat.le_refl _) _ (getD_mem (l := prA x) (j := q.1) (d := default) (by omega))
  try have hp2 := hpr.1
  refine T_skip (T_seq (T_block (T_seq ?_)))
  refine T_take 10000 q.1 7000002 7000003 rfl (mg_at hp0.2 (by omega)) rfl rfl (fun u1 => ?_)
  refine T_region hc (Ch.s (.el 10000 1 q.1 0) (.pure (.idxRow _ _ _ 55 (q.1) rfl Tryz.underlying49 sz55 rfl rfl rfl rfl (by first | omega | (simp only [List.length_map, List.length_set]; omega) | (simp; omega)))) (Ch.s (.row 7000002) (.pure (.loadHole (n := 7000002) (m := 7000003) (u := u1) _ _ rfl ag55 rfl rfl (get_set (by first | omega | (simp only [List.length_map, List.length_set]; omega) | (simp; omega))) rfl rfl)) (Ch.s (.row 7000002) pa (Ch.nil (T_seq (T_region hc (Ch.s (.d (.bool false)) pa ?_)))))))
  refine Ch.nil (T_seq (T_seq (T_region hc (Ch.s (.agg [(.d (.slice false 2 (x.sigs.map Sgn.d))), (.d (.slice false 1 (x.codes.map D.str))), (.d (.slice false 4 (x.arcs.map Arc.d)))]) (.pure (.loadPtrA _ _ rfl ag35 sz35 rfl rfl (Nat.le_of_ble_eq_true rfl) rfl)) ?_))))
  refine Ch.step (v := (.row 17000)) rfl (.call 17000 131 _ _ _ en131 rfl (.inl rfl) (.cons (.lend (.agg (.cons (.d _) (.cons (.d _) (.cons (.d _) .nil))) rfl)) .nil) rfl (sol (solid_row (fun _ => rfl) _) rfl) (sp_spec_l6Owned x (by first | assumption | omega | (rw [List.length_take]; omega) | (have := bulkF_mem hb _ (getD_mem (d := default) (by omega)); assumption) | (unfold bulkS at *; omega) | (simp_all; done))) (.skip _ _ .nil) rfl) rfl rfl ?_
  refine Ch.s (.d (.int .i64 (((outsL x.sigs).length : Nat) : Int))) (.pure (.len _ _ 3 rfl Tryz.underlying55 (.row rfl) (by simp))) (Ch.s (.d (.int .i64 0)) pm (Ch.nil (T_block ?_)))
  refine T_loop (ι := Nat) (fun m => { n := 47, sl := [(1, (.ptr 1000 0)), (3, (.row 3)), (5, (.row 7000002)), (6, (.d (.bool (unM x ((prA x).getD q.1 default) m)))), (10, (.row 10000)), (11, (.d (.int .i64 (((prA x).length : Nat) : Int)))), (12, (.d (.int .i64 ((q.1 : Nat) : Int)))), (17, (.row 17000)), (18, (.d (.int .i64 (((outsL x.sigs).length : Nat) : Int)))), (19, (.d (.int .i64 ((m : Nat) : Int))))], hp := [(3, (some (.row 1 ((unK x q.1).map intsU)))), (1000, (some (.box [(.d (.slice false 2 (x.sigs.map Sgn.d))), (.d (.slice false 1 (x.codes.map D.str))), (.d (.slice false 4 (x.arcs.map Arc.d)))]))), (10000, (some (.row 1 ((((q.2 ++ ((prA x).drop q.1).map intsU))).set q.1 (.hole u1))))), (17000, (some (.row 1 ((outsL x.sigs).map (fun n : Int => D.int .i64 n))))), (7000002, (some (.row 1 (((prA x).getD q.1 default).map (fun n : Int => D.int .i64 n))))), (7000003, (some (.head 7000002 u1)))], pin := [] }) (fun m => m ≤ (outsL x.sigs).length) (fun m => (outsL x.sigs).length - m) ⟨0, (by omega), (Wk.of rfl rfl (ai rfl (ai rfl (ai rfl (ai (vB (by first | rfl | (rw [unM_succ (by omega), (by assumption : unM x ((prA x).getD q.1 default) m = true)]; rfl) | (rw [unM_succ (by omega), (by assumption : unM x ((prA x).getD q.1 default) m = false), Bool.false_or]; done))) (ai rfl (ai rfl (ai rfl (ai rfl (ai rfl (ai (vI (by first | rfl | omega | (simp; done) | (simp; omega))) trivial)))))))))) (ai rfl (ai rfl (ai rfl (ai rfl (ai rfl (ai rfl trivial)))))))⟩ (fun m hp1 => ?_)
  refine T_seq (T_region hc (Ch.s (.d (.bool (decide (((m : Nat) : Int) < (((outsL x.sigs).length : Nat) : Int))))) (.pure (.int _ _ _ _ _ rfl rfl rfl rfl)) (Ch.nil (T_seq ?_))))
  refine T_cond (b := (decide (((m : Nat) : Int) < (((outsL x.sigs).length : Nat) : Int)))) rfl (fun h2 => ?_) (fun h2 => ?_)
  ·
   replace h2 := of_decide_eq_true h2
   refine T_skip (T_seq (T_block (T_seq (T_region hc (Ch.s (.el 17000 1 m 0) (.pure (.idxRow _ _ _ 3 (m) rfl Tryz.underlying55 sz3 rfl rfl rfl rfl (by first | omega | (simp only [List.length_map, List.length_set]; omega) | (simp; omega)))) (Ch.s (.d (.int .i64 ((outsL x.sigs).getD m default))) (.pure (.loadEl1 _ _ rfl ag3 rfl rfl get_mapA rfl rfl rfl)) (Ch.s (.d (.int .i64 ((outsL x.sigs).getD m default))) pa ?_)))))))
   refine Ch.nil ?_
   refine T_regionD hc (by kernel_rfl) ?_
   refine ChD.s (.d (.bool (unM x ((prA x).getD q.1 default) m))) [] pm (ChD.s (.d (.bool (unM x ((prA x).getD q.1 default) m))) [] pm ?_)
   cases h3 : (unM x ((prA x).getD q.1 default) m) with
   | true =>
    refine ChD.skip rfl rfl (ChD.skip rfl rfl (ChD.skip rfl rfl (ChD.skip rfl rfl (ChD.skip rfl rfl (ChD.skip rfl rfl (ChD.skip rfl rfl (ChD.skip rfl rfl ?_)))))))
    refine ChD.skip rfl rfl (ChD.skip rfl rfl (ChD.skip rfl rfl (ChD.skip rfl rfl (ChD.skip rfl rfl (ChD.s (.d (.bool true)) [] (.pure (.pickT _ _ _ rfl rfl rfl)) (ChD.s (.d (.bool true)) [] pa ?_))))))
    refine ChD.nil (And.intro ?_ (by kernel_rfl))
    refine T_region hc (Ch.s (.d (.int .i64 (((m : Nat) : Int) + 1))) (.pure (.int _ _ _ _ _ rfl rfl rfl intV_addA)) (Ch.s (.d (.int .i64 (((m : Nat) : Int) + 1))) pm (Ch.nil ?_)))
    exact nx (m + 1) (by omega) (Wk.of rfl rfl (ai rfl (ai rfl (ai rfl (ai (vB (by first | rfl | (rw [unM_succ (by omega), (by assumption : unM x ((prA x).getD q.1 default) m = true)]; rfl) | (rw [unM_succ (by omega), (by assumption : unM x ((prA x).getD q.1 default) m = false), Bool.false_or]; done))) (ai rfl (ai rfl (ai rfl (ai rfl (ai rfl (ai (vI (by first | rfl | omega | (simp; done) | (simp; omega))) trivial)))))))))) (ai rfl (ai rfl (ai rfl (ai rfl (ai rfl (ai rfl trivial)))))))
   | false =>
    refine ChD.s (.agg [(.d (.slice false 2 (x.sigs.map Sgn.d))), (.d (.slice false 1 (x.codes.map D.str))), (.d (.slice false 4 (x.arcs.map Arc.d)))]) [1000] (.pure (.loadPtrA _ _ rfl ag35 sz35 rfl rfl (Nat.le_of_ble_eq_true rfl) rfl)) (ChD.s (.row 7000002) [] pm (ChD.s (.el 7000002 1 0 0) [7000002] (.pure (.idxRow _ _ _ 3 (0) rfl Tryz.underlying55 sz3 rfl rfl rfl rfl (by first | omega | (simp only [List.length_map, List.length_set]; omega) | (simp; omega)))) (ChD.s (.d (.int .i64 (((prA x).getD q.1 default).getD 0 default))) [7000002] (.pure (.loadEl1 _ _ rfl ag3 rfl rfl get_mapA rfl rfl rfl)) (ChD.s (.d (.int .i64 ((outsL x.sigs).getD m default))) [] pm (ChD.s (.d (.bool (excB x (((prA x).getD q.1 default).getD 0 default) ((outsL x.sigs).getD m default)))) [] (.call 30000 158 _ _ _ en158 rfl (.inl rfl) (.cons (.lend (.agg (.cons (.d _) (.cons (.d _) (.cons (.d _) .nil))) rfl)) (.cons (.d _) (.cons (.d _) .nil))) rfl rfl (sp_spec_l5Excited x (((prA x).getD q.1 default).getD 0 default) ((outsL x.sigs).getD m default) (by first | assumption | omega | (rw [List.length_take]; omega) | (have := bulkF_mem hb _ (getD_mem (d := default) (by omega)); assumption) | (unfold bulkS at *; omega) | (simp_all; done))) (.skip _ _ (.skip _ _ (.skip _ _ .nil))) rfl) (ChD.s (.agg [(.d (.slice false 2 (x.sigs.map Sgn.d))), (.d (.slice false 1 (x.codes.map D.str))), (.d (.slice false 4 (x.arcs.map Arc.d)))]) [1000] (.pure (.loadPtrA _ _ rfl ag35 sz35 rfl rfl (Nat.le_of_ble_eq_true rfl) rfl)) (ChD.s (.row 7000002) [] pm ?_)))))))
    refine ChD.s (.el 7000002 1 1 0) [7000002] (.pure (.idxRow _ _ _ 3 (1) rfl Tryz.underlying55 sz3 rfl rfl rfl rfl (by first | omega | (simp only [List.length_map, List.length_set]; omega) | (simp; omega)))) (ChD.s (.d (.int .i64 (((prA x).getD q.1 default).getD 1 default))) [7000002] (.pure (.loadEl1 _ _ rfl ag3 rfl rfl get_mapA rfl rfl rfl)) (ChD.s (.d (.int .i64 ((outsL x.sigs).getD m default))) [] pm (ChD.s (.d (.bool (excB x (((prA x).getD q.1 default).getD 1 default) ((outsL x.sigs).getD m default)))) [] (.call 36000 158 _ _ _ en158 rfl (.inl rfl) (.cons (.lend (.agg (.cons (.d _) (.cons (.d _) (.cons (.d _) .nil))) rfl)) (.cons (.d _) (.cons (.d _) .nil))) rfl rfl (sp_spec_l5Excited x (((prA x).getD q.1 default).getD 1 default) ((outsL x.sigs).getD m default) (by first | assumption | omega | (rw [List.length_take]; omega) | (have := bulkF_mem hb _ (getD_mem (d := default) (by omega)); assumption) | (unfold bulkS at *; omega) | (simp_all; done))) (.skip _ _ (.skip _ _ (.skip _ _ .nil))) rfl) (ChD.s (.d (.bool (!(decide ((excB x (((prA x).getD q.1 default).getD 0 default) ((outsL x.sigs).getD m default)) = (excB x (((prA x).getD q.1 default).getD 1 default) ((outsL x.sigs).getD m default))))))) [] (.pure (.neB _ _ _ _ rfl Tryz.underlying4 rfl rfl)) (ChD.s (.d (.bool (!(decide ((excB x (((prA x).getD q.1 default).getD 0 default) ((outsL x.sigs).getD m default)) = (excB x (((prA x).getD q.1 default).getD 1 default) ((outsL x.sigs).getD m default))))))) [] (.pure (.pickF _ _ _ rfl rfl rfl)) (ChD.s (.d (.bool (!(decide ((excB x (((prA x).getD q.1 default).getD 0 default) ((outsL x.sigs).getD m default)) = (excB x (((prA x).getD q.1 default).getD 1 default) ((outsL x.sigs).getD m default))))))) [] pa ?_))))))
    refine ChD.nil (And.intro ?_ (by kernel_rfl))
    refine T_region hc (Ch.s (.d (.int .i64 (((m : Nat) : Int) + 1))) (.pure (.int _ _ _ _ _ rfl rfl rfl intV_addA)) (Ch.s (.d (.int .i64 (((m : Nat) : Int) + 1))) pm (Ch.nil ?_)))
    exact nx (m + 1) (by omega) (Wk.of rfl rfl (ai rfl (ai rfl (ai rfl (ai (vB (by first | rfl | (rw [unM_succ (by omega), (by assumption : unM x ((prA x).getD q.1 default) m = true)]; rfl) | (rw [unM_succ (by omega), (by assumption : unM x ((prA x).getD q.1 default) m = false), Bool.false_or]; done))) (ai rfl (ai rfl (ai rfl (ai rfl (ai rfl (ai (vI (by first | rfl | omega | (simp; done) | (simp; omega))) trivial)))))))))) (ai rfl (ai rfl (ai rfl (ai rfl (ai rfl (ai rfl trivial)))))))
  ·
   replace h2 := of_decide_eq_false h2
   refine T_exit (T_seq (T_region hc (Ch.s (.d (.bool (unM x ((prA x).getD q.1 default) m))) pm (Ch.nil ?_))))
   refine T_cond (b := (unM x ((prA x).getD q.1 default) m)) rfl (fun h4 => ?_) (fun h4 => ?_)
   ·
    refine T_region hc (Ch.s (.row 3) pm (Ch.s (.row 7000002) pm (Ch.s (.row 43000) (.slice 43000 _ 55 _ rfl sty49 (xs := [.tmp 42]) rfl rfl (.cons (.row rfl) .nil) rfl rfl (by decide)) ?_)))
    refine Ch.step (v := (.row 44000)) rfl (.append 44000 _ _ _ 55 rfl sty49 (by decide) (.rowK rfl) (.inr ⟨_, rfl, rfl⟩) (.rowK rfl) rfl (by first | omega | (simp only [List.length_append, List.length_map, List.length_cons, List.length_nil]; omega) | (simp; omega) | (simp; done))) rfl rfl ?_
    refine Ch.s (.row 44000) pa (Ch.nil (T_region hc (Ch.s (.d (.int .i64 (((q.1 : Nat) : Int) + 1))) (.pure (.int _ _ _ _ _ rfl rfl rfl intV_addA)) (Ch.s (.d (.int .i64 (((q.1 : Nat) : Int) + 1))) pm (Ch.nil ?_)))))
    exact nx (q.1 + 1, q.2 ++ [.hole u1]) ⟨by dsimp only; omega, by dsimp only; rw [List.length_append, hp0.2]; rfl⟩ (Wk.ren [(3, 44000)] rfl rfl rfl rfl (ai rfl (ai rfl (ai rfl (ai rfl (ai (vI (by first | rfl | omega | (simp; done) | (simp; omega))) trivial))))) (ai (oR (by first | rfl | (exact push rfl (unK_yes (by omega) (by rw [← unM_all (m := m) (by omega)]; assumption))) | (exact congrArg (List.map _) (unK_no (by omega) (by rw [← unM_all (m := m) (by omega)]; assumption))) | (exact mg_set (f := intsU) (xs := prA x) hp0.2 (by omega)))) (ai rfl (ai (oR (by first | rfl | (exact push rfl (unK_yes (by omega) (by rw [← unM_all (m := m) (by omega)]; assumption))) | (exact congrArg (List.map _) (unK_no (by omega) (by rw [← unM_all (m := m) (by omega)]; assumption))) | (exact mg_set (f := intsU) (xs := prA x) hp0.2 (by omega)))) trivial))))
   ·
    refine T_skip (T_region hc (Ch.s (.d (.int .i64 (((q.1 : Nat) : Int) + 1))) (.pure (.int _ _ _ _ _ rfl rfl rfl intV_addA)) (Ch.s (.d (.int .i64 (((q.1 : Nat) : Int) + 1))) pm (Ch.nil ?_))))
    exact nx (q.1 + 1, q.2 ++ [.hole u1]) ⟨by dsimp only; omega, by dsimp only; rw [List.length_append, hp0.2]; rfl⟩ (Wk.of rfl rfl (ai rfl (ai rfl (ai rfl (ai rfl (ai (vI (by first | rfl | omega | (simp; done) | (simp; omega))) trivial))))) (ai (oR (by first | rfl | (exact push rfl (unK_yes (by omega) (by rw [← unM_all (m := m) (by omega)]; assumption))) | (exact congrArg (List.map _) (unK_no (by omega) (by rw [← unM_all (m := m) (by omega)]; assumption))) | (exact mg_set (f := intsU) (xs := prA x) hp0.2 (by omega)))) (ai rfl (ai (oR (by first | rfl | (exact push rfl (unK_yes (by omega) (by rw [← unM_all (m := m) (by omega)]; assumption))) | (exact congrArg (List.map _) (unK_no (by omega) (by rw [← unM_all (m := m) (by omega)]; assumption))) | (exact mg_set (f := intsU) (xs := prA x) hp0.2 (by omega)))) trivial))))
 ·
  replace h1 := of_decide_eq_false h1
  try have hpr := prTo_in (Nat.le_refl _) _ (getD_mem (l := prA x) (j := q.1) (d := default) (by omega))
  try have hp2 := hpr.1
  refine T_exit (T_seq (T_region hc (Ch.s (.row 3) pm (Ch.s (.row 3) pa (Ch.nil (T_ret ?_))))))
  exact endR [(.row 3)] [] [3] (.cons (.tmp 2 rfl) .nil) (.cons (.any _) .nil) (Exp.of (congrArg (D.slice true 1) (by rw [← unK_all (k := q.1) (by omega)])) (.row rfl)) rfl rfl

theorem sp_impl_diagnosis_1 (a : Arc) : Sp Tryz.prog 281 [(.agg [(.int .i64 a.src), (.int .i64 a.sig), (.bool (a.up)), (.int .i64 a.dst)])] [.any] (.bool (decide (a.sig = -1))) := by
 refine Sp_intro (lend := true) Tryz.func281 rfl rfl rfl (fun _ => rfl) (fun c hc hX => ?_)
 refine T_seq (T_region hc (Ch.s (.ptr 1000 0) (.box 1000 _ _ rfl (.aggD _)) (Ch.s (.d (.bool false)) pa (Ch.nil (T_seq (T_region hc (Ch.s (.ptr 1000 1) (.pure (.fldPtr _ _ _ rfl fld125_1 rfl)) ?_)))))))
 refine Ch.s (.d (.int .i64 a.sig)) (.pure (.loadPtr1 _ _ rfl ag3 rfl rfl rfl)) (Ch.s (.d (.bool (decide (a.sig = (-1))))) (.pure (.int _ _ _ _ _ rfl rfl rfl rfl)) (Ch.s (.d (.bool (decide (a.sig = (-1))))) pa (Ch.nil (T_ret ?_))))
 exact endR [(.d (.bool (decide (a.sig = (-1)))))] [] [] (.cons (.tmp 2 rfl) .nil) (.cons (.any _) .nil) (Exp.of (congrArg D.bool (by rfl)) (.d _)) rfl rfl

theorem sp_spec_l6Hidden (x : Sgr) (hb : x.bulk ≤ 1048576) (hx : SgOk x) : Sp Tryz.prog 166 [(.agg [(.slice false 2 (x.sigs.map Sgn.d)), (.slice false 1 (x.codes.map D.str)), (.slice false 4 (x.arcs.map Arc.d))])] [.any] (.bool (hidB x)) := by
 refine Sp_intro (lend := true) Tryz.func166 rfl rfl rfl (fun _ => rfl) (fun c hc hX => ?_)
 obtain ⟨hp0, hp1, hp2⟩ := Sgr.parts hb
 have hn0 := bulkF_len hp0
 have hn1 := bulk_len hp1
 have hx1 := bulk_mem hp1
 have hn2 := bulkF_len hp2; have hx8 := hx.eight; have hxl := hx.len; have hxf := hx.few; have hen := hx.ends
 refine T_seq (T_region hc (Ch.s (.ptr 1000 0) (.box 1000 _ _ rfl (.aggD _)) (Ch.s (.d (.bool false)) pa (Ch.nil (T_seq (T_seq (T_region hc ?_)))))))
 refine Ch.s (.ptr 1000 2) (.pure (.fldPtr _ _ _ rfl fld35_2 rfl)) (Ch.s (.d (.slice false 4 (x.arcs.map Arc.d))) (.pure (.loadPtr1 _ _ rfl ag33 rfl rfl rfl)) (Ch.s (.d (.int .i64 ((x.arcs.length : Nat) : Int))) (.pure (.len _ _ 125 rfl Tryz.underlying33 (.sh _ _) (by simp))) (Ch.s (.d (.int .i64 0)) pm (Ch.nil (T_block ?_)))))
 refine T_loop (ι := Nat) (fun k => { n := 16, sl := [(6, (.d (.slice false 4 (x.arcs.map Arc.d)))), (7, (.d (.int .i64 ((x.arcs.length : Nat) : Int)))), (8, (.d (.int .i64 ((k : Nat) : Int))))], hp := [], pin := [] }) (fun k => k ≤ x.arcs.length ∧ ∀ j, j < k → decide ((x.arcs.getD j default).sig = -1) = false) (fun k => x.arcs.length - k) ⟨0, ⟨by omega, fun j hj => by omega⟩, (Wk.of rfl rfl (ai rfl (ai rfl (ai (vI (by first | rfl | omega | (simp; done) | (simp; omega))) trivial))) trivial)⟩ (fun k hp0 => ?_)
 refine T_seq (T_region hc (Ch.s (.d (.bool (decide (((k : Nat) : Int) < ((x.arcs.length : Nat) : Int))))) (.pure (.int _ _ _ _ _ rfl rfl rfl rfl)) (Ch.nil (T_seq ?_))))
 refine T_cond (b := (decide (((k : Nat) : Int) < ((x.arcs.length : Nat) : Int)))) rfl (fun h1 => ?_) (fun h1 => ?_)
 ·
  replace h1 := of_decide_eq_true h1
  try have hsk := (hx.sig _ (getD_mem (l := x.arcs) (j := k) (d := default) (by omega))).2
  refine T_skip (T_seq (T_block (T_seq (T_region hc (Ch.s (.d (.ref (.agg [(.int .i64 ((x.arcs.getD k default).src)), (.int .i64 ((x.arcs.getD k default).sig)), (.bool ((x.arcs.getD k default).up)), (.int .i64 ((x.arcs.getD k default).dst))]))) (.pure (.idx _ _ _ 125 (k) rfl Tryz.underlying33 sz125 rfl rfl rfl get_mapA)) (Ch.s (.d (.agg [(.int .i64 ((x.arcs.getD k default).src)), (.int .i64 ((x.arcs.getD k default).sig)), (.bool ((x.arcs.getD k default).up)), (.int .i64 ((x.arcs.getD k default).dst))])) (.pure (.loadRefA _ _ rfl ag125 sz125 rfl)) (Ch.s (.ptr 4000 0) (.alloc 4000 _ rfl zer125) ?_)))))))
  refine Ch.s .junk (.storePtr _ _ _ rfl rfl rfl (.aggD _) sz125 (Nat.le_of_ble_eq_true rfl)) (Ch.nil (T_seq (T_region hc (Ch.s (.ptr 4000 1) (.pure (.fldPtr _ _ _ rfl fld125_1 rfl)) (Ch.s (.d (.int .i64 ((x.arcs.getD k default).sig))) (.pure (.loadPtr1 _ _ rfl ag3 rfl rfl rfl)) (Ch.s (.d (.bool (decide (((x.arcs.getD k default).sig) < 0)))) (.pure (.int _ _ _ _ _ rfl rfl rfl rfl)) (Ch.nil ?_)))))))
  refine T_cond (b := (decide (((x.arcs.getD k default).sig) < 0))) rfl (fun h2 => ?_) (fun h2 => ?_)
  ·
   replace h2 := of_decide_eq_true h2
   refine T_seq (T_region hc (Ch.s (.d (.bool true)) pa (Ch.nil (T_ret ?_))))
   exact endR [(.d (.bool true))] [] [] (.cons (.tmp 2 rfl) .nil) (.cons (.any _) .nil) (Exp.of (congrArg D.bool (by exact any_yes default k (by omega) (decide_eq_true (by omega)))) (.d _)) rfl rfl
  ·
   replace h2 := of_decide_eq_false h2
   refine T_skip (T_region hc (Ch.s (.d (.int .i64 (((k : Nat) : Int) + 1))) (.pure (.int _ _ _ _ _ rfl rfl rfl intV_addA)) (Ch.s (.d (.int .i64 (((k : Nat) : Int) + 1))) pm (Ch.nil ?_))))
   exact nx (k + 1) ⟨by omega, upto_succ hp0.2 (decide_eq_false (by omega))⟩ (Wk.of rfl rfl (ai rfl (ai rfl (ai (vI (by first | rfl | omega | (simp; done) | (simp; omega))) trivial))) trivial)
 ·
  replace h1 := of_decide_eq_false h1
  try have hsk := (hx.sig _ (getD_mem (l := x.arcs) (j := k) (d := default) (by omega))).2
  refine T_exit (T_seq (T_region hc (Ch.s (.d (.bool false)) pa (Ch.nil (T_ret ?_)))))
  exact endR [(.d (.bool false))] [] [] (.cons (.tmp 2 rfl) .nil) (.cons (.any _) .nil) (Exp.of (congrArg D.bool (by exact any_no default (fun j hj => hp0.2 j (by omega)))) (.d _)) rfl rfl

theorem sp_impl_diagnosis (x : Sgr) (hb : x.bulk ≤ 1048576) (hx : SgOk x) : Sp Tryz.prog 258 [(.agg [(.slice false 2 (x.sigs.map Sgn.d)), (.slice false 1 (x.codes.map D.str)), (.slice false 4 (x.arcs.map Arc.d))])] [.any] (.str (whyW x)) := by
 refine Sp_intro (lend := true) Tryz.func258 rfl rfl rfl (fun _ => rfl) (fun c hc hX => ?_)
 obtain ⟨hp0, hp1, hp2⟩ := Sgr.parts hb
 have hn0 := bulkF_len hp0
 have hn1 := bulk_len hp1
 have hx1 := bulk_mem hp1
 have hn2 := bulkF_len hp2; have hx8 := hx.eight; have hxl := hx.len; have hxf := hx.few; have hen := hx.ends
 refine T_seq (T_region hc (Ch.s (.ptr 1000 0) (.box 1000 _ _ rfl (.aggD _)) (Ch.s (.d (.str [])) pa (Ch.nil (T_seq (T_block (T_seq ?_)))))))
 refine T_region hc (Ch.s (.ptr 1000 2) (.pure (.fldPtr _ _ _ rfl fld35_2 rfl)) (Ch.s (.d (.slice false 4 (x.arcs.map Arc.d))) (.pure (.loadPtr1 _ _ rfl ag33 rfl rfl rfl)) (Ch.s (.d (.bool (x.arcs.any (fun a => decide (a.sig = -1))))) (.call 6000 207 _ _ _ en207 rfl (.inl rfl) (.cons (.d _) (.cons (.lend (.fn .nil)) .nil)) rfl rfl (sp_ContainsFunc_arc x.arcs 281 [] (fun a => decide (a.sig = -1)) en281 (fun a ha => sp_impl_diagnosis_1 a) (by first | omega | assumption | (exact hx _ (getD_mem (by omega))) | (exact hx _ (by assumption)) | (exact Nat.le_trans (hx _ (by assumption)) (by omega)) | (simp only [List.length_append, List.length_take, List.length_drop, List.length_cons, List.length_nil]; omega) | (simp_all; done))) (.skip _ _ (.skip _ _ .nil)) rfl) (Ch.s (.d (.bool (x.arcs.any (fun a => decide (a.sig = -1))))) pa (Ch.nil ?_)))))
 refine T_cond (b := (x.arcs.any (fun a => decide (a.sig = -1)))) rfl (fun h1 => ?_) (fun h1 => ?_)
 ·
  refine T_seq (T_region hc (Ch.s (.d (.str [104, 105, 100, 100, 101, 110])) pa (Ch.nil (T_ret ?_))))
  exact endR [(.d (.str [104, 105, 100, 100, 101, 110]))] [] [] (.cons (.tmp 2 rfl) .nil) (.cons (.any _) .nil) (Exp.of (congrArg D.str (by first | (rw [why_hid h1]; done) | (rw [why_two h1 h2]; done) | (rw [why_brk h1 h2 h3]; done) | (rw [why_cf h1 h2 h3 h4]; done) | (rw [why_made h1 h2 h3 h4]; done))) (.d _)) rfl rfl
 ·
  refine T_seq (T_region hc (Ch.s (.agg [(.d (.slice false 2 (x.sigs.map Sgn.d))), (.d (.slice false 1 (x.codes.map D.str))), (.d (.slice false 4 (x.arcs.map Arc.d)))]) (.pure (.loadPtrA _ _ rfl ag35 sz35 rfl rfl (Nat.le_of_ble_eq_true rfl) rfl)) ?_))
  refine Ch.step (v := (.row 9000)) rfl (.call 9000 282 _ _ _ en282 rfl (.inl rfl) (.cons (.lend (.agg (.cons (.d _) (.cons (.d _) (.cons (.d _) .nil))) rfl)) .nil) rfl (sol (solid_row intsU_sol _) rfl) (sp_impl_twoWays x (by first | assumption | omega | (rw [List.length_take]; omega) | (have := bulkF_mem hb _ (getD_mem (d := default) (by omega)); assumption) | (unfold bulkS at *; omega) | (simp_all; done)) (by assumption)) (.skip _ _ .nil) rfl) rfl rfl ?_
  refine Ch.s (.d (.int .i64 (((twL x).length : Nat) : Int))) (.pure (.len _ _ 55 rfl Tryz.underlying49 (.row rfl) (by simp))) (Ch.s (.d (.bool (decide (0 < (((twL x).length : Nat) : Int))))) (.pure (.int _ _ _ _ _ rfl rfl rfl rfl)) (Ch.s (.d (.bool (decide (0 < (((twL x).length : Nat) : Int))))) pa (Ch.nil ?_)))
  refine T_cond (b := (decide (0 < (((twL x).length : Nat) : Int)))) rfl (fun h2 => ?_) (fun h2 => ?_)
  ·
   replace h2 := of_decide_eq_true h2
   refine T_seq (T_region hc (Ch.s (.d (.str [116, 119, 111, 32, 119, 97, 121, 115])) pa (Ch.nil (T_ret ?_))))
   exact endR [(.d (.str [116, 119, 111, 32, 119, 97, 121, 115]))] [] [] (.cons (.tmp 2 rfl) .nil) (.cons (.any _) .nil) (Exp.of (congrArg D.str (by first | (rw [why_hid h1]; done) | (rw [why_two h1 h2]; done) | (rw [why_brk h1 h2 h3]; done) | (rw [why_cf h1 h2 h3 h4]; done) | (rw [why_made h1 h2 h3 h4]; done))) (.d _)) rfl rfl
  ·
   replace h2 := of_decide_eq_false h2
   refine T_seq (T_region hc (Ch.s (.agg [(.d (.slice false 2 (x.sigs.map Sgn.d))), (.d (.slice false 1 (x.codes.map D.str))), (.d (.slice false 4 (x.arcs.map Arc.d)))]) (.pure (.loadPtrA _ _ rfl ag35 sz35 rfl rfl (Nat.le_of_ble_eq_true rfl) rfl)) ?_))
   refine Ch.step (v := (.row 14000)) rfl (.call 14000 283 _ _ _ en283 rfl (.inl rfl) (.cons (.lend (.agg (.cons (.d _) (.cons (.d _) (.cons (.d _) .nil))) rfl)) .nil) rfl (sol (solid_row (fun _ => rfl) _) rfl) (sp_impl_violations x (by first | assumption | omega | (rw [List.length_take]; omega) | (have := bulkF_mem hb _ (getD_mem (d := default) (by omega)); assumption) | (unfold bulkS at *; omega) | (simp_all; done)) (by assumption)) (.skip _ _ .nil) rfl) rfl rfl ?_
   refine Ch.s (.d (.int .i64 (((pvL x).length : Nat) : Int))) (.pure (.len _ _ 216 rfl Tryz.underlying175 (.row rfl) (by simp))) (Ch.s (.d (.bool (decide (0 < (((pvL x).length : Nat) : Int))))) (.pure (.int _ _ _ _ _ rfl rfl rfl rfl)) (Ch.s (.d (.bool (decide (0 < (((pvL x).length : Nat) : Int))))) pa (Ch.nil ?_)))
   refine T_cond (b := (decide (0 < (((pvL x).length : Nat) : Int)))) rfl (fun h3 => ?_) (fun h3 => ?_)
   ·
    replace h3 := of_decide_eq_true h3
    refine T_seq (T_region hc (Ch.s (.d (.str [98, 114, 101, 97, 107])) pa (Ch.nil (T_ret ?_))))
    exact endR [(.d (.str [98, 114, 101, 97, 107]))] [] [] (.cons (.tmp 2 rfl) .nil) (.cons (.any _) .nil) (Exp.of (congrArg D.str (by first | (rw [why_hid h1]; done) | (rw [why_two h1 h2]; done) | (rw [why_brk h1 h2 h3]; done) | (rw [why_cf h1 h2 h3 h4]; done) | (rw [why_made h1 h2 h3 h4]; done))) (.d _)) rfl rfl
   ·
    replace h3 := of_decide_eq_false h3
    refine T_seq (T_region hc (Ch.s (.agg [(.d (.slice false 2 (x.sigs.map Sgn.d))), (.d (.slice false 1 (x.codes.map D.str))), (.d (.slice false 4 (x.arcs.map Arc.d)))]) (.pure (.loadPtrA _ _ rfl ag35 sz35 rfl rfl (Nat.le_of_ble_eq_true rfl) rfl)) ?_))
    refine Ch.step (v := (.row 19000)) rfl (.call 19000 284 _ _ _ en284 rfl (.inl rfl) (.cons (.lend (.agg (.cons (.d _) (.cons (.d _) (.cons (.d _) .nil))) rfl)) .nil) rfl (sol (solid_row intsU_sol _) rfl) (sp_impl_conflicts x (by first | assumption | omega | (rw [List.length_take]; omega) | (have := bulkF_mem hb _ (getD_mem (d := default) (by omega)); assumption) | (unfold bulkS at *; omega) | (simp_all; done)) (by assumption)) (.skip _ _ .nil) rfl) rfl rfl ?_
    refine Ch.s (.d (.int .i64 (((cfL x).length : Nat) : Int))) (.pure (.len _ _ 55 rfl Tryz.underlying49 (.row rfl) (by simp))) (Ch.s (.d (.bool (decide (0 < (((cfL x).length : Nat) : Int))))) (.pure (.int _ _ _ _ _ rfl rfl rfl rfl)) (Ch.s (.d (.bool (decide (0 < (((cfL x).length : Nat) : Int))))) pa (Ch.nil ?_)))
    refine T_cond (b := (decide (0 < (((cfL x).length : Nat) : Int)))) rfl (fun h4 => ?_) (fun h4 => ?_)
    ·
     replace h4 := of_decide_eq_true h4
     refine T_seq (T_region hc (Ch.s (.d (.str [99, 111, 110, 102, 108, 105, 99, 116])) pa (Ch.nil (T_ret ?_))))
     exact endR [(.d (.str [99, 111, 110, 102, 108, 105, 99, 116]))] [] [] (.cons (.tmp 2 rfl) .nil) (.cons (.any _) .nil) (Exp.of (congrArg D.str (by first | (rw [why_hid h1]; done) | (rw [why_two h1 h2]; done) | (rw [why_brk h1 h2 h3]; done) | (rw [why_cf h1 h2 h3 h4]; done) | (rw [why_made h1 h2 h3 h4]; done))) (.d _)) rfl rfl
    ·
     replace h4 := of_decide_eq_false h4
     refine T_skip (T_seq (T_region hc (Ch.s (.d (.str [109, 97, 100, 101])) pa (Ch.nil (T_ret ?_)))))
     exact endR [(.d (.str [109, 97, 100, 101]))] [] [] (.cons (.tmp 2 rfl) .nil) (.cons (.any _) .nil) (Exp.of (congrArg D.str (by first | (rw [why_hid h1]; done) | (rw [why_two h1 h2]; done) | (rw [why_brk h1 h2 h3]; done) | (rw [why_cf h1 h2 h3 h4]; done) | (rw [why_made h1 h2 h3 h4]; done))) (.d _)) rfl rfl

theorem sp_spec_l6Why (x : Sgr) (hb : x.bulk ≤ 1048576) (hx : SgOk x) : Sp Tryz.prog 94 [(.agg [(.slice false 2 (x.sigs.map Sgn.d)), (.slice false 1 (x.codes.map D.str)), (.slice false 4 (x.arcs.map Arc.d))])] [.any] (.str (whyW x)) := by
 refine Sp_intro (lend := true) Tryz.func94 rfl rfl rfl (fun _ => rfl) (fun c hc hX => ?_)
 obtain ⟨hp0, hp1, hp2⟩ := Sgr.parts hb
 have hn0 := bulkF_len hp0
 have hn1 := bulk_len hp1
 have hx1 := bulk_mem hp1
 have hn2 := bulkF_len hp2; have hx8 := hx.eight; have hxl := hx.len; have hxf := hx.few; have hen := hx.ends
 refine T_seq (T_region hc (Ch.s (.ptr 1000 0) (.box 1000 _ _ rfl (.aggD _)) (Ch.s (.d (.str [])) pa (Ch.nil (T_seq (T_block (T_seq ?_)))))))
 refine T_region hc (Ch.s (.agg [(.d (.slice false 2 (x.sigs.map Sgn.d))), (.d (.slice false 1 (x.codes.map D.str))), (.d (.slice false 4 (x.arcs.map Arc.d)))]) (.pure (.loadPtrA _ _ rfl ag35 sz35 rfl rfl (Nat.le_of_ble_eq_true rfl) rfl)) (Ch.s (.d (.bool (hidB x))) (.call 5000 166 _ _ _ en166 rfl (.inl rfl) (.cons (.lend (.agg (.cons (.d _) (.cons (.d _) (.cons (.d _) .nil))) rfl)) .nil) rfl rfl (sp_spec_l6Hidden x (by first | assumption | omega | (rw [List.length_take]; omega) | (have := bulkF_mem hb _ (getD_mem (d := default) (by omega)); assumption) | (unfold bulkS at *; omega) | (simp_all; done)) (by assumption)) (.skip _ _ .nil) rfl) (Ch.s (.d (.bool (hidB x))) pa (Ch.nil ?_))))
 refine T_cond (b := (hidB x)) rfl (fun h1 => ?_) (fun h1 => ?_)
 ·
  refine T_seq (T_region hc (Ch.s (.d (.str [104, 105, 100, 100, 101, 110])) pa (Ch.nil (T_ret ?_))))
  exact endR [(.d (.str [104, 105, 100, 100, 101, 110]))] [] [] (.cons (.tmp 2 rfl) .nil) (.cons (.any _) .nil) (Exp.of (congrArg D.str (by first | (rw [why_hid h1]; done) | (rw [why_two h1 h2]; done) | (rw [why_brk h1 h2 h3]; done) | (rw [why_cf h1 h2 h3 h4]; done) | (rw [why_made h1 h2 h3 h4]; done))) (.d _)) rfl rfl
 ·
  refine T_seq (T_region hc (Ch.s (.agg [(.d (.slice false 2 (x.sigs.map Sgn.d))), (.d (.slice false 1 (x.codes.map D.str))), (.d (.slice false 4 (x.arcs.map Arc.d)))]) (.pure (.loadPtrA _ _ rfl ag35 sz35 rfl rfl (Nat.le_of_ble_eq_true rfl) rfl)) ?_))
  refine Ch.step (v := (.row 8000)) rfl (.call 8000 167 _ _ _ en167 rfl (.inl rfl) (.cons (.lend (.agg (.cons (.d _) (.cons (.d _) (.cons (.d _) .nil))) rfl)) .nil) rfl (sol (solid_row intsU_sol _) rfl) (sp_spec_l6Ways x (by first | assumption | omega | (rw [List.length_take]; omega) | (have := bulkF_mem hb _ (getD_mem (d := default) (by omega)); assumption) | (unfold bulkS at *; omega) | (simp_all; done)) (by assumption)) (.skip _ _ .nil) rfl) rfl rfl ?_
  refine Ch.s (.d (.int .i64 (((twL x).length : Nat) : Int))) (.pure (.len _ _ 55 rfl Tryz.underlying49 (.row rfl) (by simp))) (Ch.s (.d (.bool (decide (0 < (((twL x).length : Nat) : Int))))) (.pure (.int _ _ _ _ _ rfl rfl rfl rfl)) (Ch.s (.d (.bool (decide (0 < (((twL x).length : Nat) : Int))))) pa (Ch.nil ?_)))
  refine T_cond (b := (decide (0 < (((twL x).length : Nat) : Int)))) rfl (fun h2 => ?_) (fun h2 => ?_)
  ·
   replace h2 := of_decide_eq_true h2
   refine T_seq (T_region hc (Ch.s (.d (.str [116, 119, 111, 32, 119, 97, 121, 115])) pa (Ch.nil (T_ret ?_))))
   exact endR [(.d (.str [116, 119, 111, 32, 119, 97, 121, 115]))] [] [] (.cons (.tmp 2 rfl) .nil) (.cons (.any _) .nil) (Exp.of (congrArg D.str (by first | (rw [why_hid h1]; done) | (rw [why_two h1 h2]; done) | (rw [why_brk h1 h2 h3]; done) | (rw [why_cf h1 h2 h3 h4]; done) | (rw [why_made h1 h2 h3 h4]; done))) (.d _)) rfl rfl
  ·
   replace h2 := of_decide_eq_false h2
   refine T_seq (T_region hc (Ch.s (.agg [(.d (.slice false 2 (x.sigs.map Sgn.d))), (.d (.slice false 1 (x.codes.map D.str))), (.d (.slice false 4 (x.arcs.map Arc.d)))]) (.pure (.loadPtrA _ _ rfl ag35 sz35 rfl rfl (Nat.le_of_ble_eq_true rfl) rfl)) ?_))
   refine Ch.step (v := (.row 13000)) rfl (.call 13000 168 _ _ _ en168 rfl (.inl rfl) (.cons (.lend (.agg (.cons (.d _) (.cons (.d _) (.cons (.d _) .nil))) rfl)) .nil) rfl (sol (solid_row (fun _ => rfl) _) rfl) (sp_spec_l6Breaks x (by first | assumption | omega | (rw [List.length_take]; omega) | (have := bulkF_mem hb _ (getD_mem (d := default) (by omega)); assumption) | (unfold bulkS at *; omega) | (simp_all; done)) (by assumption)) (.skip _ _ .nil) rfl) rfl rfl ?_
   refine Ch.s (.d (.int .i64 (((pvL x).length : Nat) : Int))) (.pure (.len _ _ 216 rfl Tryz.underlying175 (.row rfl) (by simp))) (Ch.s (.d (.bool (decide (0 < (((pvL x).length : Nat) : Int))))) (.pure (.int _ _ _ _ _ rfl rfl rfl rfl)) (Ch.s (.d (.bool (decide (0 < (((pvL x).length : Nat) : Int))))) pa (Ch.nil ?_)))
   refine T_cond (b := (decide (0 < (((pvL x).length : Nat) : Int)))) rfl (fun h3 => ?_) (fun h3 => ?_)
   ·
    replace h3 := of_decide_eq_true h3
    refine T_seq (T_region hc (Ch.s (.d (.str [98, 114, 101, 97, 107])) pa (Ch.nil (T_ret ?_))))
    exact endR [(.d (.str [98, 114, 101, 97, 107]))] [] [] (.cons (.tmp 2 rfl) .nil) (.cons (.any _) .nil) (Exp.of (congrArg D.str (by first | (rw [why_hid h1]; done) | (rw [why_two h1 h2]; done) | (rw [why_brk h1 h2 h3]; done) | (rw [why_cf h1 h2 h3 h4]; done) | (rw [why_made h1 h2 h3 h4]; done))) (.d _)) rfl rfl
   ·
    replace h3 := of_decide_eq_false h3
    refine T_seq (T_region hc (Ch.s (.agg [(.d (.slice false 2 (x.sigs.map Sgn.d))), (.d (.slice false 1 (x.codes.map D.str))), (.d (.slice false 4 (x.arcs.map Arc.d)))]) (.pure (.loadPtrA _ _ rfl ag35 sz35 rfl rfl (Nat.le_of_ble_eq_true rfl) rfl)) ?_))
    refine Ch.step (v := (.row 18000)) rfl (.call 18000 169 _ _ _ en169 rfl (.inl rfl) (.cons (.lend (.agg (.cons (.d _) (.cons (.d _) (.cons (.d _) .nil))) rfl)) .nil) rfl (sol (solid_row intsU_sol _) rfl) (sp_spec_l6Conflicts x (by first | assumption | omega | (rw [List.length_take]; omega) | (have := bulkF_mem hb _ (getD_mem (d := default) (by omega)); assumption) | (unfold bulkS at *; omega) | (simp_all; done)) (by assumption)) (.skip _ _ .nil) rfl) rfl rfl ?_
    refine Ch.s (.d (.int .i64 (((cfL x).length : Nat) : Int))) (.pure (.len _ _ 55 rfl Tryz.underlying49 (.row rfl) (by simp))) (Ch.s (.d (.bool (decide (0 < (((cfL x).length : Nat) : Int))))) (.pure (.int _ _ _ _ _ rfl rfl rfl rfl)) (Ch.s (.d (.bool (decide (0 < (((cfL x).length : Nat) : Int))))) pa (Ch.nil ?_)))
    refine T_cond (b := (decide (0 < (((cfL x).length : Nat) : Int)))) rfl (fun h4 => ?_) (fun h4 => ?_)
    ·
     replace h4 := of_decide_eq_true h4
     refine T_seq (T_region hc (Ch.s (.d (.str [99, 111, 110, 102, 108, 105, 99, 116])) pa (Ch.nil (T_ret ?_))))
     exact endR [(.d (.str [99, 111, 110, 102, 108, 105, 99, 116]))] [] [] (.cons (.tmp 2 rfl) .nil) (.cons (.any _) .nil) (Exp.of (congrArg D.str (by first | (rw [why_hid h1]; done) | (rw [why_two h1 h2]; done) | (rw [why_brk h1 h2 h3]; done) | (rw [why_cf h1 h2 h3 h4]; done) | (rw [why_made h1 h2 h3 h4]; done))) (.d _)) rfl rfl
    ·
     replace h4 := of_decide_eq_false h4
     refine T_skip (T_seq (T_region hc (Ch.s (.d (.str [109, 97, 100, 101])) pa (Ch.nil (T_ret ?_)))))
     exact endR [(.d (.str [109, 97, 100, 101]))] [] [] (.cons (.tmp 2 rfl) .nil) (.cons (.any _) .nil) (Exp.of (congrArg D.str (by first | (rw [why_hid h1]; done) | (rw [why_two h1 h2]; done) | (rw [why_brk h1 h2 h3]; done) | (rw [why_cf h1 h2 h3 h4]; done) | (rw [why_made h1 h2 h3 h4]; done))) (.d _)) rfl rfl

def whyV (x : Sgr) : List UInt8 := if sgB x then whyW x else []

theorem whyV_made (x : Sgr) : decide (whyV x = [109, 97, 100, 101]) = madeB x := by
  unfold whyV madeB
  cases sgB x
  · rfl
  · rw [if_pos rfl, Bool.true_and]

theorem made_no0 {x : Sgr} (h : sgB x = false) : madeB x = false := by rw [madeB, h]; rfl

theorem made_no1 {x : Sgr} (h : ¬ whyW x = [109, 97, 100, 101]) : madeB x = false := by rw [madeB, decide_eq_false h, Bool.and_false]

theorem made_sg {x : Sgr} (h : madeB x = true) : sgB x = true := by
 unfold madeB at h; rw [Bool.and_eq_true] at h; exact h.1

theorem sp_impl_Diagnose (x : Sgr) (hb : x.bulk ≤ 1048576) : Sp Tryz.prog 222 [(.agg [(.slice false 2 (x.sigs.map Sgn.d)), (.slice false 1 (x.codes.map D.str)), (.slice false 4 (x.arcs.map Arc.d))])] [.any] (.tup [(.str (whyV x)), (.bool (sgB x))]) := by
 refine Sp_intro (lend := true) Tryz.func222 rfl rfl rfl (fun _ => rfl) (fun c hc hX => ?_)
 obtain ⟨hp0, hp1, hp2⟩ := Sgr.parts hb
 have hn0 := bulkF_len hp0
 have hn1 := bulk_len hp1
 have hx1 := bulk_mem hp1
 have hn2 := bulkF_len hp2
 refine T_seq (T_region hc (Ch.s (.ptr 1000 0) (.box 1000 _ _ rfl (.aggD _)) (Ch.s (.d (.str [])) pa (Ch.s (.d (.bool false)) pa (Ch.nil (T_seq (T_seq ?_)))))))
 refine T_region hc (Ch.s (.agg [(.d (.slice false 2 (x.sigs.map Sgn.d))), (.d (.slice false 1 (x.codes.map D.str))), (.d (.slice false 4 (x.arcs.map Arc.d)))]) (.pure (.loadPtrA _ _ rfl ag35 sz35 rfl rfl (Nat.le_of_ble_eq_true rfl) rfl)) (Ch.s (.d (.bool (sgB x))) (.call 5000 120 _ _ _ en120 rfl (.inl rfl) (.cons (.lend (.agg (.cons (.d _) (.cons (.d _) (.cons (.d _) .nil))) rfl)) .nil) rfl rfl (sp_impl_IsValidStateGraph x (by first | assumption | omega | (rw [List.length_take]; omega) | (have := bulkF_mem hb _ (getD_mem (d := default) (by omega)); assumption) | (unfold bulkS at *; omega) | (simp_all; done))) (.skip _ _ .nil) rfl) (Ch.s (.d (.bool (!(sgB x)))) (.pure (.not _ _ rfl rfl)) (Ch.nil ?_))))
 refine T_cond (b := (!(sgB x))) rfl (fun h1 => ?_) (fun h1 => ?_)
 ·
  replace h1 := nott h1
  try have hx := sg_has h1
  refine T_seq (T_region hc (Ch.s (.d (.str [])) pa (Ch.s (.d (.bool false)) pa (Ch.nil (T_ret ?_)))))
  exact endR [(.d (.str [])), (.d (.bool false))] [] [] (.cons (.tmp 2 rfl) (.cons (.tmp 3 rfl) .nil)) (.cons (.any _) .nil) (.tup (.cons (Exp.of (congrArg D.str (by first | (rw [whyV, h1]; rfl) | (rw [h1]; done))) (.d _)) (.cons (Exp.of (congrArg D.bool (by first | (rw [whyV, h1]; rfl) | (rw [h1]; done))) (.d _)) .nil))) rfl rfl
 ·
  replace h1 := notf h1
  try have hx := sg_has h1
  refine T_skip (T_seq (T_region hc (Ch.s (.agg [(.d (.slice false 2 (x.sigs.map Sgn.d))), (.d (.slice false 1 (x.codes.map D.str))), (.d (.slice false 4 (x.arcs.map Arc.d)))]) (.pure (.loadPtrA _ _ rfl ag35 sz35 rfl rfl (Nat.le_of_ble_eq_true rfl) rfl)) (Ch.s (.d (.str (whyW x))) (.call 8000 258 _ _ _ en258 rfl (.inl rfl) (.cons (.lend (.agg (.cons (.d _) (.cons (.d _) (.cons (.d _) .nil))) rfl)) .nil) rfl rfl (sp_impl_diagnosis x (by first | assumption | omega | (rw [List.length_take]; omega) | (have := bulkF_mem hb _ (getD_mem (d := default) (by omega)); assumption) | (unfold bulkS at *; omega) | (simp_all; done)) (by assumption)) (.skip _ _ .nil) rfl) (Ch.s (.d (.str (whyW x))) pa (Ch.s (.d (.bool true)) pa (Ch.nil ?_)))))))
  refine T_ret ?_
  exact endR [(.d (.str (whyW x))), (.d (.bool true))] [] [] (.cons (.tmp 2 rfl) (.cons (.tmp 3 rfl) .nil)) (.cons (.any _) .nil) (.tup (.cons (Exp.of (congrArg D.str (by first | (rw [whyV, h1]; rfl) | (rw [h1]; done))) (.d _)) (.cons (Exp.of (congrArg D.bool (by first | (rw [whyV, h1]; rfl) | (rw [h1]; done))) (.d _)) .nil))) rfl rfl

theorem sp_impl_IsImplementable (x : Sgr) (hb : x.bulk ≤ 1048576) : Sp Tryz.prog 171 [(.agg [(.slice false 2 (x.sigs.map Sgn.d)), (.slice false 1 (x.codes.map D.str)), (.slice false 4 (x.arcs.map Arc.d))])] [.any] (.tup [(.bool (madeB x)), (.bool (sgB x))]) := by
 refine Sp_intro (lend := true) Tryz.func171 rfl rfl rfl (fun _ => rfl) (fun c hc hX => ?_)
 obtain ⟨hp0, hp1, hp2⟩ := Sgr.parts hb
 have hn0 := bulkF_len hp0
 have hn1 := bulk_len hp1
 have hx1 := bulk_mem hp1
 have hn2 := bulkF_len hp2
 refine T_seq (T_region hc (Ch.s (.ptr 1000 0) (.box 1000 _ _ rfl (.aggD _)) (Ch.s (.d (.bool false)) pa (Ch.s (.d (.bool false)) pa (Ch.nil (T_seq (T_region hc ?_)))))))
 refine Ch.s (.agg [(.d (.slice false 2 (x.sigs.map Sgn.d))), (.d (.slice false 1 (x.codes.map D.str))), (.d (.slice false 4 (x.arcs.map Arc.d)))]) (.pure (.loadPtrA _ _ rfl ag35 sz35 rfl rfl (Nat.le_of_ble_eq_true rfl) rfl)) (Ch.s (.tup [(.d (.str (whyV x))), (.d (.bool (sgB x)))]) (.call 8000 222 _ _ _ en222 rfl (.inl rfl) (.cons (.lend (.agg (.cons (.d _) (.cons (.d _) (.cons (.d _) .nil))) rfl)) .nil) rfl rfl (sp_impl_Diagnose x (by first | assumption | omega | (rw [List.length_take]; omega) | (have := bulkF_mem hb _ (getD_mem (d := default) (by omega)); assumption) | (unfold bulkS at *; omega) | (simp_all; done))) (.skip _ _ .nil) rfl) (Ch.s (.tup [(.d (.str (whyV x))), (.d (.bool (sgB x)))]) pm (Ch.s (.d (.str (whyV x))) (.pure (.extract _ rfl rfl rfl)) (Ch.s (.d (.bool (sgB x))) (.pure (.extract _ rfl rfl rfl)) (Ch.s (.d (.str (whyV x))) pa (Ch.s (.d (.bool (sgB x))) pa (Ch.nil ?_)))))))
 refine T_seq (T_region hc (Ch.s (.d (.str (whyV x))) pm (Ch.s (.d (.bool (decide ((whyV x) = [109, 97, 100, 101])))) (.pure (.str _ _ _ _ _ rfl rfl rfl rfl)) (Ch.s (.d (.bool (sgB x))) pm (Ch.s (.d (.bool (decide ((whyV x) = [109, 97, 100, 101])))) pa (Ch.s (.d (.bool (sgB x))) pa (Ch.nil ?_)))))))
 refine T_ret ?_
 exact endR [(.d (.bool (decide ((whyV x) = [109, 97, 100, 101])))), (.d (.bool (sgB x)))] [] [] (.cons (.tmp 2 rfl) (.cons (.tmp 3 rfl) .nil)) (.cons (.any _) .nil) (.tup (.cons (Exp.of (congrArg D.bool (by first | rfl | (rw [whyV_made]; done) | (exact whyV_made x))) (.d _)) (.cons (.d _) .nil))) rfl rfl

theorem sp_impl_isMade (x : Sgr) (hb : x.bulk ≤ 1048576) : Sp Tryz.prog 111 [(.agg [(.slice false 2 (x.sigs.map Sgn.d)), (.slice false 1 (x.codes.map D.str)), (.slice false 4 (x.arcs.map Arc.d))])] [.any] (.bool (madeB x)) := by
 refine Sp_intro (lend := true) Tryz.func111 rfl rfl rfl (fun _ => rfl) (fun c hc hX => ?_)
 obtain ⟨hp0, hp1, hp2⟩ := Sgr.parts hb
 have hn0 := bulkF_len hp0
 have hn1 := bulk_len hp1
 have hx1 := bulk_mem hp1
 have hn2 := bulkF_len hp2
 refine T_seq (T_region hc (Ch.s (.ptr 1000 0) (.box 1000 _ _ rfl (.aggD _)) (Ch.s (.d (.bool false)) pa (Ch.nil (T_seq (T_region hc (Ch.s (.agg [(.d (.slice false 2 (x.sigs.map Sgn.d))), (.d (.slice false 1 (x.codes.map D.str))), (.d (.slice false 4 (x.arcs.map Arc.d)))]) (.pure (.loadPtrA _ _ rfl ag35 sz35 rfl rfl (Nat.le_of_ble_eq_true rfl) rfl)) ?_)))))))
 refine Ch.s (.tup [(.d (.bool (madeB x))), (.d (.bool (sgB x)))]) (.call 7000 171 _ _ _ en171 rfl (.inl rfl) (.cons (.lend (.agg (.cons (.d _) (.cons (.d _) (.cons (.d _) .nil))) rfl)) .nil) rfl rfl (sp_impl_IsImplementable x (by first | assumption | omega | (rw [List.length_take]; omega) | (have := bulkF_mem hb _ (getD_mem (d := default) (by omega)); assumption) | (unfold bulkS at *; omega) | (simp_all; done))) (.skip _ _ .nil) rfl) (Ch.s (.tup [(.d (.bool (madeB x))), (.d (.bool (sgB x)))]) pm (Ch.s (.d (.bool (madeB x))) (.pure (.extract _ rfl rfl rfl)) (Ch.s (.d (.bool (sgB x))) (.pure (.extract _ rfl rfl rfl)) (Ch.s (.d (.bool (madeB x))) pa (Ch.s (.d (.bool (sgB x))) pa (Ch.nil (T_seq ?_)))))))
 refine T_region hc (Ch.s (.d (.bool (sgB x))) pm (Ch.s (.d (.bool (sgB x))) pm ?_))
 cases h1 : (sgB x) with
 | true =>
  refine Ch.s (.d (.bool (madeB x))) pm (Ch.s (.d (.bool (madeB x))) (.pure (.pickT _ _ _ rfl rfl rfl)) (Ch.s (.d (.bool (madeB x))) pa (Ch.nil (T_ret ?_))))
  exact endR [(.d (.bool (madeB x)))] [] [] (.cons (.tmp 2 rfl) .nil) (.cons (.any _) .nil) (.d _) rfl rfl
 | false =>
  refine Ch.skip rfl rfl (Ch.s (.d (.bool false)) (.pure (.pickF _ _ _ rfl rfl rfl)) (Ch.s (.d (.bool false)) pa (Ch.nil (T_ret ?_))))
  exact endR [(.d (.bool false))] [] [] (.cons (.tmp 2 rfl) .nil) (.cons (.any _) .nil) (Exp.of (congrArg D.bool (by first | (unfold madeB; rw [h1]; rfl) | (simp_all [madeB]; done))) (.d _)) rfl rfl

theorem sty147 : SlotTy Tryz.prog 147 107 2 16 := slotTy_mk (by kernel_rfl)

theorem en132 : Enters Tryz.prog 132 := ⟨_, Tryz.func132, by kernel_rfl, rfl⟩

theorem sz119 : SizeIs Tryz.prog 119 3 := by unfold SizeIs; kernel_rfl

theorem ag119 : AggIs Tryz.prog 119 true := by unfold AggIs; kernel_rfl

theorem en105 : Enters Tryz.prog 105 := ⟨_, Tryz.func105, by kernel_rfl, rfl⟩

theorem sty73 : SlotTy Tryz.prog 73 121 3 40 := slotTy_mk (by kernel_rfl)

theorem en110 : Enters Tryz.prog 110 := ⟨_, Tryz.func110, by kernel_rfl, rfl⟩

theorem en116 : Enters Tryz.prog 116 := ⟨_, Tryz.func116, by kernel_rfl, rfl⟩

theorem en111 : Enters Tryz.prog 111 := ⟨_, Tryz.func111, by kernel_rfl, rfl⟩

theorem en112 : Enters Tryz.prog 112 := ⟨_, Tryz.func112, by kernel_rfl, rfl⟩

theorem en113 : Enters Tryz.prog 113 := ⟨_, Tryz.func113, by kernel_rfl, rfl⟩

theorem en114 : Enters Tryz.prog 114 := ⟨_, Tryz.func114, by kernel_rfl, rfl⟩

theorem en115 : Enters Tryz.prog 115 := ⟨_, Tryz.func115, by kernel_rfl, rfl⟩

theorem en94 : Enters Tryz.prog 94 := ⟨_, Tryz.func94, by kernel_rfl, rfl⟩

theorem en106 : Enters Tryz.prog 106 := ⟨_, Tryz.func106, by kernel_rfl, rfl⟩

theorem en107 : Enters Tryz.prog 107 := ⟨_, Tryz.func107, by kernel_rfl, rfl⟩

theorem stru125 : StructIs Tryz.prog 125 [.int .i64 0, .int .i64 0, .bool false, .int .i64 0] [(0, 1), (1, 1), (2, 1), (3, 1)] := structIs_mk (by kernel_rfl) Tryz.underlying125 (by kernel_rfl)

theorem en108 : Enters Tryz.prog 108 := ⟨_, Tryz.func108, by kernel_rfl, rfl⟩

theorem en109 : Enters Tryz.prog 109 := ⟨_, Tryz.func109, by kernel_rfl, rfl⟩

theorem en49 : Enters Tryz.prog 49 := ⟨_, Tryz.func49, by kernel_rfl, rfl⟩

theorem en51 : Enters Tryz.prog 51 := ⟨_, Tryz.func51, by kernel_rfl, rfl⟩

theorem en50 : Enters Tryz.prog 50 := ⟨_, Tryz.func50, by kernel_rfl, rfl⟩

theorem en52 : Enters Tryz.prog 52 := ⟨_, Tryz.func52, by kernel_rfl, rfl⟩

theorem en53 : Enters Tryz.prog 53 := ⟨_, Tryz.func53, by kernel_rfl, rfl⟩

def edgesF (l : List Int) : List Lab := l.flatMap fun s => [Lab.mk s true, Lab.mk s false]

theorem edges_succ {l : List Int} {k : Nat} (hk : k < l.length) : edgesF (l.take k) ++ [Lab.mk (l.getD k default) true, Lab.mk (l.getD k default) false] = edgesF (l.take (k + 1)) := by
 have hg : l.getD k default = l[k] := by simp [hk]
 unfold edgesF
 rw [hg, List.take_succ_eq_append_getElem hk, List.flatMap_append]; simp

theorem edges_len : ∀ l : List Int, (edgesF l).length = 2 * l.length
 | [] => rfl
 | a :: l => by
  have := edges_len l
  unfold edgesF at this ⊢
  rw [List.flatMap_cons, List.length_append, this]; simp only [List.length_cons, List.length_nil]; omega

theorem edges_get : ∀ {l : List Int} {k : Nat}, k < 2 * l.length → (edgesF l).getD k default = Lab.mk (l.getD (k / 2) default) (decide (k % 2 = 0))
 | [], k, h => by simp at h
 | a :: l, 0, _ => rfl
 | a :: l, 1, _ => rfl
 | a :: l, k + 2, h => by
  have ih := edges_get (l := l) (k := k) (by simp only [List.length_cons] at h; omega)
  have e : (edgesF (a :: l)).getD (k + 2) default = (edgesF l).getD k default := by
   unfold edgesF
   rw [List.flatMap_cons]
   rfl
  have e2 : (k + 2) / 2 = k / 2 + 1 := by omega
  have e3 : (k + 2) % 2 = k % 2 := by omega
  rw [e, ih, e2, e3]
  rfl

def rlab (r : Rcv) : Lab := Lab.mk r.sig r.up

def entB (x : Sgr) (l : List Rcv) : Bool := decide (l.map rlab = edgesF (outsL x.sigs))

theorem ent_len {x : Sgr} {l : List Rcv} (h : ¬ l.length = (edgesF (outsL x.sigs)).length) : entB x l = false := decide_eq_false fun e => h (by rw [← e, List.length_map])

theorem ent_no {x : Sgr} {l : List Rcv} (k : Nat) (hk : k < l.length) (h : ¬ (edgesF (outsL x.sigs)).getD k default = Lab.mk (l.getD k default).sig (l.getD k default).up) : entB x l = false := decide_eq_false fun e => h (by
 rw [← e]
 simp [hk, rlab])

theorem ent_yes {x : Sgr} {l : List Rcv} (hl : l.length = (edgesF (outsL x.sigs)).length) (h : ∀ j, j < l.length → (edgesF (outsL x.sigs)).getD j default = Lab.mk (l.getD j default).sig (l.getD j default).up) : entB x l = true := by
  refine decide_eq_true ?_
  apply List.ext_getElem
  · rw [List.length_map, hl]
  · intro j h1 h2
    rw [List.length_map] at h1
    have := h j h1
    rw [List.getElem_map]
    simp only [List.getD_eq_getElem?_getD, List.getElem?_eq_getElem h1, List.getElem?_eq_getElem h2, Option.getD_some] at this
    rw [this]; rfl

theorem ent_end {x : Sgr} {l : List Rcv} (h : ∀ j, j < l.length → (edgesF (outsL x.sigs)).getD j default = Lab.mk (l.getD j default).sig (l.getD j default).up) : decide ((l.length : Int) = ((edgesF (outsL x.sigs)).length : Int)) = entB x l := by
  by_cases hl : l.length = (edgesF (outsL x.sigs)).length
  · rw [ent_yes hl h, decide_eq_true (by omega)]
  · rw [ent_len hl, decide_eq_false (by omega)]

theorem ent_at {x : Sgr} {l : List Rcv} {k : Nat} (hk : k < 2 * (outsL x.sigs).length) (h1 : (l.getD k default).sig = (outsL x.sigs).getD (k / 2) default) (h2 : (l.getD k default).up = decide (((k % 2 : Nat) : Int) = 0)) : (edgesF (outsL x.sigs)).getD k default = Lab.mk (l.getD k default).sig (l.getD k default).up := by
  rw [edges_get hk, h1, h2]
  congr 1
  by_cases e : k % 2 = 0
  · rw [decide_eq_true e, decide_eq_true (by omega)]
  · rw [decide_eq_false e, decide_eq_false (by omega)]

theorem ent_sig {x : Sgr} {l : List Rcv} {k : Nat} (hk : k < l.length) (hk2 : k < 2 * (outsL x.sigs).length) (h1 : ¬ (l.getD k default).sig = (outsL x.sigs).getD (k / 2) default) : entB x l = false := ent_no k hk (by
 rw [edges_get hk2]; intro e; exact h1 (congrArg Lab.sig e).symm)

theorem ent_up {x : Sgr} {l : List Rcv} {k : Nat} (hk : k < l.length) (hk2 : k < 2 * (outsL x.sigs).length) (h2 : ¬ (l.getD k default).up = decide (((k % 2 : Nat) : Int) = 0)) : entB x l = false := ent_no k hk (by
  rw [edges_get hk2]; intro e; refine h2 ((congrArg Lab.up e).symm.trans ?_)
  show decide (k % 2 = 0) = _
  by_cases e : k % 2 = 0
  · rw [decide_eq_true e, decide_eq_true (by omega)]
  · rw [decide_eq_false e, decide_eq_false (by omega)])

theorem ent_has {x : Sgr} {l : List Rcv} (h : entB x l = true) : l.length = 2 * (outsL x.sigs).length ∧ ∀ r ∈ l, 0 ≤ r.sig ∧ r.sig.toNat < x.sigs.length := by
  have e := of_decide_eq_true h
  refine ⟨by rw [← edges_len, ← e, List.length_map], fun r hr => ?_⟩
  have : rlab r ∈ edgesF (outsL x.sigs) := by rw [← e]; exact List.mem_map.2 ⟨r, hr, rfl⟩
  obtain ⟨s, hs, h2⟩ := List.mem_flatMap.1 this
  have h3 := outs_in s hs
  have h4 : r.sig = s := by
    simp only [List.mem_cons, List.not_mem_nil, or_false] at h2
    rcases h2 with h2 | h2 <;> exact congrArg Lab.sig h2
  rw [h4]; exact h3

def edgeT (sg : List Sgn) (l : Lab) : List UInt8 := if l.sig < 0 then [126] else if l.up then (sg.getD l.sig.toNat default).name ++ [43] else (sg.getD l.sig.toNat default).name ++ [45]

end Go.AM
