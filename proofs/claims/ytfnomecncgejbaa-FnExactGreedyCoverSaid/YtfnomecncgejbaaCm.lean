/-
  Contracts: slices.DeleteFunc; the codes.
-/
import Derived.Test.YtfnomecncgejbaaCl
namespace Go.AM
open Go.Proofs
set_option linter.unusedVariables false
set_option linter.unusedSimpArgs false



def keepTo (p : List UInt8 → Bool) (xs : List (List UInt8)) (j : Nat) : List (List UInt8) := (xs.take j).filter fun u => !p u
theorem keepTo_yes {p : List UInt8 → Bool} {xs : List (List UInt8)} {j : Nat} (hj : j < xs.length) (h : p (xs.getD j default) = false) : keepTo p xs (j + 1) = keepTo p xs j ++ [xs.getD j default] := by
  have hg : xs.getD j default = xs[j] := by simp [hj]
  rw [hg] at h ⊢
  rw [keepTo, keepTo, List.take_succ_eq_append_getElem hj, List.filter_append]; simp [h]
theorem keepTo_no {p : List UInt8 → Bool} {xs : List (List UInt8)} {j : Nat} (hj : j < xs.length) (h : p (xs.getD j default) = true) : keepTo p xs (j + 1) = keepTo p xs j := by
  have hg : xs.getD j default = xs[j] := by simp [hj]
  rw [hg] at h
  rw [keepTo, keepTo, List.take_succ_eq_append_getElem hj, List.filter_append]; simp [h]
theorem keepTo_none {p : List UInt8 → Bool} {xs : List (List UInt8)} : ∀ k, k ≤ xs.length → (∀ j, j < k → p (xs.getD j default) = false) → keepTo p xs k = xs.take k
  | 0, _, _ => rfl
  | k + 1, hk, h => by
    rw [keepTo_yes (by omega) (h k (by omega)), keepTo_none k (by omega) (fun j hj => h j (by omega)), List.take_succ_eq_append_getElem (by omega)]
    simp [show k < xs.length by omega]
theorem ixF_first {p : List UInt8 → Bool} {xs : List (List UInt8)} (h : ¬ ixF p xs = -1) : ∃ k, k < xs.length ∧ ixF p xs = (k : Int) ∧ keepTo p xs (k + 1) = xs.take k := by
  unfold ixF at *
  split at h
  · rename_i ha
    have hk : xs.findIdx p < xs.length := List.findIdx_lt_length_of_exists (by simpa using ha)
    refine ⟨xs.findIdx p, hk, by rw [if_pos ha], ?_⟩
    have h1 : p (xs.getD (xs.findIdx p) default) = true := by
      have := List.findIdx_getElem (w := hk)
      simpa [hk] using this
    rw [keepTo_no hk h1]
    refine keepTo_none _ (by omega) (fun j hj => ?_)
    have := List.not_of_lt_findIdx hj
    simpa [show j < xs.length by omega] using this
  · exact absurd rfl h
structure DelInv (p : List UInt8 → Bool) (xs : List (List UInt8)) (j : Nat) (R : List (List UInt8)) : Prop where
  le : j ≤ xs.length
  len : R.length = xs.length
  lt : (keepTo p xs j).length < j
  pre : R.take (keepTo p xs j).length = keepTo p xs j
  post : R.drop j = xs.drop j
theorem DelInv.get {p xs j R} (h : DelInv p xs j R) (hj : j < xs.length) : R.getD j default = xs.getD j default := by
  have h1 : (R.drop j)[0]? = (xs.drop j)[0]? := by rw [h.post]
  rw [List.getElem?_drop, List.getElem?_drop, Nat.add_zero] at h1
  rw [List.getD_eq_getElem?_getD, List.getD_eq_getElem?_getD, h1]
theorem DelInv.start {p : List UInt8 → Bool} {xs : List (List UInt8)} {k : Nat} (hk : k < xs.length) (h : keepTo p xs (k + 1) = xs.take k) : DelInv p xs (k + 1) xs := by
  have hl : (keepTo p xs (k + 1)).length = k := by rw [h]; simp; omega
  exact ⟨by omega, rfl, by omega, by rw [hl, h], rfl⟩
theorem DelInv.skip {p xs j R} (h : DelInv p xs j R) (hj : j < xs.length) (hp : p (R.getD j default) = true) : DelInv p xs (j + 1) R ∧ (keepTo p xs j).length = (keepTo p xs (j + 1)).length := by
  rw [h.get hj] at hp
  have hk := keepTo_no hj hp
  refine ⟨⟨by omega, h.len, by rw [hk]; have := h.lt; omega, by rw [hk]; exact h.pre, ?_⟩, by rw [hk]⟩
  rw [← List.drop_drop, ← List.drop_drop, h.post]
theorem DelInv.keep {p xs j R} (h : DelInv p xs j R) (hj : j < xs.length) (hp : p (R.getD j default) = false) : DelInv p xs (j + 1) (R.set (keepTo p xs j).length (R.getD j default)) ∧ (keepTo p xs j).length + 1 = (keepTo p xs (j + 1)).length := by
  have hg := h.get hj
  rw [hg] at hp ⊢
  have hk := keepTo_yes hj hp
  have hl : (keepTo p xs (j + 1)).length = (keepTo p xs j).length + 1 := by rw [hk]; simp
  have hlt := h.lt
  have hlen := h.len
  refine ⟨⟨by omega, by simp [h.len], by omega, ?_, ?_⟩, hl.symm⟩
  · rw [hl, hk, List.take_succ_eq_append_getElem (by simp; omega), List.getElem_set_self, List.take_set_of_le (Nat.le_refl _), h.pre]
  · rw [List.drop_set_of_lt (by omega), ← List.drop_drop, ← List.drop_drop, h.post]
theorem DelInv.mem {p xs j R} (h : DelInv p xs j R) (hj : j < R.length) : R.getD j default ∈ xs := by
  rw [h.get (by rw [← h.len]; exact hj)]; exact getD_mem (by rw [← h.len]; exact hj)
theorem DelInv.done {p xs j R} (h : DelInv p xs j R) (hj : xs.length ≤ j) : R.take (keepTo p xs j).length = xs.filter fun u => !p u := by
  rw [h.pre, keepTo, List.take_of_length_le hj]
theorem ixF_bounds (p : List UInt8 → Bool) (xs : List (List UInt8)) : -1 ≤ ixF p xs ∧ ixF p xs ≤ xs.length := by
  unfold ixF
  have := List.findIdx_le_length (p := p) (xs := xs)
  split <;> omega
theorem take_cut {τ : Type} {A Z B : List τ} {k : Nat} (h : k ≤ A.length) : (A.take k ++ Z ++ B).take k = A.take k := by
  rw [List.append_assoc, List.take_append_of_le_length (by simp; omega), List.take_of_length_le (by simp; omega)]
theorem ixF_all {p : List UInt8 → Bool} {xs : List (List UInt8)} (h : ixF p xs = -1) : xs.filter (fun u => !p u) = xs := by
  unfold ixF at h
  split at h
  · omega
  · rename_i ha
    rw [List.filter_eq_self]
    intro u hu
    have : ¬ p u = true := fun hp => ha (List.any_eq_true.2 ⟨u, hu, hp⟩)
    simpa using this

theorem sp_DeleteFunc_str (xs : List (List UInt8)) (f : FuncId) (caps : List D) (p : List UInt8 → Bool) (hf : Enters Try.prog f) (hp : ∀ x ∈ xs, Sp Try.prog f (D.str x :: caps) (.any :: anys caps) (.bool (p x))) (hn : xs.length ≤ 1048576) : Sp Try.prog 114 [(.slice true 1 (xs.map D.str)), (.fn f caps)] [.any, .any] (.slice true 1 ((xs.filter (fun u => !p u)).map D.str)) := by
  refine Sp_intro (lend := false) Try.func114 rfl rfl rfl (fun h => nomatch h) (fun c hc hX => ?_)
  have hixb := ixF_bounds p xs
  refine T_seq ?_
  refine T_region hc ?_
  refine Ch.step (v := (.c (.slice none 0 0))) rfl (.pure (.assign _ rfl rfl)) rfl rfl ?_
  refine Ch.nil ?_
  refine T_seq ?_
  refine T_region hc ?_
  refine Ch.step (v := (.row 1)) rfl (.pure (.move _ rfl rfl)) rfl rfl ?_
  refine Ch.step (v := (.d (.fn f caps))) rfl (.pure (.move _ rfl rfl)) rfl rfl ?_
  refine Ch.step (v := (.d (.int .i64 (ixF p xs)))) rfl (.call 10000 130 _ _ _ en130 rfl (.inl rfl) (.cons (.lend (.row rfl (frozs_map (fun _ => rfl) _))) (.cons (.d _) .nil)) rfl rfl (sp_IndexFunc_str xs f caps p hf hp (by first | omega | assumption | (exact hx _ (getD_mem (by omega))) | (exact hx _ (by assumption)) | (exact Nat.le_trans (hx _ (by assumption)) (by omega)) | (simp only [List.length_append, List.length_take, List.length_drop, List.length_cons, List.length_nil]; omega) | (simp_all; done))) (.skip _ _ (.skip _ _ .nil)) rfl) rfl rfl ?_
  refine Ch.step (v := (.d (.int .i64 (ixF p xs)))) rfl (.pure (.assign _ rfl rfl)) rfl rfl ?_
  refine Ch.nil ?_
  refine T_seq ?_
  refine T_seq ?_
  refine T_region hc ?_
  refine Ch.step (v := (.d (.int .i64 (ixF p xs)))) rfl (.pure (.move _ rfl rfl)) rfl rfl ?_
  refine Ch.step (v := (.d (.bool (decide ((ixF p xs) = (-1)))))) rfl (.pure (.int _ _ _ _ _ rfl rfl rfl rfl)) rfl rfl ?_
  refine Ch.nil ?_
  refine T_cond (b := (decide ((ixF p xs) = (-1)))) rfl (fun h1 => ?_) (fun h1 => ?_)
  · replace h1 := of_decide_eq_true h1
    refine T_seq ?_
    refine T_region hc ?_
    refine Ch.step (v := (.row 1)) rfl (.pure (.move _ rfl rfl)) rfl rfl ?_
    refine Ch.step (v := (.row 1)) rfl (.pure (.assign _ rfl rfl)) rfl rfl ?_
    refine Ch.nil ?_
    refine T_ret ?_
    refine And.intro (.inr rfl) ?_
    exact Exists.intro [(.row 1)] (Exists.intro [] (Exists.intro [1] (And.intro (.cons (.tmp 4 rfl) .nil) (And.intro (.cons (.any _) (.cons (.any _) .nil)) (And.intro (Exp.of (congrArg (D.slice true 1) (by first | (rw [ixF_all h1]; done) | (rw [take_cut (by simp; omega), ← List.map_take, hp0.done (by omega)]; done) | skip)) (.row rfl)) (And.intro rfl rfl))))))
  · replace h1 := of_decide_eq_false h1
    refine T_skip ?_
    refine T_seq ?_
    refine T_seq ?_
    refine T_region hc ?_
    refine Ch.step (v := (.d (.int .i64 (ixF p xs)))) rfl (.pure (.move _ rfl rfl)) rfl rfl ?_
    refine Ch.step (v := (.d (.int .i64 ((ixF p xs) + 1)))) rfl (.pure (.int _ _ _ _ _ rfl rfl rfl (intV_add (by first | omega | (simp only [List.length_map, List.length_append, List.length_take, List.length_drop, List.length_cons, List.length_nil]; omega) | (simp; omega) | (simp; done)) (by first | omega | (simp only [List.length_map, List.length_append, List.length_take, List.length_drop, List.length_cons, List.length_nil]; omega) | (simp; omega) | (simp; done))))) rfl rfl ?_
    refine Ch.step (v := (.d (.int .i64 ((ixF p xs) + 1)))) rfl (.pure (.assign _ rfl rfl)) rfl rfl ?_
    refine Ch.nil ?_
    refine T_block ?_
    refine T_loop (ι := Nat × List (List UInt8)) (fun q => { n := 42, sl := [(0, (.row 1)), (1, (.d (.fn f caps))), (5, (.d (.int .i64 (((keepTo p xs q.1).length : Nat) : Int)))), (6, (.d (.int .i64 ((q.1 : Nat) : Int))))], hp := [(1, (some (.row 1 (q.2.map D.str))))], pin := [1] }) (fun q => DelInv p xs q.1 q.2) (fun q => xs.length - q.1) ⟨((ixF p xs).toNat + 1, xs), (by obtain ⟨k0, hk0, hk1, hk2⟩ := ixF_first h1; have e : (ixF p xs).toNat = k0 := (by omega); rw [e]; exact DelInv.start hk0 hk2), (Wk.of rfl rfl (And.intro rfl (And.intro rfl (And.intro (vI (by first | (obtain ⟨k0, hk0, hk1, hk2⟩ := ixF_first h1; have e : (ixF p xs).toNat = k0 := (by omega); dsimp only; rw [e, hk2, hk1, List.length_take, Nat.min_eq_left (by omega)]; done) | (have e := (hp0.keep (by omega) (by assumption)).2; dsimp only; omega) | (have e := (hp0.skip (by omega) (by assumption)).2; dsimp only; omega))) (And.intro (vI (by first | rfl | omega | (simp; done) | (simp; omega))) trivial)))) (And.intro (oR (by first | rfl | (rw [List.map_set]; done))) trivial))⟩ (fun q hp0 => ?_)
    have hq1 := hp0.len; have hq2 := hp0.lt; have hq3 := hp0.le
    refine T_seq ?_
    refine T_seq ?_
    refine T_region hc ?_
    refine Ch.step (v := (.d (.int .i64 ((q.1 : Nat) : Int)))) rfl (.pure (.move _ rfl rfl)) rfl rfl ?_
    refine Ch.step (v := (.row 1)) rfl (.pure (.move _ rfl rfl)) rfl rfl ?_
    refine Ch.step (v := (.d (.int .i64 ((q.2.length : Nat) : Int)))) rfl (.pure (.len _ _ 9 rfl Try.underlying22 (.row rfl) (by simp))) rfl rfl ?_
    refine Ch.step (v := (.d (.bool (decide (((q.1 : Nat) : Int) < ((q.2.length : Nat) : Int)))))) rfl (.pure (.int _ _ _ _ _ rfl rfl rfl rfl)) rfl rfl ?_
    refine Ch.nil ?_
    refine T_cond (b := (decide (((q.1 : Nat) : Int) < ((q.2.length : Nat) : Int)))) rfl (fun h2 => ?_) (fun h2 => ?_)
    · replace h2 := of_decide_eq_true h2
      refine T_skip ?_
      refine T_seq ?_
      refine T_block ?_
      refine T_seq ?_
      refine T_region hc ?_
      refine Ch.step (v := (.row 1)) rfl (.pure (.move _ rfl rfl)) rfl rfl ?_
      refine Ch.step (v := (.d (.int .i64 ((q.1 : Nat) : Int)))) rfl (.pure (.move _ rfl rfl)) rfl rfl ?_
      refine Ch.step (v := (.el 1 1 q.1 0)) rfl (.pure (.idxRow _ _ _ 9 (q.1) rfl Try.underlying22 sz9 rfl rfl rfl rfl (by first | omega | (simp; omega)))) rfl rfl ?_
      refine Ch.step (v := (.d (.str (q.2.getD q.1 default)))) rfl (.pure (.loadEl1 _ _ rfl ag9 rfl rfl (get_map _ (by first | omega | (simp only [List.length_map, List.length_append, List.length_take, List.length_drop, List.length_cons, List.length_nil]; omega) | (simp; omega) | (simp; done))) rfl rfl rfl)) rfl rfl ?_
      refine Ch.step (v := (.d (.str (q.2.getD q.1 default)))) rfl (.pure (.assign _ rfl rfl)) rfl rfl ?_
      refine Ch.nil ?_
      refine T_seq ?_
      refine T_region hc ?_
      refine Ch.step (v := (.d (.fn f caps))) rfl (.pure (.move _ rfl rfl)) rfl rfl ?_
      refine Ch.step (v := (.d (.str (q.2.getD q.1 default)))) rfl (.pure (.move _ rfl rfl)) rfl rfl ?_
      refine Ch.step (v := (.d (.bool (p (q.2.getD q.1 default))))) rfl (.callS 28000 f _ #[.tmp 27] _ hf rfl (.inr ⟨caps, rfl, rfl⟩) (.cons (.d _) (exps_ds caps)) rfl ((by first | exact hp _ (getD_mem (by omega)) | exact hp _ (hp0.mem (by omega)))) (.skip _ _ (back_anys caps)) rfl) rfl rfl ?_
      refine Ch.step (v := (.d (.bool (!(p (q.2.getD q.1 default)))))) rfl (.pure (.not _ _ rfl rfl)) rfl rfl ?_
      refine Ch.nil ?_
      refine T_cond (b := (!(p (q.2.getD q.1 default)))) rfl (fun h3 => ?_) (fun h3 => ?_)
      · replace h3 := nott h3
        refine T_seq ?_
        refine T_region hc ?_
        refine Ch.step (v := (.row 1)) rfl (.pure (.move _ rfl rfl)) rfl rfl ?_
        refine Ch.step (v := (.d (.int .i64 (((keepTo p xs q.1).length : Nat) : Int)))) rfl (.pure (.move _ rfl rfl)) rfl rfl ?_
        refine Ch.step (v := (.d (.str (q.2.getD q.1 default)))) rfl (.pure (.move _ rfl rfl)) rfl rfl ?_
        refine Ch.step (v := (.el 1 1 ((keepTo p xs q.1).length) 0)) rfl (.pure (.idxRow _ _ _ 9 ((keepTo p xs q.1).length) rfl Try.underlying22 sz9 rfl rfl rfl rfl (by first | omega | (simp; omega)))) rfl rfl ?_
        refine Ch.step (v := .junk) rfl (.storeEl (y' := (.str (q.2.getD q.1 default))) _ _ _ rfl rfl rfl (.d _) rfl sz9 rfl (get_map _ (by first | omega | (simp only [List.length_map, List.length_append, List.length_take, List.length_drop, List.length_cons, List.length_nil]; omega) | (simp; omega) | (simp; done))) rfl rfl) rfl rfl ?_
        refine Ch.nil ?_
        refine T_region hc ?_
        refine Ch.step (v := (.d (.int .i64 (((keepTo p xs q.1).length : Nat) : Int)))) rfl (.pure (.move _ rfl rfl)) rfl rfl ?_
        refine Ch.step (v := (.d (.int .i64 ((((keepTo p xs q.1).length : Nat) : Int) + 1)))) rfl (.pure (.int _ _ _ _ _ rfl rfl rfl (intV_add (by first | omega | (simp only [List.length_map, List.length_append, List.length_take, List.length_drop, List.length_cons, List.length_nil]; omega) | (simp; omega) | (simp; done)) (by first | omega | (simp only [List.length_map, List.length_append, List.length_take, List.length_drop, List.length_cons, List.length_nil]; omega) | (simp; omega) | (simp; done))))) rfl rfl ?_
        refine Ch.step (v := (.d (.int .i64 ((((keepTo p xs q.1).length : Nat) : Int) + 1)))) rfl (.pure (.assign _ rfl rfl)) rfl rfl ?_
        refine Ch.nil ?_
        refine T_region hc ?_
        refine Ch.step (v := (.d (.int .i64 ((q.1 : Nat) : Int)))) rfl (.pure (.move _ rfl rfl)) rfl rfl ?_
        refine Ch.step (v := (.d (.int .i64 (((q.1 : Nat) : Int) + 1)))) rfl (.pure (.int _ _ _ _ _ rfl rfl rfl (intV_add (by first | omega | (simp only [List.length_map, List.length_append, List.length_take, List.length_drop, List.length_cons, List.length_nil]; omega) | (simp; omega) | (simp; done)) (by first | omega | (simp only [List.length_map, List.length_append, List.length_take, List.length_drop, List.length_cons, List.length_nil]; omega) | (simp; omega) | (simp; done))))) rfl rfl ?_
        refine Ch.step (v := (.d (.int .i64 (((q.1 : Nat) : Int) + 1)))) rfl (.pure (.assign _ rfl rfl)) rfl rfl ?_
        refine Ch.nil ?_
        refine Exists.intro ((q.1 + 1, q.2.set (keepTo p xs q.1).length (q.2.getD q.1 default))) (And.intro (by first | exact (hp0.keep (by omega) (by assumption)).1 | exact (hp0.skip (by omega) (by assumption)).1) (And.intro (by first | omega | (dsimp only; omega)) (Wk.of rfl rfl (And.intro rfl (And.intro rfl (And.intro (vI (by first | (obtain ⟨k0, hk0, hk1, hk2⟩ := ixF_first h1; have e : (ixF p xs).toNat = k0 := (by omega); dsimp only; rw [e, hk2, hk1, List.length_take, Nat.min_eq_left (by omega)]; done) | (have e := (hp0.keep (by omega) (by assumption)).2; dsimp only; omega) | (have e := (hp0.skip (by omega) (by assumption)).2; dsimp only; omega))) (And.intro (vI (by first | rfl | omega | (simp; done) | (simp; omega))) trivial)))) (And.intro (oR (by first | rfl | (rw [List.map_set]; done))) trivial))))
      · replace h3 := notf h3
        refine T_skip ?_
        refine T_region hc ?_
        refine Ch.step (v := (.d (.int .i64 ((q.1 : Nat) : Int)))) rfl (.pure (.move _ rfl rfl)) rfl rfl ?_
        refine Ch.step (v := (.d (.int .i64 (((q.1 : Nat) : Int) + 1)))) rfl (.pure (.int _ _ _ _ _ rfl rfl rfl (intV_add (by first | omega | (simp only [List.length_map, List.length_append, List.length_take, List.length_drop, List.length_cons, List.length_nil]; omega) | (simp; omega) | (simp; done)) (by first | omega | (simp only [List.length_map, List.length_append, List.length_take, List.length_drop, List.length_cons, List.length_nil]; omega) | (simp; omega) | (simp; done))))) rfl rfl ?_
        refine Ch.step (v := (.d (.int .i64 (((q.1 : Nat) : Int) + 1)))) rfl (.pure (.assign _ rfl rfl)) rfl rfl ?_
        refine Ch.nil ?_
        refine Exists.intro ((q.1 + 1, q.2)) (And.intro (by first | exact (hp0.keep (by omega) (by assumption)).1 | exact (hp0.skip (by omega) (by assumption)).1) (And.intro (by first | omega | (dsimp only; omega)) (Wk.of rfl rfl (And.intro rfl (And.intro rfl (And.intro (vI (by first | (obtain ⟨k0, hk0, hk1, hk2⟩ := ixF_first h1; have e : (ixF p xs).toNat = k0 := (by omega); dsimp only; rw [e, hk2, hk1, List.length_take, Nat.min_eq_left (by omega)]; done) | (have e := (hp0.keep (by omega) (by assumption)).2; dsimp only; omega) | (have e := (hp0.skip (by omega) (by assumption)).2; dsimp only; omega))) (And.intro (vI (by first | rfl | omega | (simp; done) | (simp; omega))) trivial)))) (And.intro (oR (by first | rfl | (rw [List.map_set]; done))) trivial))))
    · replace h2 := of_decide_eq_false h2
      refine T_exit ?_
      refine T_seq ?_
      refine T_region hc ?_
      refine Ch.step (v := (.row 1)) rfl (.pure (.move _ rfl rfl)) rfl rfl ?_
      refine Ch.step (v := (.d (.int .i64 (((keepTo p xs q.1).length : Nat) : Int)))) rfl (.pure (.move _ rfl rfl)) rfl rfl ?_
      refine Ch.step (v := (.sub 1 1 ((keepTo p xs q.1).length) q.2.length)) rfl (.pure (.subRow _ _ _ _ 9 ((keepTo p xs q.1).length) (q.2.length) rfl Try.underlying22 sz9 rfl rfl (bndS rfl rfl) (bndN (by simp)) (by first | omega | (simp only [List.length_map, List.length_append, List.length_take, List.length_drop, List.length_cons, List.length_nil]; omega) | (simp; omega) | (simp; done)) (by first | omega | (simp only [List.length_map, List.length_append, List.length_take, List.length_drop, List.length_cons, List.length_nil]; omega) | (simp; omega) | (simp; done)))) rfl rfl ?_
      refine Ch.step (v := .junk) rfl (.clear _ _ 9 rfl sty22 rfl rfl (by first | omega | (simp only [List.length_map, List.length_append, List.length_take, List.length_drop, List.length_cons, List.length_nil]; omega) | (simp; omega) | (simp; done)) (noUs_map (fun _ => rfl) _) (zeroD_mk (zd := (.str [])) zr9 (by intro S w; rw [DR]; exact ⟨rfl, rfl⟩) rfl)) rfl rfl ?_
      refine Ch.nil ?_
      refine T_seq ?_
      refine T_region hc ?_
      refine Ch.step (v := (.row 1)) rfl (.pure (.move _ rfl rfl)) rfl rfl ?_
      refine Ch.step (v := (.d (.int .i64 (((keepTo p xs q.1).length : Nat) : Int)))) rfl (.pure (.move _ rfl rfl)) rfl rfl ?_
      refine Ch.step (v := (.row 41000)) rfl (.cut 41000 _ _ _ 9 ((keepTo p xs q.1).length) rfl Try.underlying22 sz9 rfl rfl (bndS rfl rfl) (by first | omega | (simp only [List.length_map, List.length_append, List.length_take, List.length_drop, List.length_cons, List.length_nil]; omega) | (simp; omega) | (simp; done)) rfl) rfl rfl ?_
      refine Ch.step (v := (.row 41000)) rfl (.pure (.assign _ rfl rfl)) rfl rfl ?_
      refine Ch.nil ?_
      refine T_ret ?_
      refine And.intro (.inr rfl) ?_
      exact Exists.intro [(.row 41000)] (Exists.intro [] (Exists.intro [41000] (And.intro (.cons (.tmp 4 rfl) .nil) (And.intro (.cons (.any _) (.cons (.any _) .nil)) (And.intro (Exp.of (congrArg (D.slice true 1) (by first | (rw [ixF_all h1]; done) | (rw [take_cut (by simp; omega), ← List.map_take, hp0.done (by omega)]; done) | skip)) (.row rfl)) (And.intro rfl rfl))))))

end Go.AM
