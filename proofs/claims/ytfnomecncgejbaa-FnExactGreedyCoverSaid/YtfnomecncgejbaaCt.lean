/-
  Contracts: GreedyCover.
-/
import Derived.Test.YtfnomecncgejbaaCr
namespace Go.AM
open Go.Proofs
set_option linter.unusedVariables false
set_option linter.unusedSimpArgs false

theorem en112 : Enters Try.prog 112 := ⟨_, Try.func112, by kernel_rfl, rfl⟩
theorem en105 : Enters Try.prog 105 := ⟨_, Try.func105, by kernel_rfl, rfl⟩
theorem en113 : Enters Try.prog 113 := ⟨_, Try.func113, by kernel_rfl, rfl⟩
theorem en106 : Enters Try.prog 106 := ⟨_, Try.func106, by kernel_rfl, rfl⟩
theorem en115 : Enters Try.prog 115 := ⟨_, Try.func115, by kernel_rfl, rfl⟩
theorem en55 : Enters Try.prog 55 := ⟨_, Try.func55, by kernel_rfl, rfl⟩
theorem en56 : Enters Try.prog 56 := ⟨_, Try.func56, by kernel_rfl, rfl⟩

def newP (a : List UInt8) (taken : List (List UInt8)) (u : List UInt8) : Bool := hasB a u && !inB taken u
def newN (a : List UInt8) (on taken : List (List UInt8)) : Nat := (on.filter (newP a taken)).length
def gainN (a : List UInt8) (us : List (List UInt8)) : Nat := (us.filter (hasB a)).length
def leftL (on taken : List (List UInt8)) : List (List UInt8) := on.filter fun u => !inB taken u
theorem gain_left (a : List UInt8) (on taken : List (List UInt8)) : gainN a (leftL on taken) = newN a on taken := by
  unfold gainN leftL newN newP
  rw [List.filter_filter]
theorem left_next (on taken : List (List UInt8)) (a : List UInt8) : (leftL on taken).filter (fun u => !(fun u => hasB a u) u) = leftL on (taken ++ [a]) := by
  unfold leftL inB
  rw [List.filter_filter]
  congr 1; funext u
  rw [List.any_append]
  cases (taken.any fun b => hasB b u) <;> cases h : hasB a u <;> simp [h]
theorem left_less {a : List UInt8} {on taken : List (List UInt8)} (h : 0 < newN a on taken) : (leftL on (taken ++ [a])).length < (leftL on taken).length := by
  rw [← gain_left] at h
  rw [← left_next]
  have := List.length_eq_countP_add_countP (l := leftL on taken) (p := hasB a)
  rw [List.countP_eq_length_filter, List.countP_eq_length_filter] at this
  unfold gainN at h
  have e : (leftL on taken).filter (fun u => !(fun u => hasB a u) u) = (leftL on taken).filter (fun u => decide ¬ hasB a u = true) := by
    congr 1; funext u; show (!hasB a u) = decide ¬ hasB a u = true; cases hasB a u <;> simp
  rw [e]; omega
theorem new_le {a : List UInt8} {on taken : List (List UInt8)} (h : leftL on taken = []) : newN a on taken = 0 := by
  rw [← gain_left, h]; rfl
theorem left_nil (on : List (List UInt8)) : leftL on [] = on := by
  unfold leftL; rw [List.filter_eq_self]; intro u _; rfl
def pickQ (on taken : List (List UInt8)) (best p : List UInt8) : Prop := 0 < newN p on taken ∧ (best = [] ∨ newN best on taken < newN p on taken ∨ (newN p on taken = newN best on taken ∧ lits [p] < lits [best]))
instance (on taken : List (List UInt8)) (best p : List UInt8) : Decidable (pickQ on taken best p) := by unfold pickQ; infer_instance
def pickTo (on l taken : List (List UInt8)) : Nat → List UInt8
  | 0 => []
  | k + 1 => if pickQ on taken (pickTo on l taken k) (l.getD k default) then l.getD k default else pickTo on l taken k
def pick (on l taken : List (List UInt8)) : List UInt8 := pickTo on l taken l.length
theorem pick_yes {on l taken k} (h : pickQ on taken (pickTo on l taken k) (l.getD k default)) : pickTo on l taken (k + 1) = l.getD k default := by rw [pickTo, if_pos h]
theorem pick_no {on l taken k} (h : ¬ pickQ on taken (pickTo on l taken k) (l.getD k default)) : pickTo on l taken (k + 1) = pickTo on l taken k := by rw [pickTo, if_neg h]
theorem pickTo_new {on l taken} : ∀ k, pickTo on l taken k ≠ [] → 0 < newN (pickTo on l taken k) on taken
  | 0, h => absurd rfl h
  | k + 1, h => by
    by_cases hq : pickQ on taken (pickTo on l taken k) (l.getD k default)
    · rw [pick_yes hq]; exact hq.1
    · rw [pick_no hq] at h ⊢; exact pickTo_new k h
theorem pickTo_mem {on l taken} : ∀ k, k ≤ l.length → pickTo on l taken k ≠ [] → pickTo on l taken k ∈ l
  | 0, _, h => absurd rfl h
  | k + 1, hk, h => by
    by_cases hq : pickQ on taken (pickTo on l taken k) (l.getD k default)
    · rw [pick_yes hq]; exact getD_mem (by omega)
    · rw [pick_no hq] at h ⊢; exact pickTo_mem k (by omega) h
theorem pickTo_len {on l taken} {m : Nat} (hl : ∀ p ∈ l, p.length ≤ m) : ∀ k, k ≤ l.length → (pickTo on l taken k).length ≤ m := fun k hk => by
  by_cases h : pickTo on l taken k = []
  · rw [h]; simp
  · exact hl _ (pickTo_mem k hk h)
theorem pickTo_none {on l taken} (hne : ∀ p ∈ l, p ≠ []) : ∀ k, k ≤ l.length → pickTo on l taken k = [] → ∀ j, j < k → newN (l.getD j default) on taken = 0
  | 0, _, _, j, hj => by omega
  | k + 1, hk, h, j, hj => by
    by_cases hq : pickQ on taken (pickTo on l taken k) (l.getD k default)
    · rw [pick_yes hq] at h; exact absurd h (hne _ (getD_mem (by omega)))
    · rw [pick_no hq] at h
      by_cases e : j = k
      · subst e
        apply Nat.eq_zero_of_not_pos
        intro hp
        exact hq ⟨hp, .inl h⟩
      · exact pickTo_none hne k (by omega) h j (by omega)
def mostTo (on l taken : List (List UInt8)) (k : Nat) : Nat := if pickTo on l taken k = [] then 0 else newN (pickTo on l taken k) on taken
theorem most_new {on l taken} (k : Nat) : (pickTo on l taken k = [] ∧ mostTo on l taken k = 0) ∨ (pickTo on l taken k ≠ [] ∧ mostTo on l taken k = newN (pickTo on l taken k) on taken ∧ 0 < newN (pickTo on l taken k) on taken) := by
  unfold mostTo
  by_cases h : pickTo on l taken k = []
  · exact .inl ⟨h, if_pos h⟩
  · exact .inr ⟨h, if_neg h, pickTo_new k h⟩
theorem most_yes {on l taken} {k : Nat} (hne : l.getD k default ≠ []) (h : mostTo on l taken k < newN (l.getD k default) on taken ∨ (newN (l.getD k default) on taken = mostTo on l taken k ∧ 0 < newN (l.getD k default) on taken ∧ lits [l.getD k default] < lits [pickTo on l taken k])) :
    pickTo on l taken (k + 1) = l.getD k default ∧ mostTo on l taken (k + 1) = newN (l.getD k default) on taken := by
  have hq : pickQ on taken (pickTo on l taken k) (l.getD k default) := by
    rcases most_new (on := on) (l := l) (taken := taken) k with ⟨h1, h2⟩ | ⟨h1, h2, h3⟩
    · exact ⟨by omega, .inl h1⟩
    · refine ⟨by omega, ?_⟩
      rcases h with h | h
      · exact .inr (.inl (by omega))
      · exact .inr (.inr ⟨by omega, h.2.2⟩)
  have e := pick_yes hq
  refine ⟨e, ?_⟩
  unfold mostTo
  rw [e, if_neg hne]
theorem most_no {on l taken} {k : Nat} (h : ¬ (mostTo on l taken k < newN (l.getD k default) on taken ∨ (newN (l.getD k default) on taken = mostTo on l taken k ∧ 0 < newN (l.getD k default) on taken ∧ lits [l.getD k default] < lits [pickTo on l taken k]))) :
    pickTo on l taken (k + 1) = pickTo on l taken k ∧ mostTo on l taken (k + 1) = mostTo on l taken k := by
  have hq : ¬ pickQ on taken (pickTo on l taken k) (l.getD k default) := by
    rintro ⟨g1, g2⟩
    apply h
    rcases most_new (on := on) (l := l) (taken := taken) k with ⟨h1, h2⟩ | ⟨h1, h2, h3⟩
    · exact .inl (by omega)
    · rcases g2 with g2 | g2 | g2
      · exact absurd g2 h1
      · exact .inl (by omega)
      · exact .inr ⟨by omega, g1, g2.2⟩
  have e := pick_no hq
  refine ⟨e, ?_⟩
  unfold mostTo
  rw [e]
def grd (on l : List (List UInt8)) : Nat → List (List UInt8) → List (List UInt8)
  | 0, taken => taken
  | f + 1, taken => if pick on l taken = [] then taken else grd on l f (taken ++ [pick on l taken])
def greedyL (on l : List (List UInt8)) : List (List UInt8) := grd on l on.length []
theorem grd_le (on l : List (List UInt8)) : ∀ f taken, (grd on l f taken).length ≤ taken.length + f
  | 0, taken => Nat.le_refl _
  | f + 1, taken => by
    rw [grd]; split
    · omega
    · have := grd_le on l f (taken ++ [pick on l taken]); simp at this; omega
structure GrdInv (on l : List (List UInt8)) (q : Nat × List (List UInt8)) : Prop where
  eq : grd on l q.1 q.2 = greedyL on l
  left : (leftL on q.2).length ≤ q.1
  len : q.2.length + q.1 = on.length
  sub : ∀ a ∈ q.2, a ∈ l
theorem GrdInv.start (on l : List (List UInt8)) : GrdInv on l (on.length, []) := ⟨rfl, by rw [left_nil]; exact Nat.le_refl _, by simp, fun a h => by cases h⟩
theorem GrdInv.next {on l q} (h : GrdInv on l q) (hp : pick on l q.2 ≠ []) : 0 < q.1 ∧ GrdInv on l (q.1 - 1, q.2 ++ [pick on l q.2]) := by
  have h1 : 0 < newN (pick on l q.2) on q.2 := pickTo_new _ hp
  have h2 := left_less h1
  have h3 := h.left
  have hpos : 0 < q.1 := by omega
  refine ⟨hpos, ?_, by dsimp only; omega, by have := h.len; simp; omega, ?_⟩
  · rw [← h.eq, show q.1 = (q.1 - 1) + 1 by omega]
    show grd on l (q.1 - 1) _ = grd on l (q.1 - 1 + 1) q.2
    rw [grd, if_neg hp]
  · intro a ha
    rcases List.mem_append.1 ha with ha | ha
    · exact h.sub a ha
    · rw [List.mem_singleton.1 ha]; exact pickTo_mem _ (Nat.le_refl _) hp
theorem GrdInv.stop {on l q} (h : GrdInv on l q) (hp : pick on l q.2 = []) : q.2 = greedyL on l := by
  rw [← h.eq]
  cases hq : q.1 with
  | zero => rfl
  | succ f => rw [grd, if_pos hp]
/-- Each code that is on lies in some cube. -/
def Covs (on l : List (List UInt8)) : Prop := ∀ u ∈ on, ∃ p ∈ l, hasB p u = true
theorem pick_left {on l taken : List (List UInt8)} (hc : Covs on l) (hne : ∀ p ∈ l, p ≠ []) : pick on l taken = [] ↔ leftL on taken = [] := by
  constructor
  · intro h
    apply Classical.byContradiction
    intro hl
    obtain ⟨u, hu⟩ := List.exists_mem_of_ne_nil _ hl
    have hu2 := List.mem_filter.1 hu
    obtain ⟨p, hp, hh⟩ := hc u hu2.1
    obtain ⟨j, hj, rfl⟩ := List.mem_iff_getElem.1 hp
    have h0 := pickTo_none hne _ (Nat.le_refl _) h j hj
    rw [show l.getD j default = l[j] by simp [hj], ← gain_left] at h0
    unfold gainN at h0
    have : u ∈ (leftL on taken).filter (hasB l[j]) := List.mem_filter.2 ⟨hu, hh⟩
    rw [List.eq_nil_of_length_eq_zero h0] at this
    cases this
  · intro h
    apply Classical.byContradiction
    intro hp
    have h1 : 0 < newN (pick on l taken) on taken := pickTo_new _ hp
    rw [new_le h] at h1; omega

theorem dash_set {a : List UInt8} {j : Nat} (h : j < a.length) : dashAt a j = a.set j 45 := by
  rw [List.set_eq_take_append_cons_drop, if_pos h]; simp [dashAt]
def okC (n : Nat) (c : List UInt8) : Prop := c.length = n ∧ ∀ x ∈ c, x = 45 ∨ x = 48 ∨ x = 49
theorem mem_cubes : ∀ (n : Nat) (c : List UInt8), okC n c → c ∈ cubes n
  | 0, c, h => by
    have : c = [] := List.eq_nil_of_length_eq_zero h.1
    subst this; simp [cubes]
  | n + 1, c, h => by
    have hne : c ≠ [] := by intro e; have := h.1; rw [e] at this; simp at this
    have e := List.dropLast_concat_getLast hne
    rw [cubes, List.mem_flatMap]
    refine ⟨c.dropLast, mem_cubes n _ ⟨by rw [List.length_dropLast, h.1]; rfl, fun x hx => h.2 x (List.dropLast_subset _ hx)⟩, ?_⟩
    have hl := h.2 _ (List.getLast_mem hne)
    unfold three
    rcases hl with hl | hl | hl <;> rw [hl] at e <;> simp [e]
theorem dash_ok {n : Nat} {c : List UInt8} (h : okC n c) {j : Nat} (hj : j < c.length) : okC n (dashAt c j) := by
  rw [dash_set hj]
  refine ⟨by rw [List.length_set]; exact h.1, fun x hx => ?_⟩
  rcases List.mem_or_eq_of_mem_set hx with hx | rfl
  · exact h.2 x hx
  · exact .inl rfl
theorem dash_has {c u : List UInt8} (h : hasB c u = true) {j : Nat} (hj : j < c.length) : hasB (dashAt c j) u = true := by
  rw [dash_set hj]
  have h := allB_true.1 h
  refine allB_of fun i hi => ?_
  rw [List.length_set] at hi
  by_cases e : i = j
  · subst e; simp [hasCh, hi]
  · have := h i hi
    have e2 : (c.set j 45).getD i 0 = c.getD i 0 := by
      simp only [List.getD_eq_getElem?_getD, List.getElem?_set_ne (Ne.symm e)]
    rw [e2]; exact this
theorem dash_less {c : List UInt8} {j : Nat} (hj : j < c.length) (h : isLit c j = true) : (dashAt c j).countP (fun x => x != 45) < c.countP (fun x => x != 45) := by
  have e : c = c.take j ++ c[j] :: c.drop (j + 1) := by simp
  have h1 : (c[j] != 45) = true := by simpa [isLit, hj] using h
  conv => rhs; rw [e]
  rw [dashAt, List.countP_append, List.countP_append, List.countP_append, List.countP_cons_of_pos (p := fun x => x != 45) h1]
  simp
theorem prime_of {n : Nat} {on off : List (List UInt8)} {u : List UInt8} (hu : u ∈ on) : ∀ (m : Nat) (c : List UInt8), c.countP (fun x => x != 45) ≤ m → okC n c → hasB c u = true → anyB c off = false → ∃ p ∈ primL n on off, hasB p u = true := by
  intro m
  induction m with
  | zero =>
    intro c hm hc h1 h2
    refine ⟨c, List.mem_filter.2 ⟨mem_cubes n c hc, ?_⟩, h1⟩
    have hp : primeB c off = true := by
      refine allB_of fun j hj => ?_
      have hnl : isLit c j = false := by
        cases h : isLit c j with
        | false => rfl
        | true => have := dash_less hj h; omega
      rw [hnl]; rfl
    rw [primP, h2, hp]
    have : anyB c on = true := List.any_eq_true.2 ⟨u, hu, h1⟩
    rw [this]; rfl
  | succ m ih =>
    intro c hm hc h1 h2
    cases hp : primeB c off with
    | true =>
      refine ⟨c, List.mem_filter.2 ⟨mem_cubes n c hc, ?_⟩, h1⟩
      rw [primP, h2, hp]
      have : anyB c on = true := List.any_eq_true.2 ⟨u, hu, h1⟩
      rw [this]; rfl
    | false =>
      have hno : ¬ ∀ j, j < c.length → (!(isLit c j && !anyB (dashAt c j) off)) = true := fun h => by
        rw [primeB, allB_of h] at hp; cases hp
      simp only [Classical.not_forall] at hno
      obtain ⟨j, hj, hn⟩ := hno
      have hn2 : isLit c j = true ∧ anyB (dashAt c j) off = false := by
        cases ha : isLit c j <;> cases hb : anyB (dashAt c j) off <;> simp [ha, hb] at hn ⊢
      exact ih (dashAt c j) (by have := dash_less hj hn2.1; omega) (dash_ok hc hj) (dash_has h1 hj) hn2.2
theorem codesB_ch {n : Int} {xs : List (List UInt8)} (h : codesB n xs = true) : ∀ u ∈ xs, ∀ x ∈ u, x = 48 ∨ x = 49 := by
  intro u hu x hx
  obtain ⟨j, hj, rfl⟩ := List.mem_iff_getElem.1 hu
  have h1 := allB_true.1 h j hj
  have e : xs.getD j default = xs[j] := by simp [hj]
  rw [e] at h1
  unfold codeN at h1
  simp only [Bool.and_eq_true] at h1
  obtain ⟨i, hi, rfl⟩ := List.mem_iff_getElem.1 hx
  have h2 := allB_true.1 h1.1.1 i hi
  simpa [codeCh, hi] using h2
theorem prim_covers {n : Int} {on off : List (List UInt8)} (h : onoffB n on off = true) : Covs on (primL n.toNat on off) := by
  intro u hu
  have hop := onoff_parts h
  have hl := hop.2.2.2.1 u hu
  unfold onoffB at h
  simp only [Bool.and_eq_true] at h
  have hch := codesB_ch h.2.2.2.1 u hu
  have hch2 := codesB_ch h.2.2.2.2.1
  have hno := h.2.2.2.2.2
  refine prime_of hu (u.countP fun x => x != 45) u (Nat.le_refl _) ⟨by omega, fun x hx => .inr (hch x hx)⟩ ?_ ?_
  · exact allB_of fun j hj => by simp [hasCh]
  · unfold anyB
    rw [List.any_eq_false]
    intro v hv hh
    have hvl := hop.2.2.2.2 v hv
    have e : u = v := by
      apply List.ext_getElem (by omega)
      intro j h1 h2
      have h3 := allB_true.1 hh j h1
      have h4 := hch u[j] (List.getElem_mem h1)
      have h5 : ¬ u[j] = 45 := by rcases h4 with h4 | h4 <;> rw [h4] <;> decide
      simpa [hasCh, h1, h2, h5] using h3
    subst e
    obtain ⟨j, hj, hje⟩ := List.mem_iff_getElem.1 hu
    have h6 := allB_true.1 hno j hj
    rw [show on.getD j default = u by simp [hj, hje]] at h6
    have h7 : hasS off u = true := List.any_eq_true.2 ⟨u, hv, by simp⟩
    simp [h7] at h6

theorem sp_spec_l14New (a : List UInt8) (on taken : List (List UInt8)) (hon : on.length ≤ 1048576) (hta : taken.length ≤ 1048576) (ha : a.length ≤ 1048576) (hx : ∀ u ∈ on, a.length ≤ u.length ∧ u.length ≤ 1048576 ∧ ∀ b ∈ taken, b.length ≤ u.length) : Sp Try.prog 112 [(.str a), (.slice false 1 (on.map D.str)), (.slice false 1 (taken.map D.str))] [.any, .any, .any] (.int .i64 ((newN a on taken : Nat) : Int)) := by
  refine Sp_intro (lend := true) Try.func112 rfl rfl rfl (fun _ => rfl) (fun c hc hX => ?_)
  refine T_seq ?_
  refine T_region hc ?_
  refine Ch.step (v := (.d (.int .i64 0))) rfl (.pure (.assign _ rfl rfl)) rfl rfl ?_
  refine Ch.nil ?_
  refine T_seq ?_
  refine T_region hc ?_
  refine Ch.step (v := (.d (.int .i64 0))) rfl (.pure (.assign _ rfl rfl)) rfl rfl ?_
  refine Ch.nil ?_
  refine T_seq ?_
  refine T_seq ?_
  refine T_region hc ?_
  refine Ch.step (v := (.d (.slice false 1 (on.map D.str)))) rfl (.pure (.move _ rfl rfl)) rfl rfl ?_
  refine Ch.step (v := (.d (.int .i64 ((on.length : Nat) : Int)))) rfl (.pure (.len _ _ 9 rfl Try.underlying22 (.sh _ _) (by simp))) rfl rfl ?_
  refine Ch.step (v := (.d (.int .i64 0))) rfl (.pure (.move _ rfl rfl)) rfl rfl ?_
  refine Ch.nil ?_
  refine T_block ?_
  refine T_loop (ι := Nat) (fun k => { n := 29, sl := [(0, (.d (.str a))), (2, (.d (.slice false 1 (taken.map D.str)))), (7, (.d (.int .i64 (((ftake (newP a taken) on k).length : Nat) : Int)))), (10, (.d (.slice false 1 (on.map D.str)))), (11, (.d (.int .i64 ((on.length : Nat) : Int)))), (12, (.d (.int .i64 ((k : Nat) : Int))))], hp := [], pin := [] }) (fun k => k ≤ on.length) (fun k => on.length - k) ⟨0, (by omega), (Wk.of rfl rfl (And.intro rfl (And.intro rfl (And.intro (vI (by first | rfl | (rw [← ftake_yes (by omega) (by rw [newP]; simp_all)]; simp; done) | (rw [← ftake_no (by omega) (by rw [newP]; simp_all)]; done))) (And.intro rfl (And.intro rfl (And.intro (vI (by first | rfl | omega | (simp; done) | (simp; omega))) trivial)))))) trivial)⟩ (fun k hp0 => ?_)
  have hq := ftake_le (newP a taken) on k
  refine T_seq ?_
  refine T_region hc ?_
  refine Ch.step (v := (.d (.bool (decide (((k : Nat) : Int) < ((on.length : Nat) : Int)))))) rfl (.pure (.int _ _ _ _ _ rfl rfl rfl rfl)) rfl rfl ?_
  refine Ch.nil ?_
  refine T_seq ?_
  refine T_cond (b := (decide (((k : Nat) : Int) < ((on.length : Nat) : Int)))) rfl (fun h1 => ?_) (fun h1 => ?_)
  · replace h1 := of_decide_eq_true h1
    try have hk := hx _ (getD_mem (l := on) (j := k) (d := default) (by omega))
    try have hk1 := hk.1
    try have hk2 := hk.2.1
    try have hk3 := hk.2.2
    refine T_skip ?_
    refine T_seq ?_
    refine T_block ?_
    refine T_seq ?_
    refine T_region hc ?_
    refine Ch.step (v := (.d (.ref (.str (on.getD k default))))) rfl (.pure (.idx _ _ _ 9 (k) rfl Try.underlying22 sz9 rfl rfl rfl (get_map _ (by first | omega | (simp only [List.length_map, List.length_append, List.length_take, List.length_drop, List.length_cons, List.length_nil]; omega) | (simp; omega) | (simp; done))))) rfl rfl ?_
    refine Ch.step (v := (.d (.str (on.getD k default)))) rfl (.pure (.loadRef1 _ _ rfl ag9 rfl rfl)) rfl rfl ?_
    refine Ch.step (v := (.d (.str (on.getD k default)))) rfl (.pure (.assign _ rfl rfl)) rfl rfl ?_
    refine Ch.nil ?_
    refine T_seq ?_
    refine T_region hc ?_
    refine Ch.step (v := (.d (.str a))) rfl (.pure (.move _ rfl rfl)) rfl rfl ?_
    refine Ch.step (v := (.d (.str (on.getD k default)))) rfl (.pure (.move _ rfl rfl)) rfl rfl ?_
    refine Ch.step (v := (.d (.bool (hasB a (on.getD k default))))) rfl (.call 18000 158 _ _ _ en158 rfl (.inl rfl) (.cons (.d _) (.cons (.d _) .nil)) rfl rfl (sp_spec_l13Has a (on.getD k default) (by first | omega | assumption | (exact hx _ (getD_mem (by omega))) | (exact hx _ (by assumption)) | (exact Nat.le_trans (hx _ (by assumption)) (by omega)) | (simp only [List.length_append, List.length_take, List.length_drop, List.length_cons, List.length_nil]; omega) | (simp_all; done)) (by first | omega | assumption | (exact hx _ (getD_mem (by omega))) | (exact hx _ (by assumption)) | (exact Nat.le_trans (hx _ (by assumption)) (by omega)) | (simp only [List.length_append, List.length_take, List.length_drop, List.length_cons, List.length_nil]; omega) | (simp_all; done))) (.skip _ _ (.skip _ _ .nil)) rfl) rfl rfl ?_
    refine Ch.step (v := (.d (.bool (hasB a (on.getD k default))))) rfl (.pure (.move _ rfl rfl)) rfl rfl ?_
    cases h2 : (hasB a (on.getD k default)) with
    | true =>
      refine Ch.step (v := (.d (.slice false 1 (taken.map D.str)))) rfl (.pure (.move _ rfl rfl)) rfl rfl ?_
      refine Ch.step (v := (.d (.str (on.getD k default)))) rfl (.pure (.move _ rfl rfl)) rfl rfl ?_
      refine Ch.step (v := (.d (.bool (inB taken (on.getD k default))))) rfl (.call 22000 119 _ _ _ en119 rfl (.inl rfl) (.cons (.d _) (.cons (.d _) .nil)) rfl rfl (sp_spec_l13In taken (on.getD k default) (by first | omega | assumption | (exact hx _ (getD_mem (by omega))) | (exact hx _ (by assumption)) | (exact Nat.le_trans (hx _ (by assumption)) (by omega)) | (simp only [List.length_append, List.length_take, List.length_drop, List.length_cons, List.length_nil]; omega) | (simp_all; done)) (by first | omega | assumption | (exact hx _ (getD_mem (by omega))) | (exact hx _ (by assumption)) | (exact Nat.le_trans (hx _ (by assumption)) (by omega)) | (simp only [List.length_append, List.length_take, List.length_drop, List.length_cons, List.length_nil]; omega) | (simp_all; done)) (by first | omega | assumption | (exact hx _ (getD_mem (by omega))) | (exact hx _ (by assumption)) | (exact Nat.le_trans (hx _ (by assumption)) (by omega)) | (simp only [List.length_append, List.length_take, List.length_drop, List.length_cons, List.length_nil]; omega) | (simp_all; done))) (.skip _ _ (.skip _ _ .nil)) rfl) rfl rfl ?_
      refine Ch.step (v := (.d (.bool (!(inB taken (on.getD k default)))))) rfl (.pure (.not _ _ rfl rfl)) rfl rfl ?_
      refine Ch.step (v := (.d (.bool (!(inB taken (on.getD k default)))))) rfl (.pure (.pickT _ _ _ rfl rfl rfl)) rfl rfl ?_
      refine Ch.nil ?_
      refine T_cond (b := (!(inB taken (on.getD k default)))) rfl (fun h3 => ?_) (fun h3 => ?_)
      · replace h3 := nott h3
        refine T_region hc ?_
        refine Ch.step (v := (.d (.int .i64 (((ftake (newP a taken) on k).length : Nat) : Int)))) rfl (.pure (.move _ rfl rfl)) rfl rfl ?_
        refine Ch.step (v := (.d (.int .i64 ((((ftake (newP a taken) on k).length : Nat) : Int) + 1)))) rfl (.pure (.int _ _ _ _ _ rfl rfl rfl (intV_add (by first | omega | (simp only [List.length_map, List.length_append, List.length_take, List.length_drop, List.length_cons, List.length_nil]; omega) | (simp; omega) | (simp; done)) (by first | omega | (simp only [List.length_map, List.length_append, List.length_take, List.length_drop, List.length_cons, List.length_nil]; omega) | (simp; omega) | (simp; done))))) rfl rfl ?_
        refine Ch.step (v := (.d (.int .i64 ((((ftake (newP a taken) on k).length : Nat) : Int) + 1)))) rfl (.pure (.assign _ rfl rfl)) rfl rfl ?_
        refine Ch.nil ?_
        refine T_region hc ?_
        refine Ch.step (v := (.d (.int .i64 (((k : Nat) : Int) + 1)))) rfl (.pure (.int _ _ _ _ _ rfl rfl rfl (intV_add (by first | omega | (simp only [List.length_map, List.length_append, List.length_take, List.length_drop, List.length_cons, List.length_nil]; omega) | (simp; omega) | (simp; done)) (by first | omega | (simp only [List.length_map, List.length_append, List.length_take, List.length_drop, List.length_cons, List.length_nil]; omega) | (simp; omega) | (simp; done))))) rfl rfl ?_
        refine Ch.step (v := (.d (.int .i64 (((k : Nat) : Int) + 1)))) rfl (.pure (.move _ rfl rfl)) rfl rfl ?_
        refine Ch.nil ?_
        refine Exists.intro (k + 1) (And.intro (by omega) (And.intro (by first | omega | (dsimp only; omega)) (Wk.of rfl rfl (And.intro rfl (And.intro rfl (And.intro (vI (by first | rfl | (rw [← ftake_yes (by omega) (by rw [newP]; simp_all)]; simp; done) | (rw [← ftake_no (by omega) (by rw [newP]; simp_all)]; done))) (And.intro rfl (And.intro rfl (And.intro (vI (by first | rfl | omega | (simp; done) | (simp; omega))) trivial)))))) trivial)))
      · replace h3 := notf h3
        refine T_skip ?_
        refine T_region hc ?_
        refine Ch.step (v := (.d (.int .i64 (((k : Nat) : Int) + 1)))) rfl (.pure (.int _ _ _ _ _ rfl rfl rfl (intV_add (by first | omega | (simp only [List.length_map, List.length_append, List.length_take, List.length_drop, List.length_cons, List.length_nil]; omega) | (simp; omega) | (simp; done)) (by first | omega | (simp only [List.length_map, List.length_append, List.length_take, List.length_drop, List.length_cons, List.length_nil]; omega) | (simp; omega) | (simp; done))))) rfl rfl ?_
        refine Ch.step (v := (.d (.int .i64 (((k : Nat) : Int) + 1)))) rfl (.pure (.move _ rfl rfl)) rfl rfl ?_
        refine Ch.nil ?_
        refine Exists.intro (k + 1) (And.intro (by omega) (And.intro (by first | omega | (dsimp only; omega)) (Wk.of rfl rfl (And.intro rfl (And.intro rfl (And.intro (vI (by first | rfl | (rw [← ftake_yes (by omega) (by rw [newP]; simp_all)]; simp; done) | (rw [← ftake_no (by omega) (by rw [newP]; simp_all)]; done))) (And.intro rfl (And.intro rfl (And.intro (vI (by first | rfl | omega | (simp; done) | (simp; omega))) trivial)))))) trivial)))
    | false =>
      refine Ch.skip rfl rfl ?_
      refine Ch.skip rfl rfl ?_
      refine Ch.skip rfl rfl ?_
      refine Ch.skip rfl rfl ?_
      refine Ch.step (v := (.d (.bool false))) rfl (.pure (.pickF _ _ _ rfl rfl rfl)) rfl rfl ?_
      refine Ch.nil ?_
      refine T_cond (b := false) rfl (fun h => nomatch h) (fun _ => ?_)
      refine T_skip ?_
      refine T_region hc ?_
      refine Ch.step (v := (.d (.int .i64 (((k : Nat) : Int) + 1)))) rfl (.pure (.int _ _ _ _ _ rfl rfl rfl (intV_add (by first | omega | (simp only [List.length_map, List.length_append, List.length_take, List.length_drop, List.length_cons, List.length_nil]; omega) | (simp; omega) | (simp; done)) (by first | omega | (simp only [List.length_map, List.length_append, List.length_take, List.length_drop, List.length_cons, List.length_nil]; omega) | (simp; omega) | (simp; done))))) rfl rfl ?_
      refine Ch.step (v := (.d (.int .i64 (((k : Nat) : Int) + 1)))) rfl (.pure (.move _ rfl rfl)) rfl rfl ?_
      refine Ch.nil ?_
      refine Exists.intro (k + 1) (And.intro (by omega) (And.intro (by first | omega | (dsimp only; omega)) (Wk.of rfl rfl (And.intro rfl (And.intro rfl (And.intro (vI (by first | rfl | (rw [← ftake_yes (by omega) (by rw [newP]; simp_all)]; simp; done) | (rw [← ftake_no (by omega) (by rw [newP]; simp_all)]; done))) (And.intro rfl (And.intro rfl (And.intro (vI (by first | rfl | omega | (simp; done) | (simp; omega))) trivial)))))) trivial)))
  · replace h1 := of_decide_eq_false h1
    try have hk := hx _ (getD_mem (l := on) (j := k) (d := default) (by omega))
    try have hk1 := hk.1
    try have hk2 := hk.2.1
    try have hk3 := hk.2.2
    refine T_exit ?_
    refine T_seq ?_
    refine T_region hc ?_
    refine Ch.step (v := (.d (.int .i64 (((ftake (newP a taken) on k).length : Nat) : Int)))) rfl (.pure (.move _ rfl rfl)) rfl rfl ?_
    refine Ch.step (v := (.d (.int .i64 (((ftake (newP a taken) on k).length : Nat) : Int)))) rfl (.pure (.assign _ rfl rfl)) rfl rfl ?_
    refine Ch.nil ?_
    refine T_ret ?_
    refine And.intro (.inr rfl) ?_
    exact Exists.intro [(.d (.int .i64 (((ftake (newP a taken) on k).length : Nat) : Int)))] (Exists.intro [] (Exists.intro [] (And.intro (.cons (.tmp 6 rfl) .nil) (And.intro (.cons (.any _) (.cons (.any _) (.cons (.any _) .nil))) (And.intro (Exp.of (congrArg (D.int .i64) (by rw [newN, ← ftake_all (k := k) (by omega)])) (.d _)) (And.intro rfl rfl))))))

theorem sp_impl_gain (a : List UInt8) (us : List (List UInt8)) (hn : us.length ≤ 1048576) (ha : a.length ≤ 1048576) (hx : ∀ u ∈ us, a.length ≤ u.length) : Sp Try.prog 113 [(.str a), (.slice false 1 (us.map D.str))] [.any, .any] (.int .i64 ((gainN a us : Nat) : Int)) := by
  refine Sp_intro (lend := true) Try.func113 rfl rfl rfl (fun _ => rfl) (fun c hc hX => ?_)
  refine T_seq ?_
  refine T_region hc ?_
  refine Ch.step (v := (.d (.int .i64 0))) rfl (.pure (.assign _ rfl rfl)) rfl rfl ?_
  refine Ch.nil ?_
  refine T_seq ?_
  refine T_region hc ?_
  refine Ch.step (v := (.d (.int .i64 0))) rfl (.pure (.assign _ rfl rfl)) rfl rfl ?_
  refine Ch.nil ?_
  refine T_seq ?_
  refine T_seq ?_
  refine T_region hc ?_
  refine Ch.step (v := (.d (.slice false 1 (us.map D.str)))) rfl (.pure (.move _ rfl rfl)) rfl rfl ?_
  refine Ch.step (v := (.d (.int .i64 ((us.length : Nat) : Int)))) rfl (.pure (.len _ _ 9 rfl Try.underlying22 (.sh _ _) (by simp))) rfl rfl ?_
  refine Ch.step (v := (.d (.int .i64 0))) rfl (.pure (.move _ rfl rfl)) rfl rfl ?_
  refine Ch.nil ?_
  refine T_block ?_
  refine T_loop (ι := Nat) (fun k => { n := 21, sl := [(0, (.d (.str a))), (5, (.d (.int .i64 (((ftake (hasB a) us k).length : Nat) : Int)))), (8, (.d (.slice false 1 (us.map D.str)))), (9, (.d (.int .i64 ((us.length : Nat) : Int)))), (10, (.d (.int .i64 ((k : Nat) : Int))))], hp := [], pin := [] }) (fun k => k ≤ us.length) (fun k => us.length - k) ⟨0, (by omega), (Wk.of rfl rfl (And.intro rfl (And.intro (vI (by first | rfl | (rw [← ftake_yes (by omega) (by assumption)]; simp; done) | (rw [← ftake_no (by omega) (by assumption)]; done))) (And.intro rfl (And.intro rfl (And.intro (vI (by first | rfl | omega | (simp; done) | (simp; omega))) trivial))))) trivial)⟩ (fun k hp0 => ?_)
  have hq := ftake_le (hasB a) us k
  refine T_seq ?_
  refine T_region hc ?_
  refine Ch.step (v := (.d (.bool (decide (((k : Nat) : Int) < ((us.length : Nat) : Int)))))) rfl (.pure (.int _ _ _ _ _ rfl rfl rfl rfl)) rfl rfl ?_
  refine Ch.nil ?_
  refine T_seq ?_
  refine T_cond (b := (decide (((k : Nat) : Int) < ((us.length : Nat) : Int)))) rfl (fun h1 => ?_) (fun h1 => ?_)
  · replace h1 := of_decide_eq_true h1
    try have hk := hx _ (getD_mem (l := us) (j := k) (d := default) (by omega))
    refine T_skip ?_
    refine T_seq ?_
    refine T_block ?_
    refine T_seq ?_
    refine T_region hc ?_
    refine Ch.step (v := (.d (.ref (.str (us.getD k default))))) rfl (.pure (.idx _ _ _ 9 (k) rfl Try.underlying22 sz9 rfl rfl rfl (get_map _ (by first | omega | (simp only [List.length_map, List.length_append, List.length_take, List.length_drop, List.length_cons, List.length_nil]; omega) | (simp; omega) | (simp; done))))) rfl rfl ?_
    refine Ch.step (v := (.d (.str (us.getD k default)))) rfl (.pure (.loadRef1 _ _ rfl ag9 rfl rfl)) rfl rfl ?_
    refine Ch.step (v := (.d (.str (us.getD k default)))) rfl (.pure (.assign _ rfl rfl)) rfl rfl ?_
    refine Ch.nil ?_
    refine T_seq ?_
    refine T_region hc ?_
    refine Ch.step (v := (.d (.str a))) rfl (.pure (.move _ rfl rfl)) rfl rfl ?_
    refine Ch.step (v := (.d (.str (us.getD k default)))) rfl (.pure (.move _ rfl rfl)) rfl rfl ?_
    refine Ch.step (v := (.d (.bool (hasB a (us.getD k default))))) rfl (.call 16000 116 _ _ _ en116 rfl (.inl rfl) (.cons (.d _) (.cons (.d _) .nil)) rfl rfl (sp_impl_contains a (us.getD k default) (by first | omega | assumption | (exact hx _ (getD_mem (by omega))) | (exact hx _ (by assumption)) | (exact Nat.le_trans (hx _ (by assumption)) (by omega)) | (simp only [List.length_append, List.length_take, List.length_drop, List.length_cons, List.length_nil]; omega) | (simp_all; done)) (by first | omega | assumption | (exact hx _ (getD_mem (by omega))) | (exact hx _ (by assumption)) | (exact Nat.le_trans (hx _ (by assumption)) (by omega)) | (simp only [List.length_append, List.length_take, List.length_drop, List.length_cons, List.length_nil]; omega) | (simp_all; done))) (.skip _ _ (.skip _ _ .nil)) rfl) rfl rfl ?_
    refine Ch.nil ?_
    refine T_cond (b := (hasB a (us.getD k default))) rfl (fun h2 => ?_) (fun h2 => ?_)
    · refine T_region hc ?_
      refine Ch.step (v := (.d (.int .i64 (((ftake (hasB a) us k).length : Nat) : Int)))) rfl (.pure (.move _ rfl rfl)) rfl rfl ?_
      refine Ch.step (v := (.d (.int .i64 ((((ftake (hasB a) us k).length : Nat) : Int) + 1)))) rfl (.pure (.int _ _ _ _ _ rfl rfl rfl (intV_add (by first | omega | (simp only [List.length_map, List.length_append, List.length_take, List.length_drop, List.length_cons, List.length_nil]; omega) | (simp; omega) | (simp; done)) (by first | omega | (simp only [List.length_map, List.length_append, List.length_take, List.length_drop, List.length_cons, List.length_nil]; omega) | (simp; omega) | (simp; done))))) rfl rfl ?_
      refine Ch.step (v := (.d (.int .i64 ((((ftake (hasB a) us k).length : Nat) : Int) + 1)))) rfl (.pure (.assign _ rfl rfl)) rfl rfl ?_
      refine Ch.nil ?_
      refine T_region hc ?_
      refine Ch.step (v := (.d (.int .i64 (((k : Nat) : Int) + 1)))) rfl (.pure (.int _ _ _ _ _ rfl rfl rfl (intV_add (by first | omega | (simp only [List.length_map, List.length_append, List.length_take, List.length_drop, List.length_cons, List.length_nil]; omega) | (simp; omega) | (simp; done)) (by first | omega | (simp only [List.length_map, List.length_append, List.length_take, List.length_drop, List.length_cons, List.length_nil]; omega) | (simp; omega) | (simp; done))))) rfl rfl ?_
      refine Ch.step (v := (.d (.int .i64 (((k : Nat) : Int) + 1)))) rfl (.pure (.move _ rfl rfl)) rfl rfl ?_
      refine Ch.nil ?_
      refine Exists.intro (k + 1) (And.intro (by omega) (And.intro (by first | omega | (dsimp only; omega)) (Wk.of rfl rfl (And.intro rfl (And.intro (vI (by first | rfl | (rw [← ftake_yes (by omega) (by assumption)]; simp; done) | (rw [← ftake_no (by omega) (by assumption)]; done))) (And.intro rfl (And.intro rfl (And.intro (vI (by first | rfl | omega | (simp; done) | (simp; omega))) trivial))))) trivial)))
    · refine T_skip ?_
      refine T_region hc ?_
      refine Ch.step (v := (.d (.int .i64 (((k : Nat) : Int) + 1)))) rfl (.pure (.int _ _ _ _ _ rfl rfl rfl (intV_add (by first | omega | (simp only [List.length_map, List.length_append, List.length_take, List.length_drop, List.length_cons, List.length_nil]; omega) | (simp; omega) | (simp; done)) (by first | omega | (simp only [List.length_map, List.length_append, List.length_take, List.length_drop, List.length_cons, List.length_nil]; omega) | (simp; omega) | (simp; done))))) rfl rfl ?_
      refine Ch.step (v := (.d (.int .i64 (((k : Nat) : Int) + 1)))) rfl (.pure (.move _ rfl rfl)) rfl rfl ?_
      refine Ch.nil ?_
      refine Exists.intro (k + 1) (And.intro (by omega) (And.intro (by first | omega | (dsimp only; omega)) (Wk.of rfl rfl (And.intro rfl (And.intro (vI (by first | rfl | (rw [← ftake_yes (by omega) (by assumption)]; simp; done) | (rw [← ftake_no (by omega) (by assumption)]; done))) (And.intro rfl (And.intro rfl (And.intro (vI (by first | rfl | omega | (simp; done) | (simp; omega))) trivial))))) trivial)))
  · replace h1 := of_decide_eq_false h1
    try have hk := hx _ (getD_mem (l := us) (j := k) (d := default) (by omega))
    refine T_exit ?_
    refine T_seq ?_
    refine T_region hc ?_
    refine Ch.step (v := (.d (.int .i64 (((ftake (hasB a) us k).length : Nat) : Int)))) rfl (.pure (.move _ rfl rfl)) rfl rfl ?_
    refine Ch.step (v := (.d (.int .i64 (((ftake (hasB a) us k).length : Nat) : Int)))) rfl (.pure (.assign _ rfl rfl)) rfl rfl ?_
    refine Ch.nil ?_
    refine T_ret ?_
    refine And.intro (.inr rfl) ?_
    exact Exists.intro [(.d (.int .i64 (((ftake (hasB a) us k).length : Nat) : Int)))] (Exists.intro [] (Exists.intro [] (And.intro (.cons (.tmp 4 rfl) .nil) (And.intro (.cons (.any _) (.cons (.any _) .nil)) (And.intro (Exp.of (congrArg (D.int .i64) (by rw [gainN, ← ftake_all (k := k) (by omega)])) (.d _)) (And.intro rfl rfl))))))

def grOk (n : Int) (on off : List (List UInt8)) : Bool := primOk n on off
def grR (n : Int) (on off : List (List UInt8)) : List (List UInt8) := if primOk n on off then greedyL on (primL n.toNat on off) else []
theorem prim_ok_on {n : Int} {on off : List (List UInt8)} (h : primOk n on off = true) : onoffB n on off = true ∧ primR n on off = primL n.toNat on off ∧ (primL n.toNat on off).length ≤ 60 := by
  have h0 := h
  unfold primOk at h
  simp only [Bool.and_eq_true, decide_eq_true_iff] at h
  exact ⟨h.1, by rw [primR, if_pos h0], by omega⟩
theorem grR_le {n : Int} {on off : List (List UInt8)} : (grR n on off).length ≤ on.length := by
  unfold grR; split
  · have := grd_le on (primL n.toNat on off) on.length []
    simpa [greedyL] using this
  · simp
theorem mosts_pos {on l taken : List (List UInt8)} {k : Nat} : mostTo on l taken k ≤ on.length := by
  unfold mostTo; split
  · omega
  · exact List.length_filter_le _ _
theorem newN_le (a : List UInt8) (on taken : List (List UInt8)) : newN a on taken ≤ on.length := List.length_filter_le _ _

theorem sp_spec_GreedyCover (n : Int) (on off : List (List UInt8)) (hn1 : on.length ≤ 1048576) (hx1 : ∀ x ∈ on, x.length ≤ 1048576) (hn2 : off.length ≤ 1048576) (hx2 : ∀ x ∈ off, x.length ≤ 1048576) : Sp Try.prog 55 [(.int .i64 n), (.slice false 1 (on.map D.str)), (.slice false 1 (off.map D.str))] [.any, .any, .any] (.tup [(.slice true 1 ((grR n on off).map D.str)), (.bool (primOk n on off))]) := by
  refine Sp_intro (lend := true) Try.func55 rfl rfl rfl (fun _ => rfl) (fun c hc hX => ?_)
  refine T_seq ?_
  refine T_region hc ?_
  refine Ch.step (v := (.c (.slice none 0 0))) rfl (.pure (.assign _ rfl rfl)) rfl rfl ?_
  refine Ch.step (v := (.d (.bool false))) rfl (.pure (.assign _ rfl rfl)) rfl rfl ?_
  refine Ch.nil ?_
  refine T_seq ?_
  refine T_region hc ?_
  refine Ch.step (v := (.d (.int .i64 n))) rfl (.pure (.move _ rfl rfl)) rfl rfl ?_
  refine Ch.step (v := (.d (.slice false 1 (on.map D.str)))) rfl (.pure (.move _ rfl rfl)) rfl rfl ?_
  refine Ch.step (v := (.d (.slice false 1 (off.map D.str)))) rfl (.pure (.move _ rfl rfl)) rfl rfl ?_
  refine Ch.step (v := (.tup [(.row 19000), (.d (.bool (primOk n on off)))])) rfl (.call 19000 47 _ _ _ en47 rfl (.inl rfl) (.cons (.d _) (.cons (.d _) (.cons (.d _) .nil))) rfl (sol (by rw [D.solid]; exact solids_c (solid_row (fun _ => rfl) _) rfl) rfl) (sp_spec_Primes n on off (by first | omega | assumption | (exact hx _ (getD_mem (by omega))) | (exact hx _ (by assumption)) | (exact Nat.le_trans (hx _ (by assumption)) (by omega)) | (simp only [List.length_append, List.length_take, List.length_drop, List.length_cons, List.length_nil]; omega) | (simp_all; done)) (by first | omega | assumption | (exact hx _ (getD_mem (by omega))) | (exact hx _ (by assumption)) | (exact Nat.le_trans (hx _ (by assumption)) (by omega)) | (simp only [List.length_append, List.length_take, List.length_drop, List.length_cons, List.length_nil]; omega) | (simp_all; done)) (by first | omega | assumption | (exact hx _ (getD_mem (by omega))) | (exact hx _ (by assumption)) | (exact Nat.le_trans (hx _ (by assumption)) (by omega)) | (simp only [List.length_append, List.length_take, List.length_drop, List.length_cons, List.length_nil]; omega) | (simp_all; done)) (by first | omega | assumption | (exact hx _ (getD_mem (by omega))) | (exact hx _ (by assumption)) | (exact Nat.le_trans (hx _ (by assumption)) (by omega)) | (simp only [List.length_append, List.length_take, List.length_drop, List.length_cons, List.length_nil]; omega) | (simp_all; done))) (.skip _ _ (.skip _ _ (.skip _ _ .nil))) rfl) rfl rfl ?_
  refine Ch.step (v := (.tup [(.row 19000), (.d (.bool (primOk n on off)))])) rfl (.pure (.move _ rfl rfl)) rfl rfl ?_
  refine Ch.step (v := (.row 19000)) rfl (.pure (.extract _ rfl rfl rfl)) rfl rfl ?_
  refine Ch.step (v := (.d (.bool (primOk n on off)))) rfl (.pure (.extract _ rfl rfl rfl)) rfl rfl ?_
  refine Ch.step (v := (.row 19000)) rfl (.pure (.assign _ rfl rfl)) rfl rfl ?_
  refine Ch.step (v := (.d (.bool (primOk n on off)))) rfl (.pure (.assign _ rfl rfl)) rfl rfl ?_
  refine Ch.nil ?_
  refine T_seq ?_
  refine T_seq ?_
  refine T_region hc ?_
  refine Ch.step (v := (.d (.bool (primOk n on off)))) rfl (.pure (.move _ rfl rfl)) rfl rfl ?_
  refine Ch.step (v := (.d (.bool (!(primOk n on off))))) rfl (.pure (.not _ _ rfl rfl)) rfl rfl ?_
  refine Ch.nil ?_
  refine T_cond (b := (!(primOk n on off))) rfl (fun h1 => ?_) (fun h1 => ?_)
  · replace h1 := nott h1
    try have hpo := prim_ok_on h1
    try have hop := onoff_parts hpo.1
    try have hrl : (primR n on off).length ≤ 60 := primR_le n on off
    try have hml : ∀ p ∈ primR n on off, p.length = n.toNat := fun p hp => by (rw [hpo.2.1] at hp; exact primL_mem p hp)
    try have hne : ∀ p ∈ primR n on off, p ≠ [] := fun p hp e => by (have h6 := hml p hp; have h7 := hop.1.1; rw [e] at h6; simp at h6; omega)
    try have hml8 : ∀ p ∈ primR n on off, p.length ≤ 8 := fun p hp => by (have h6 := hml p hp; have h7 := hop.1.2; omega)
    try have hcv : Covs on (primR n on off) := by (rw [hpo.2.1]; exact prim_covers hpo.1)
    try have hou : ∀ u ∈ on, u.length = n.toNat := fun u hu => by (have h6 := hop.2.2.2.1 u hu; omega)
    try have hn64 := hop.2.1
    try have hpair : ∀ a : List UInt8, a.length ≤ n.toNat → ∀ t : List (List UInt8), (∀ b ∈ t, b ∈ primR n on off) → ∀ u ∈ on, a.length ≤ u.length ∧ u.length ≤ 1048576 ∧ ∀ b ∈ t, b.length ≤ u.length := fun a ha t ht u hu => ⟨by (have h6 := hou u hu; omega), by (have h6 := hou u hu; have h7 := hop.1.2; omega), fun b hb => by (have h6 := hou u hu; have h7 := hml b (ht b hb); omega)⟩
    refine T_seq ?_
    refine T_region hc ?_
    refine Ch.step (v := (.c (.slice none 0 0))) rfl (.pure (.assign _ rfl rfl)) rfl rfl ?_
    refine Ch.step (v := (.d (.bool false))) rfl (.pure (.assign _ rfl rfl)) rfl rfl ?_
    refine Ch.nil ?_
    refine T_ret ?_
    refine And.intro (.inr rfl) ?_
    exact Exists.intro [(.c (.slice none 0 0)), (.d (.bool false))] (Exists.intro [] (Exists.intro [] (And.intro (.cons (.tmp 6 rfl) (.cons (.tmp 7 rfl) .nil)) (And.intro (.cons (.any _) (.cons (.any _) (.cons (.any _) .nil))) (And.intro (.tup (.cons (Exp.of (congrArg (D.slice true 1) (by first | (rw [grR, h1]; rfl) | (have e := hp0.stop (by rw [pick, show (primR n on off).length = k by omega]; assumption); rw [grR, if_pos h1, ← hpo.2.1, ← e]; done) | (rw [h1]; done))) (.nil true 1)) (.cons (Exp.of (congrArg D.bool (by first | (rw [grR, h1]; rfl) | (have e := hp0.stop (by rw [pick, show (primR n on off).length = k by omega]; assumption); rw [grR, if_pos h1, ← hpo.2.1, ← e]; done) | (rw [h1]; done))) (.d _)) .nil))) (And.intro rfl rfl))))))
  · replace h1 := notf h1
    try have hpo := prim_ok_on h1
    try have hop := onoff_parts hpo.1
    try have hrl : (primR n on off).length ≤ 60 := primR_le n on off
    try have hml : ∀ p ∈ primR n on off, p.length = n.toNat := fun p hp => by (rw [hpo.2.1] at hp; exact primL_mem p hp)
    try have hne : ∀ p ∈ primR n on off, p ≠ [] := fun p hp e => by (have h6 := hml p hp; have h7 := hop.1.1; rw [e] at h6; simp at h6; omega)
    try have hml8 : ∀ p ∈ primR n on off, p.length ≤ 8 := fun p hp => by (have h6 := hml p hp; have h7 := hop.1.2; omega)
    try have hcv : Covs on (primR n on off) := by (rw [hpo.2.1]; exact prim_covers hpo.1)
    try have hou : ∀ u ∈ on, u.length = n.toNat := fun u hu => by (have h6 := hop.2.2.2.1 u hu; omega)
    try have hn64 := hop.2.1
    try have hpair : ∀ a : List UInt8, a.length ≤ n.toNat → ∀ t : List (List UInt8), (∀ b ∈ t, b ∈ primR n on off) → ∀ u ∈ on, a.length ≤ u.length ∧ u.length ≤ 1048576 ∧ ∀ b ∈ t, b.length ≤ u.length := fun a ha t ht u hu => ⟨by (have h6 := hou u hu; omega), by (have h6 := hou u hu; have h7 := hop.1.2; omega), fun b hb => by (have h6 := hou u hu; have h7 := hml b (ht b hb); omega)⟩
    refine T_skip ?_
    refine T_seq ?_
    refine T_region hc ?_
    refine Ch.step (v := (.c (.slice none 0 0))) rfl (.pure (.assign _ rfl rfl)) rfl rfl ?_
    refine Ch.nil ?_
    refine T_block ?_
    refine T_loop (ι := Nat × List (List UInt8)) (fun q => { n := 74, sl := [(1, (.d (.slice false 1 (on.map D.str)))), (8, (.row 19000)), (10, (.row 10))], hp := [(10, (some (.row 1 (q.2.map D.str)))), (19000, (some (.row 1 ((primR n on off).map D.str))))], pin := [] }) (fun q => GrdInv on (primR n on off) q) (fun q => q.1) ⟨(on.length, []), (GrdInv.start _ _), (Wk.trans (Wk.nilrow 10 900010 1 rfl rfl rfl) (Wk.ren [(10, 900010)] rfl rfl rfl rfl (And.intro rfl (And.intro rfl (And.intro rfl trivial))) (And.intro (oR (by first | rfl | (rw [pick, show (primR n on off).length = k by omega, List.map_append]; rfl))) (And.intro rfl trivial))))⟩ (fun q hp0 => ?_)
    refine T_block ?_
    refine T_seq ?_
    refine T_region hc ?_
    refine Ch.step (v := (.d (.str []))) rfl (.pure (.assign _ rfl rfl)) rfl rfl ?_
    refine Ch.nil ?_
    refine T_seq ?_
    refine T_seq ?_
    refine T_region hc ?_
    refine Ch.step (v := (.row 19000)) rfl (.pure (.move _ rfl rfl)) rfl rfl ?_
    refine Ch.step (v := (.d (.int .i64 (((primR n on off).length : Nat) : Int)))) rfl (.pure (.len _ _ 9 rfl Try.underlying22 (.row rfl) (by simp))) rfl rfl ?_
    refine Ch.step (v := (.d (.int .i64 0))) rfl (.pure (.move _ rfl rfl)) rfl rfl ?_
    refine Ch.nil ?_
    refine T_block ?_
    refine T_loop (ι := Nat) (fun k => { n := 74, sl := [(1, (.d (.slice false 1 (on.map D.str)))), (8, (.row 19000)), (10, (.row 10)), (11, (.d (.str (pickTo on (primR n on off) q.2 k)))), (24, (.row 19000)), (25, (.d (.int .i64 (((primR n on off).length : Nat) : Int)))), (26, (.d (.int .i64 ((k : Nat) : Int))))], hp := [(10, (some (.row 1 (q.2.map D.str)))), (19000, (some (.row 1 ((primR n on off).map D.str))))], pin := [] }) (fun k => k ≤ (primR n on off).length) (fun k => (primR n on off).length - k) ⟨0, (by omega), (Wk.of rfl rfl (And.intro rfl (And.intro rfl (And.intro rfl (And.intro (vS (by first | rfl | (exact (pick_yes (by unfold pickQ; refine ⟨by omega, ?_⟩; first | exact .inl (by assumption) | exact .inr (.inl (by omega)) | exact .inr (.inr ⟨by omega, by omega⟩))).symm) | (exact (pick_no (by unfold pickQ; rintro ⟨g1, g2⟩; rcases g2 with g2 | g2 | g2 <;> first | omega | exact absurd g2 (by assumption))).symm))) (And.intro rfl (And.intro rfl (And.intro (vI (by first | rfl | omega | (simp; done) | (simp; omega))) trivial))))))) (And.intro rfl (And.intro rfl trivial)))⟩ (fun k hp1 => ?_)
    have hgl := hp0.len; have hpl := pickTo_len (on := on) (taken := q.2) (m := n.toNat) (fun p hp => Nat.le_of_eq (hml p hp)) k hp1; have hpl1 : bulkS [pickTo on (primR n on off) q.2 k] ≤ 1048576 := by (have hnn := hop.1.2; simp only [bulkS, List.map_cons, List.map_nil, List.sum_cons, List.sum_nil, List.length_cons, List.length_nil]; omega)
    refine T_seq ?_
    refine T_region hc ?_
    refine Ch.step (v := (.d (.bool (decide (((k : Nat) : Int) < (((primR n on off).length : Nat) : Int)))))) rfl (.pure (.int _ _ _ _ _ rfl rfl rfl rfl)) rfl rfl ?_
    refine Ch.nil ?_
    refine T_seq ?_
    refine T_cond (b := (decide (((k : Nat) : Int) < (((primR n on off).length : Nat) : Int)))) rfl (fun h2 => ?_) (fun h2 => ?_)
    · replace h2 := of_decide_eq_true h2
      try have hpk := getD_mem (l := (primR n on off)) (j := k) (d := default) (by omega)
      try have hpkl := hml _ hpk
      try have hb1 : bulkS [(primR n on off).getD k default] ≤ 1048576 := by (have hnn := hop.1.2; simp only [bulkS, List.map_cons, List.map_nil, List.sum_cons, List.sum_nil, List.length_cons, List.length_nil]; omega)
      try have hx1 := hpair ((primR n on off).getD k default) (by omega) q.2 hp0.sub
      try have hx2 := hpair (pickTo on (primR n on off) q.2 k) hpl q.2 hp0.sub
      refine T_skip ?_
      refine T_seq ?_
      refine T_block ?_
      refine T_seq ?_
      refine T_region hc ?_
      refine Ch.step (v := (.el 19000 1 k 0)) rfl (.pure (.idxRow _ _ _ 9 (k) rfl Try.underlying22 sz9 rfl rfl rfl rfl (by first | omega | (simp; omega)))) rfl rfl ?_
      refine Ch.step (v := (.d (.str ((primR n on off).getD k default)))) rfl (.pure (.loadEl1 _ _ rfl ag9 rfl rfl (get_map _ (by first | omega | (simp only [List.length_map, List.length_append, List.length_take, List.length_drop, List.length_cons, List.length_nil]; omega) | (simp; omega) | (simp; done))) rfl rfl rfl)) rfl rfl ?_
      refine Ch.step (v := (.d (.str ((primR n on off).getD k default)))) rfl (.pure (.assign _ rfl rfl)) rfl rfl ?_
      refine Ch.nil ?_
      refine T_seq ?_
      refine T_region hc ?_
      refine Ch.step (v := (.d (.str ((primR n on off).getD k default)))) rfl (.pure (.move _ rfl rfl)) rfl rfl ?_
      refine Ch.step (v := (.d (.slice false 1 (on.map D.str)))) rfl (.pure (.move _ rfl rfl)) rfl rfl ?_
      refine Ch.step (v := (.row 10)) rfl (.pure (.move _ rfl rfl)) rfl rfl ?_
      refine Ch.step (v := (.d (.int .i64 ((newN ((primR n on off).getD k default) on q.2 : Nat) : Int)))) rfl (.call 33000 112 _ _ _ en112 rfl (.inl rfl) (.cons (.d _) (.cons (.d _) (.cons (.lend (.row rfl (frozs_map (fun _ => rfl) _))) .nil))) rfl rfl (sp_spec_l14New ((primR n on off).getD k default) on q.2 (by first | omega | assumption | (exact hx _ (getD_mem (by omega))) | (exact hx _ (by assumption)) | (exact Nat.le_trans (hx _ (by assumption)) (by omega)) | (simp only [List.length_append, List.length_take, List.length_drop, List.length_cons, List.length_nil]; omega) | (simp_all; done)) (by first | omega | assumption | (exact hx _ (getD_mem (by omega))) | (exact hx _ (by assumption)) | (exact Nat.le_trans (hx _ (by assumption)) (by omega)) | (simp only [List.length_append, List.length_take, List.length_drop, List.length_cons, List.length_nil]; omega) | (simp_all; done)) (by first | omega | assumption | (exact hx _ (getD_mem (by omega))) | (exact hx _ (by assumption)) | (exact Nat.le_trans (hx _ (by assumption)) (by omega)) | (simp only [List.length_append, List.length_take, List.length_drop, List.length_cons, List.length_nil]; omega) | (simp_all; done)) (by assumption)) (.skip _ _ (.skip _ _ (.skip _ _ .nil))) rfl) rfl rfl ?_
      refine Ch.step (v := (.d (.int .i64 ((newN ((primR n on off).getD k default) on q.2 : Nat) : Int)))) rfl (.pure (.assign _ rfl rfl)) rfl rfl ?_
      refine Ch.nil ?_
      refine T_seq ?_
      refine T_region hc ?_
      refine Ch.step (v := (.d (.int .i64 ((newN ((primR n on off).getD k default) on q.2 : Nat) : Int)))) rfl (.pure (.move _ rfl rfl)) rfl rfl ?_
      refine Ch.step (v := (.d (.bool (decide (0 < ((newN ((primR n on off).getD k default) on q.2 : Nat) : Int)))))) rfl (.pure (.int _ _ _ _ _ rfl rfl rfl rfl)) rfl rfl ?_
      refine Ch.step (v := (.d (.bool (decide (0 < ((newN ((primR n on off).getD k default) on q.2 : Nat) : Int)))))) rfl (.pure (.move _ rfl rfl)) rfl rfl ?_
      cases h3 : (decide (0 < ((newN ((primR n on off).getD k default) on q.2 : Nat) : Int))) with
      | true =>
        replace h3 := of_decide_eq_true h3
        refine Ch.step (v := (.d (.str (pickTo on (primR n on off) q.2 k)))) rfl (.pure (.move _ rfl rfl)) rfl rfl ?_
        refine Ch.step (v := (.d (.bool (decide ((pickTo on (primR n on off) q.2 k) = []))))) rfl (.pure (.str _ _ _ _ _ rfl rfl rfl rfl)) rfl rfl ?_
        refine Ch.step (v := (.d (.bool (decide ((pickTo on (primR n on off) q.2 k) = []))))) rfl (.pure (.move _ rfl rfl)) rfl rfl ?_
        cases h4 : (decide ((pickTo on (primR n on off) q.2 k) = [])) with
        | true =>
          replace h4 := of_decide_eq_true h4
          refine Ch.skip rfl rfl ?_
          refine Ch.skip rfl rfl ?_
          refine Ch.skip rfl rfl ?_
          refine Ch.skip rfl rfl ?_
          refine Ch.skip rfl rfl ?_
          refine Ch.skip rfl rfl ?_
          refine Ch.step (v := (.d (.bool true))) rfl (.pure (.pickT _ _ _ rfl rfl rfl)) rfl rfl ?_
          refine Ch.step (v := (.d (.bool true))) rfl (.pure (.move _ rfl rfl)) rfl rfl ?_
          refine Ch.skip rfl rfl ?_
          refine Ch.skip rfl rfl ?_
          refine Ch.skip rfl rfl ?_
          refine Ch.skip rfl rfl ?_
          refine Ch.skip rfl rfl ?_
          refine Ch.skip rfl rfl ?_
          refine Ch.skip rfl rfl ?_
          refine Ch.skip rfl rfl ?_
          refine Ch.skip rfl rfl ?_
          refine Ch.skip rfl rfl ?_
          refine Ch.skip rfl rfl ?_
          refine Ch.skip rfl rfl ?_
          refine Ch.skip rfl rfl ?_
          refine Ch.skip rfl rfl ?_
          refine Ch.skip rfl rfl ?_
          refine Ch.step (v := (.d (.bool true))) rfl (.pure (.pickT _ _ _ rfl rfl rfl)) rfl rfl ?_
          refine Ch.step (v := (.d (.bool true))) rfl (.pure (.pickT _ _ _ rfl rfl rfl)) rfl rfl ?_
          refine Ch.nil ?_
          refine T_cond (b := true) rfl (fun _ => ?_) (fun h => nomatch h)
          refine T_region hc ?_
          refine Ch.step (v := (.d (.str ((primR n on off).getD k default)))) rfl (.pure (.move _ rfl rfl)) rfl rfl ?_
          refine Ch.step (v := (.d (.str ((primR n on off).getD k default)))) rfl (.pure (.assign _ rfl rfl)) rfl rfl ?_
          refine Ch.nil ?_
          refine T_region hc ?_
          refine Ch.step (v := (.d (.int .i64 (((k : Nat) : Int) + 1)))) rfl (.pure (.int _ _ _ _ _ rfl rfl rfl (intV_add (by first | omega | (simp only [List.length_map, List.length_append, List.length_take, List.length_drop, List.length_cons, List.length_nil]; omega) | (simp; omega) | (simp; done)) (by first | omega | (simp only [List.length_map, List.length_append, List.length_take, List.length_drop, List.length_cons, List.length_nil]; omega) | (simp; omega) | (simp; done))))) rfl rfl ?_
          refine Ch.step (v := (.d (.int .i64 (((k : Nat) : Int) + 1)))) rfl (.pure (.move _ rfl rfl)) rfl rfl ?_
          refine Ch.nil ?_
          refine Exists.intro (k + 1) (And.intro (by omega) (And.intro (by first | omega | (dsimp only; omega)) (Wk.of rfl rfl (And.intro rfl (And.intro rfl (And.intro rfl (And.intro (vS (by first | rfl | (exact (pick_yes (by unfold pickQ; refine ⟨by omega, ?_⟩; first | exact .inl (by assumption) | exact .inr (.inl (by omega)) | exact .inr (.inr ⟨by omega, by omega⟩))).symm) | (exact (pick_no (by unfold pickQ; rintro ⟨g1, g2⟩; rcases g2 with g2 | g2 | g2 <;> first | omega | exact absurd g2 (by assumption))).symm))) (And.intro rfl (And.intro rfl (And.intro (vI (by first | rfl | omega | (simp; done) | (simp; omega))) trivial))))))) (And.intro rfl (And.intro rfl trivial)))))
        | false =>
          replace h4 := of_decide_eq_false h4
          refine Ch.step (v := (.d (.int .i64 ((newN ((primR n on off).getD k default) on q.2 : Nat) : Int)))) rfl (.pure (.move _ rfl rfl)) rfl rfl ?_
          refine Ch.step (v := (.d (.str (pickTo on (primR n on off) q.2 k)))) rfl (.pure (.move _ rfl rfl)) rfl rfl ?_
          refine Ch.step (v := (.d (.slice false 1 (on.map D.str)))) rfl (.pure (.move _ rfl rfl)) rfl rfl ?_
          refine Ch.step (v := (.row 10)) rfl (.pure (.move _ rfl rfl)) rfl rfl ?_
          refine Ch.step (v := (.d (.int .i64 ((newN (pickTo on (primR n on off) q.2 k) on q.2 : Nat) : Int)))) rfl (.call 44000 112 _ _ _ en112 rfl (.inl rfl) (.cons (.d _) (.cons (.d _) (.cons (.lend (.row rfl (frozs_map (fun _ => rfl) _))) .nil))) rfl rfl (sp_spec_l14New (pickTo on (primR n on off) q.2 k) on q.2 (by first | omega | assumption | (exact hx _ (getD_mem (by omega))) | (exact hx _ (by assumption)) | (exact Nat.le_trans (hx _ (by assumption)) (by omega)) | (simp only [List.length_append, List.length_take, List.length_drop, List.length_cons, List.length_nil]; omega) | (simp_all; done)) (by first | omega | assumption | (exact hx _ (getD_mem (by omega))) | (exact hx _ (by assumption)) | (exact Nat.le_trans (hx _ (by assumption)) (by omega)) | (simp only [List.length_append, List.length_take, List.length_drop, List.length_cons, List.length_nil]; omega) | (simp_all; done)) (by first | omega | assumption | (exact hx _ (getD_mem (by omega))) | (exact hx _ (by assumption)) | (exact Nat.le_trans (hx _ (by assumption)) (by omega)) | (simp only [List.length_append, List.length_take, List.length_drop, List.length_cons, List.length_nil]; omega) | (simp_all; done)) (by assumption)) (.skip _ _ (.skip _ _ (.skip _ _ .nil))) rfl) rfl rfl ?_
          refine Ch.step (v := (.d (.bool (decide (((newN (pickTo on (primR n on off) q.2 k) on q.2 : Nat) : Int) < ((newN ((primR n on off).getD k default) on q.2 : Nat) : Int)))))) rfl (.pure (.int _ _ _ _ _ rfl rfl rfl rfl)) rfl rfl ?_
          refine Ch.step (v := (.d (.bool (decide (((newN (pickTo on (primR n on off) q.2 k) on q.2 : Nat) : Int) < ((newN ((primR n on off).getD k default) on q.2 : Nat) : Int)))))) rfl (.pure (.pickF _ _ _ rfl rfl rfl)) rfl rfl ?_
          refine Ch.step (v := (.d (.bool (decide (((newN (pickTo on (primR n on off) q.2 k) on q.2 : Nat) : Int) < ((newN ((primR n on off).getD k default) on q.2 : Nat) : Int)))))) rfl (.pure (.move _ rfl rfl)) rfl rfl ?_
          cases h5 : (decide (((newN (pickTo on (primR n on off) q.2 k) on q.2 : Nat) : Int) < ((newN ((primR n on off).getD k default) on q.2 : Nat) : Int))) with
          | true =>
            replace h5 := of_decide_eq_true h5
            refine Ch.skip rfl rfl ?_
            refine Ch.skip rfl rfl ?_
            refine Ch.skip rfl rfl ?_
            refine Ch.skip rfl rfl ?_
            refine Ch.skip rfl rfl ?_
            refine Ch.skip rfl rfl ?_
            refine Ch.skip rfl rfl ?_
            refine Ch.skip rfl rfl ?_
            refine Ch.skip rfl rfl ?_
            refine Ch.skip rfl rfl ?_
            refine Ch.skip rfl rfl ?_
            refine Ch.skip rfl rfl ?_
            refine Ch.skip rfl rfl ?_
            refine Ch.skip rfl rfl ?_
            refine Ch.skip rfl rfl ?_
            refine Ch.step (v := (.d (.bool true))) rfl (.pure (.pickT _ _ _ rfl rfl rfl)) rfl rfl ?_
            refine Ch.step (v := (.d (.bool true))) rfl (.pure (.pickT _ _ _ rfl rfl rfl)) rfl rfl ?_
            refine Ch.nil ?_
            refine T_cond (b := true) rfl (fun _ => ?_) (fun h => nomatch h)
            refine T_region hc ?_
            refine Ch.step (v := (.d (.str ((primR n on off).getD k default)))) rfl (.pure (.move _ rfl rfl)) rfl rfl ?_
            refine Ch.step (v := (.d (.str ((primR n on off).getD k default)))) rfl (.pure (.assign _ rfl rfl)) rfl rfl ?_
            refine Ch.nil ?_
            refine T_region hc ?_
            refine Ch.step (v := (.d (.int .i64 (((k : Nat) : Int) + 1)))) rfl (.pure (.int _ _ _ _ _ rfl rfl rfl (intV_add (by first | omega | (simp only [List.length_map, List.length_append, List.length_take, List.length_drop, List.length_cons, List.length_nil]; omega) | (simp; omega) | (simp; done)) (by first | omega | (simp only [List.length_map, List.length_append, List.length_take, List.length_drop, List.length_cons, List.length_nil]; omega) | (simp; omega) | (simp; done))))) rfl rfl ?_
            refine Ch.step (v := (.d (.int .i64 (((k : Nat) : Int) + 1)))) rfl (.pure (.move _ rfl rfl)) rfl rfl ?_
            refine Ch.nil ?_
            refine Exists.intro (k + 1) (And.intro (by omega) (And.intro (by first | omega | (dsimp only; omega)) (Wk.of rfl rfl (And.intro rfl (And.intro rfl (And.intro rfl (And.intro (vS (by first | rfl | (exact (pick_yes (by unfold pickQ; refine ⟨by omega, ?_⟩; first | exact .inl (by assumption) | exact .inr (.inl (by omega)) | exact .inr (.inr ⟨by omega, by omega⟩))).symm) | (exact (pick_no (by unfold pickQ; rintro ⟨g1, g2⟩; rcases g2 with g2 | g2 | g2 <;> first | omega | exact absurd g2 (by assumption))).symm))) (And.intro rfl (And.intro rfl (And.intro (vI (by first | rfl | omega | (simp; done) | (simp; omega))) trivial))))))) (And.intro rfl (And.intro rfl trivial)))))
          | false =>
            replace h5 := of_decide_eq_false h5
            refine Ch.step (v := (.d (.int .i64 ((newN ((primR n on off).getD k default) on q.2 : Nat) : Int)))) rfl (.pure (.move _ rfl rfl)) rfl rfl ?_
            refine Ch.step (v := (.d (.str (pickTo on (primR n on off) q.2 k)))) rfl (.pure (.move _ rfl rfl)) rfl rfl ?_
            refine Ch.step (v := (.d (.slice false 1 (on.map D.str)))) rfl (.pure (.move _ rfl rfl)) rfl rfl ?_
            refine Ch.step (v := (.row 10)) rfl (.pure (.move _ rfl rfl)) rfl rfl ?_
            refine Ch.step (v := (.d (.int .i64 ((newN (pickTo on (primR n on off) q.2 k) on q.2 : Nat) : Int)))) rfl (.call 52000 112 _ _ _ en112 rfl (.inl rfl) (.cons (.d _) (.cons (.d _) (.cons (.lend (.row rfl (frozs_map (fun _ => rfl) _))) .nil))) rfl rfl (sp_spec_l14New (pickTo on (primR n on off) q.2 k) on q.2 (by first | omega | assumption | (exact hx _ (getD_mem (by omega))) | (exact hx _ (by assumption)) | (exact Nat.le_trans (hx _ (by assumption)) (by omega)) | (simp only [List.length_append, List.length_take, List.length_drop, List.length_cons, List.length_nil]; omega) | (simp_all; done)) (by first | omega | assumption | (exact hx _ (getD_mem (by omega))) | (exact hx _ (by assumption)) | (exact Nat.le_trans (hx _ (by assumption)) (by omega)) | (simp only [List.length_append, List.length_take, List.length_drop, List.length_cons, List.length_nil]; omega) | (simp_all; done)) (by first | omega | assumption | (exact hx _ (getD_mem (by omega))) | (exact hx _ (by assumption)) | (exact Nat.le_trans (hx _ (by assumption)) (by omega)) | (simp only [List.length_append, List.length_take, List.length_drop, List.length_cons, List.length_nil]; omega) | (simp_all; done)) (by assumption)) (.skip _ _ (.skip _ _ (.skip _ _ .nil))) rfl) rfl rfl ?_
            refine Ch.step (v := (.d (.bool (decide (((newN ((primR n on off).getD k default) on q.2 : Nat) : Int) = ((newN (pickTo on (primR n on off) q.2 k) on q.2 : Nat) : Int)))))) rfl (.pure (.int _ _ _ _ _ rfl rfl rfl rfl)) rfl rfl ?_
            refine Ch.step (v := (.d (.bool (decide (((newN ((primR n on off).getD k default) on q.2 : Nat) : Int) = ((newN (pickTo on (primR n on off) q.2 k) on q.2 : Nat) : Int)))))) rfl (.pure (.move _ rfl rfl)) rfl rfl ?_
            cases h6 : (decide (((newN ((primR n on off).getD k default) on q.2 : Nat) : Int) = ((newN (pickTo on (primR n on off) q.2 k) on q.2 : Nat) : Int))) with
            | true =>
              replace h6 := of_decide_eq_true h6
              refine Ch.step (v := (.d (.str ((primR n on off).getD k default)))) rfl (.pure (.move _ rfl rfl)) rfl rfl ?_
              refine Ch.step (v := (.row 56000)) rfl (.slice 56000 _ 9 _ rfl sty22 (xs := [.tmp 55]) rfl rfl (.cons (.d _) .nil) rfl rfl (by decide)) rfl rfl ?_
              refine Ch.step (v := (.d (.int .i64 ((lits ([((primR n on off).getD k default)]) : Nat) : Int)))) rfl (.call 57000 105 _ _ _ en105 rfl (.inl rfl) (.cons (.lend (.row (ys := (([((primR n on off).getD k default)]).map D.str)) rfl rfl)) .nil) rfl rfl (sp_spec_l14Literals ([((primR n on off).getD k default)]) (by first | omega | assumption | (exact hx _ (getD_mem (by omega))) | (exact hx _ (by assumption)) | (exact Nat.le_trans (hx _ (by assumption)) (by omega)) | (simp only [List.length_append, List.length_take, List.length_drop, List.length_cons, List.length_nil]; omega) | (simp_all; done))) (.skip _ _ .nil) rfl) rfl rfl ?_
              refine Ch.step (v := (.d (.str (pickTo on (primR n on off) q.2 k)))) rfl (.pure (.move _ rfl rfl)) rfl rfl ?_
              refine Ch.step (v := (.row 59000)) rfl (.slice 59000 _ 9 _ rfl sty22 (xs := [.tmp 58]) rfl rfl (.cons (.d _) .nil) rfl rfl (by decide)) rfl rfl ?_
              refine Ch.step (v := (.d (.int .i64 ((lits ([(pickTo on (primR n on off) q.2 k)]) : Nat) : Int)))) rfl (.call 60000 105 _ _ _ en105 rfl (.inl rfl) (.cons (.lend (.row (ys := (([(pickTo on (primR n on off) q.2 k)]).map D.str)) rfl rfl)) .nil) rfl rfl (sp_spec_l14Literals ([(pickTo on (primR n on off) q.2 k)]) (by first | omega | assumption | (exact hx _ (getD_mem (by omega))) | (exact hx _ (by assumption)) | (exact Nat.le_trans (hx _ (by assumption)) (by omega)) | (simp only [List.length_append, List.length_take, List.length_drop, List.length_cons, List.length_nil]; omega) | (simp_all; done))) (.skip _ _ .nil) rfl) rfl rfl ?_
              refine Ch.step (v := (.d (.bool (decide (((lits ([((primR n on off).getD k default)]) : Nat) : Int) < ((lits ([(pickTo on (primR n on off) q.2 k)]) : Nat) : Int)))))) rfl (.pure (.int _ _ _ _ _ rfl rfl rfl rfl)) rfl rfl ?_
              refine Ch.step (v := (.d (.bool (decide (((lits ([((primR n on off).getD k default)]) : Nat) : Int) < ((lits ([(pickTo on (primR n on off) q.2 k)]) : Nat) : Int)))))) rfl (.pure (.pickT _ _ _ rfl rfl rfl)) rfl rfl ?_
              refine Ch.step (v := (.d (.bool (decide (((lits ([((primR n on off).getD k default)]) : Nat) : Int) < ((lits ([(pickTo on (primR n on off) q.2 k)]) : Nat) : Int)))))) rfl (.pure (.pickF _ _ _ rfl rfl rfl)) rfl rfl ?_
              refine Ch.step (v := (.d (.bool (decide (((lits ([((primR n on off).getD k default)]) : Nat) : Int) < ((lits ([(pickTo on (primR n on off) q.2 k)]) : Nat) : Int)))))) rfl (.pure (.pickT _ _ _ rfl rfl rfl)) rfl rfl ?_
              refine Ch.nil ?_
              refine T_cond (b := (decide (((lits ([((primR n on off).getD k default)]) : Nat) : Int) < ((lits ([(pickTo on (primR n on off) q.2 k)]) : Nat) : Int)))) rfl (fun h7 => ?_) (fun h7 => ?_)
              · replace h7 := of_decide_eq_true h7
                refine T_region hc ?_
                refine Ch.step (v := (.d (.str ((primR n on off).getD k default)))) rfl (.pure (.move _ rfl rfl)) rfl rfl ?_
                refine Ch.step (v := (.d (.str ((primR n on off).getD k default)))) rfl (.pure (.assign _ rfl rfl)) rfl rfl ?_
                refine Ch.nil ?_
                refine T_region hc ?_
                refine Ch.step (v := (.d (.int .i64 (((k : Nat) : Int) + 1)))) rfl (.pure (.int _ _ _ _ _ rfl rfl rfl (intV_add (by first | omega | (simp only [List.length_map, List.length_append, List.length_take, List.length_drop, List.length_cons, List.length_nil]; omega) | (simp; omega) | (simp; done)) (by first | omega | (simp only [List.length_map, List.length_append, List.length_take, List.length_drop, List.length_cons, List.length_nil]; omega) | (simp; omega) | (simp; done))))) rfl rfl ?_
                refine Ch.step (v := (.d (.int .i64 (((k : Nat) : Int) + 1)))) rfl (.pure (.move _ rfl rfl)) rfl rfl ?_
                refine Ch.nil ?_
                refine Exists.intro (k + 1) (And.intro (by omega) (And.intro (by first | omega | (dsimp only; omega)) (Wk.of rfl rfl (And.intro rfl (And.intro rfl (And.intro rfl (And.intro (vS (by first | rfl | (exact (pick_yes (by unfold pickQ; refine ⟨by omega, ?_⟩; first | exact .inl (by assumption) | exact .inr (.inl (by omega)) | exact .inr (.inr ⟨by omega, by omega⟩))).symm) | (exact (pick_no (by unfold pickQ; rintro ⟨g1, g2⟩; rcases g2 with g2 | g2 | g2 <;> first | omega | exact absurd g2 (by assumption))).symm))) (And.intro rfl (And.intro rfl (And.intro (vI (by first | rfl | omega | (simp; done) | (simp; omega))) trivial))))))) (And.intro rfl (And.intro rfl trivial)))))
              · replace h7 := of_decide_eq_false h7
                refine T_skip ?_
                refine T_region hc ?_
                refine Ch.step (v := (.d (.int .i64 (((k : Nat) : Int) + 1)))) rfl (.pure (.int _ _ _ _ _ rfl rfl rfl (intV_add (by first | omega | (simp only [List.length_map, List.length_append, List.length_take, List.length_drop, List.length_cons, List.length_nil]; omega) | (simp; omega) | (simp; done)) (by first | omega | (simp only [List.length_map, List.length_append, List.length_take, List.length_drop, List.length_cons, List.length_nil]; omega) | (simp; omega) | (simp; done))))) rfl rfl ?_
                refine Ch.step (v := (.d (.int .i64 (((k : Nat) : Int) + 1)))) rfl (.pure (.move _ rfl rfl)) rfl rfl ?_
                refine Ch.nil ?_
                refine Exists.intro (k + 1) (And.intro (by omega) (And.intro (by first | omega | (dsimp only; omega)) (Wk.of rfl rfl (And.intro rfl (And.intro rfl (And.intro rfl (And.intro (vS (by first | rfl | (exact (pick_yes (by unfold pickQ; refine ⟨by omega, ?_⟩; first | exact .inl (by assumption) | exact .inr (.inl (by omega)) | exact .inr (.inr ⟨by omega, by omega⟩))).symm) | (exact (pick_no (by unfold pickQ; rintro ⟨g1, g2⟩; rcases g2 with g2 | g2 | g2 <;> first | omega | exact absurd g2 (by assumption))).symm))) (And.intro rfl (And.intro rfl (And.intro (vI (by first | rfl | omega | (simp; done) | (simp; omega))) trivial))))))) (And.intro rfl (And.intro rfl trivial)))))
            | false =>
              replace h6 := of_decide_eq_false h6
              refine Ch.skip rfl rfl ?_
              refine Ch.skip rfl rfl ?_
              refine Ch.skip rfl rfl ?_
              refine Ch.skip rfl rfl ?_
              refine Ch.skip rfl rfl ?_
              refine Ch.skip rfl rfl ?_
              refine Ch.skip rfl rfl ?_
              refine Ch.step (v := (.d (.bool false))) rfl (.pure (.pickF _ _ _ rfl rfl rfl)) rfl rfl ?_
              refine Ch.step (v := (.d (.bool false))) rfl (.pure (.pickF _ _ _ rfl rfl rfl)) rfl rfl ?_
              refine Ch.step (v := (.d (.bool false))) rfl (.pure (.pickT _ _ _ rfl rfl rfl)) rfl rfl ?_
              refine Ch.nil ?_
              refine T_cond (b := false) rfl (fun h => nomatch h) (fun _ => ?_)
              refine T_skip ?_
              refine T_region hc ?_
              refine Ch.step (v := (.d (.int .i64 (((k : Nat) : Int) + 1)))) rfl (.pure (.int _ _ _ _ _ rfl rfl rfl (intV_add (by first | omega | (simp only [List.length_map, List.length_append, List.length_take, List.length_drop, List.length_cons, List.length_nil]; omega) | (simp; omega) | (simp; done)) (by first | omega | (simp only [List.length_map, List.length_append, List.length_take, List.length_drop, List.length_cons, List.length_nil]; omega) | (simp; omega) | (simp; done))))) rfl rfl ?_
              refine Ch.step (v := (.d (.int .i64 (((k : Nat) : Int) + 1)))) rfl (.pure (.move _ rfl rfl)) rfl rfl ?_
              refine Ch.nil ?_
              refine Exists.intro (k + 1) (And.intro (by omega) (And.intro (by first | omega | (dsimp only; omega)) (Wk.of rfl rfl (And.intro rfl (And.intro rfl (And.intro rfl (And.intro (vS (by first | rfl | (exact (pick_yes (by unfold pickQ; refine ⟨by omega, ?_⟩; first | exact .inl (by assumption) | exact .inr (.inl (by omega)) | exact .inr (.inr ⟨by omega, by omega⟩))).symm) | (exact (pick_no (by unfold pickQ; rintro ⟨g1, g2⟩; rcases g2 with g2 | g2 | g2 <;> first | omega | exact absurd g2 (by assumption))).symm))) (And.intro rfl (And.intro rfl (And.intro (vI (by first | rfl | omega | (simp; done) | (simp; omega))) trivial))))))) (And.intro rfl (And.intro rfl trivial)))))
      | false =>
        replace h3 := of_decide_eq_false h3
        refine Ch.skip rfl rfl ?_
        refine Ch.skip rfl rfl ?_
        refine Ch.skip rfl rfl ?_
        refine Ch.skip rfl rfl ?_
        refine Ch.skip rfl rfl ?_
        refine Ch.skip rfl rfl ?_
        refine Ch.skip rfl rfl ?_
        refine Ch.skip rfl rfl ?_
        refine Ch.skip rfl rfl ?_
        refine Ch.skip rfl rfl ?_
        refine Ch.skip rfl rfl ?_
        refine Ch.skip rfl rfl ?_
        refine Ch.skip rfl rfl ?_
        refine Ch.skip rfl rfl ?_
        refine Ch.skip rfl rfl ?_
        refine Ch.skip rfl rfl ?_
        refine Ch.skip rfl rfl ?_
        refine Ch.skip rfl rfl ?_
        refine Ch.skip rfl rfl ?_
        refine Ch.skip rfl rfl ?_
        refine Ch.skip rfl rfl ?_
        refine Ch.skip rfl rfl ?_
        refine Ch.skip rfl rfl ?_
        refine Ch.skip rfl rfl ?_
        refine Ch.skip rfl rfl ?_
        refine Ch.skip rfl rfl ?_
        refine Ch.skip rfl rfl ?_
        refine Ch.step (v := (.d (.bool false))) rfl (.pure (.pickF _ _ _ rfl rfl rfl)) rfl rfl ?_
        refine Ch.nil ?_
        refine T_cond (b := false) rfl (fun h => nomatch h) (fun _ => ?_)
        refine T_skip ?_
        refine T_region hc ?_
        refine Ch.step (v := (.d (.int .i64 (((k : Nat) : Int) + 1)))) rfl (.pure (.int _ _ _ _ _ rfl rfl rfl (intV_add (by first | omega | (simp only [List.length_map, List.length_append, List.length_take, List.length_drop, List.length_cons, List.length_nil]; omega) | (simp; omega) | (simp; done)) (by first | omega | (simp only [List.length_map, List.length_append, List.length_take, List.length_drop, List.length_cons, List.length_nil]; omega) | (simp; omega) | (simp; done))))) rfl rfl ?_
        refine Ch.step (v := (.d (.int .i64 (((k : Nat) : Int) + 1)))) rfl (.pure (.move _ rfl rfl)) rfl rfl ?_
        refine Ch.nil ?_
        refine Exists.intro (k + 1) (And.intro (by omega) (And.intro (by first | omega | (dsimp only; omega)) (Wk.of rfl rfl (And.intro rfl (And.intro rfl (And.intro rfl (And.intro (vS (by first | rfl | (exact (pick_yes (by unfold pickQ; refine ⟨by omega, ?_⟩; first | exact .inl (by assumption) | exact .inr (.inl (by omega)) | exact .inr (.inr ⟨by omega, by omega⟩))).symm) | (exact (pick_no (by unfold pickQ; rintro ⟨g1, g2⟩; rcases g2 with g2 | g2 | g2 <;> first | omega | exact absurd g2 (by assumption))).symm))) (And.intro rfl (And.intro rfl (And.intro (vI (by first | rfl | omega | (simp; done) | (simp; omega))) trivial))))))) (And.intro rfl (And.intro rfl trivial)))))
    · replace h2 := of_decide_eq_false h2
      try have hpk := getD_mem (l := (primR n on off)) (j := k) (d := default) (by omega)
      try have hpkl := hml _ hpk
      try have hb1 : bulkS [(primR n on off).getD k default] ≤ 1048576 := by (have hnn := hop.1.2; simp only [bulkS, List.map_cons, List.map_nil, List.sum_cons, List.sum_nil, List.length_cons, List.length_nil]; omega)
      try have hx1 := hpair ((primR n on off).getD k default) (by omega) q.2 hp0.sub
      try have hx2 := hpair (pickTo on (primR n on off) q.2 k) hpl q.2 hp0.sub
      refine T_exit ?_
      refine T_seq ?_
      refine T_seq ?_
      refine T_region hc ?_
      refine Ch.step (v := (.d (.str (pickTo on (primR n on off) q.2 k)))) rfl (.pure (.move _ rfl rfl)) rfl rfl ?_
      refine Ch.step (v := (.d (.bool (decide ((pickTo on (primR n on off) q.2 k) = []))))) rfl (.pure (.str _ _ _ _ _ rfl rfl rfl rfl)) rfl rfl ?_
      refine Ch.nil ?_
      refine T_cond (b := (decide ((pickTo on (primR n on off) q.2 k) = []))) rfl (fun h8 => ?_) (fun h8 => ?_)
      · replace h8 := of_decide_eq_true h8
        refine T_seq ?_
        refine T_region hc ?_
        refine Ch.step (v := (.row 10)) rfl (.pure (.move _ rfl rfl)) rfl rfl ?_
        refine Ch.step (v := (.row 10)) rfl (.pure (.assign _ rfl rfl)) rfl rfl ?_
        refine Ch.step (v := (.d (.bool true))) rfl (.pure (.assign _ rfl rfl)) rfl rfl ?_
        refine Ch.nil ?_
        refine T_ret ?_
        refine And.intro (.inr rfl) ?_
        exact Exists.intro [(.row 10), (.d (.bool true))] (Exists.intro [] (Exists.intro [10] (And.intro (.cons (.tmp 6 rfl) (.cons (.tmp 7 rfl) .nil)) (And.intro (.cons (.any _) (.cons (.any _) (.cons (.any _) .nil))) (And.intro (.tup (.cons (Exp.of (congrArg (D.slice true 1) (by first | (rw [grR, h1]; rfl) | (have e := hp0.stop (by rw [pick, show (primR n on off).length = k by omega]; assumption); rw [grR, if_pos h1, ← hpo.2.1, ← e]; done) | (rw [h1]; done))) (.row rfl)) (.cons (Exp.of (congrArg D.bool (by first | (rw [grR, h1]; rfl) | (have e := hp0.stop (by rw [pick, show (primR n on off).length = k by omega]; assumption); rw [grR, if_pos h1, ← hpo.2.1, ← e]; done) | (rw [h1]; done))) (.d _)) .nil))) (And.intro rfl rfl))))))
      · replace h8 := of_decide_eq_false h8
        refine T_skip ?_
        refine T_region hc ?_
        refine Ch.step (v := (.row 10)) rfl (.pure (.move _ rfl rfl)) rfl rfl ?_
        refine Ch.step (v := (.d (.str (pickTo on (primR n on off) q.2 k)))) rfl (.pure (.move _ rfl rfl)) rfl rfl ?_
        refine Ch.step (v := (.row 72000)) rfl (.slice 72000 _ 9 _ rfl sty22 (xs := [.tmp 71]) rfl rfl (.cons (.d _) .nil) rfl rfl (by decide)) rfl rfl ?_
        refine Ch.step (v := (.row 73000)) rfl (.append 73000 _ _ _ 9 rfl sty22 (by decide) (.rowK rfl) (.inr ⟨_, rfl, rfl⟩) (.row rfl rfl) rfl (by first | omega | (simp; omega) | (simp; done))) rfl rfl ?_
        refine Ch.step (v := (.row 73000)) rfl (.pure (.assign _ rfl rfl)) rfl rfl ?_
        refine Ch.nil ?_
        refine Exists.intro ((q.1 - 1, q.2 ++ [pick on (primR n on off) q.2])) (And.intro (hp0.next (by rw [pick, show (primR n on off).length = k by omega]; assumption)).2 (And.intro (by have h6 := (hp0.next (by rw [pick, show (primR n on off).length = k by omega]; assumption)).1; dsimp only; omega) (Wk.ren [(10, 73000)] rfl rfl rfl rfl (And.intro rfl (And.intro rfl (And.intro rfl trivial))) (And.intro (oR (by first | rfl | (rw [pick, show (primR n on off).length = k by omega, List.map_append]; rfl))) (And.intro rfl trivial)))))

theorem sp_impl_GreedyCover_1 (u a : List UInt8) (ha : a.length ≤ 1048576) (hl : a.length ≤ u.length) : Sp Try.prog 115 [(.str u), (.ref (.str a))] [.any, .any] (.bool (hasB a u)) := by
  refine Sp_intro (lend := true) Try.func115 rfl rfl rfl (fun _ => rfl) (fun c hc hX => ?_)
  refine T_seq ?_
  refine T_region hc ?_
  refine Ch.step (v := (.d (.bool false))) rfl (.pure (.assign _ rfl rfl)) rfl rfl ?_
  refine Ch.nil ?_
  refine T_seq ?_
  refine T_region hc ?_
  refine Ch.step (v := (.d (.str a))) rfl (.pure (.loadRef1 _ _ rfl ag9 rfl rfl)) rfl rfl ?_
  refine Ch.step (v := (.d (.str u))) rfl (.pure (.move _ rfl rfl)) rfl rfl ?_
  refine Ch.step (v := (.d (.bool (hasB a u)))) rfl (.call 6000 116 _ _ _ en116 rfl (.inl rfl) (.cons (.d _) (.cons (.d _) .nil)) rfl rfl (sp_impl_contains a u (by first | omega | assumption | (exact hx _ (getD_mem (by omega))) | (exact hx _ (by assumption)) | (exact Nat.le_trans (hx _ (by assumption)) (by omega)) | (simp only [List.length_append, List.length_take, List.length_drop, List.length_cons, List.length_nil]; omega) | (simp_all; done)) (by first | omega | assumption | (exact hx _ (getD_mem (by omega))) | (exact hx _ (by assumption)) | (exact Nat.le_trans (hx _ (by assumption)) (by omega)) | (simp only [List.length_append, List.length_take, List.length_drop, List.length_cons, List.length_nil]; omega) | (simp_all; done))) (.skip _ _ (.skip _ _ .nil)) rfl) rfl rfl ?_
  refine Ch.step (v := (.d (.bool (hasB a u)))) rfl (.pure (.assign _ rfl rfl)) rfl rfl ?_
  refine Ch.nil ?_
  refine T_ret ?_
  refine And.intro (.inr rfl) ?_
  exact Exists.intro [(.d (.bool (hasB a u)))] (Exists.intro [] (Exists.intro [] (And.intro (.cons (.tmp 3 rfl) .nil) (And.intro (.cons (.any _) (.cons (.any _) .nil)) (And.intro (.d _) (And.intro rfl rfl))))))

theorem sp_impl_GreedyCover (n : Int) (on off : List (List UInt8)) (hn1 : on.length ≤ 1048576) (hx1 : ∀ x ∈ on, x.length ≤ 1048576) (hn2 : off.length ≤ 1048576) (hx2 : ∀ x ∈ off, x.length ≤ 1048576) : Sp Try.prog 56 [(.int .i64 n), (.slice false 1 (on.map D.str)), (.slice false 1 (off.map D.str))] [.any, .any, .any] (.tup [(.slice true 1 ((grR n on off).map D.str)), (.bool (primOk n on off))]) := by
  refine Sp_intro (lend := true) Try.func56 rfl rfl rfl (fun _ => rfl) (fun c hc hX => ?_)
  refine T_seq ?_
  refine T_region hc ?_
  refine Ch.step (v := (.c (.slice none 0 0))) rfl (.pure (.assign _ rfl rfl)) rfl rfl ?_
  refine Ch.step (v := (.d (.bool false))) rfl (.pure (.assign _ rfl rfl)) rfl rfl ?_
  refine Ch.nil ?_
  refine T_seq ?_
  refine T_region hc ?_
  refine Ch.step (v := (.d (.int .i64 n))) rfl (.pure (.move _ rfl rfl)) rfl rfl ?_
  refine Ch.step (v := (.d (.slice false 1 (on.map D.str)))) rfl (.pure (.move _ rfl rfl)) rfl rfl ?_
  refine Ch.step (v := (.d (.slice false 1 (off.map D.str)))) rfl (.pure (.move _ rfl rfl)) rfl rfl ?_
  refine Ch.step (v := (.tup [(.row 21000), (.d (.bool (primOk n on off)))])) rfl (.call 21000 48 _ _ _ en48 rfl (.inl rfl) (.cons (.d _) (.cons (.d _) (.cons (.d _) .nil))) rfl (sol (by rw [D.solid]; exact solids_c (solid_row (fun _ => rfl) _) rfl) rfl) (sp_impl_Primes n on off (by first | omega | assumption | (exact hx _ (getD_mem (by omega))) | (exact hx _ (by assumption)) | (exact Nat.le_trans (hx _ (by assumption)) (by omega)) | (simp only [List.length_append, List.length_take, List.length_drop, List.length_cons, List.length_nil]; omega) | (simp_all; done)) (by first | omega | assumption | (exact hx _ (getD_mem (by omega))) | (exact hx _ (by assumption)) | (exact Nat.le_trans (hx _ (by assumption)) (by omega)) | (simp only [List.length_append, List.length_take, List.length_drop, List.length_cons, List.length_nil]; omega) | (simp_all; done)) (by first | omega | assumption | (exact hx _ (getD_mem (by omega))) | (exact hx _ (by assumption)) | (exact Nat.le_trans (hx _ (by assumption)) (by omega)) | (simp only [List.length_append, List.length_take, List.length_drop, List.length_cons, List.length_nil]; omega) | (simp_all; done)) (by first | omega | assumption | (exact hx _ (getD_mem (by omega))) | (exact hx _ (by assumption)) | (exact Nat.le_trans (hx _ (by assumption)) (by omega)) | (simp only [List.length_append, List.length_take, List.length_drop, List.length_cons, List.length_nil]; omega) | (simp_all; done))) (.skip _ _ (.skip _ _ (.skip _ _ .nil))) rfl) rfl rfl ?_
  refine Ch.step (v := (.tup [(.row 21000), (.d (.bool (primOk n on off)))])) rfl (.pure (.move _ rfl rfl)) rfl rfl ?_
  refine Ch.step (v := (.row 21000)) rfl (.pure (.extract _ rfl rfl rfl)) rfl rfl ?_
  refine Ch.step (v := (.d (.bool (primOk n on off)))) rfl (.pure (.extract _ rfl rfl rfl)) rfl rfl ?_
  refine Ch.step (v := (.row 21000)) rfl (.pure (.assign _ rfl rfl)) rfl rfl ?_
  refine Ch.step (v := (.d (.bool (primOk n on off)))) rfl (.pure (.assign _ rfl rfl)) rfl rfl ?_
  refine Ch.nil ?_
  refine T_seq ?_
  refine T_seq ?_
  refine T_region hc ?_
  refine Ch.step (v := (.d (.bool (primOk n on off)))) rfl (.pure (.move _ rfl rfl)) rfl rfl ?_
  refine Ch.step (v := (.d (.bool (!(primOk n on off))))) rfl (.pure (.not _ _ rfl rfl)) rfl rfl ?_
  refine Ch.nil ?_
  refine T_cond (b := (!(primOk n on off))) rfl (fun h1 => ?_) (fun h1 => ?_)
  · replace h1 := nott h1
    try have hpo := prim_ok_on h1
    try have hop := onoff_parts hpo.1
    try have hrl : (primR n on off).length ≤ 60 := primR_le n on off
    try have hml : ∀ p ∈ primR n on off, p.length = n.toNat := fun p hp => by (rw [hpo.2.1] at hp; exact primL_mem p hp)
    try have hne : ∀ p ∈ primR n on off, p ≠ [] := fun p hp e => by (have h6 := hml p hp; have h7 := hop.1.1; rw [e] at h6; simp at h6; omega)
    try have hml8 : ∀ p ∈ primR n on off, p.length ≤ 8 := fun p hp => by (have h6 := hml p hp; have h7 := hop.1.2; omega)
    try have hcv : Covs on (primR n on off) := by (rw [hpo.2.1]; exact prim_covers hpo.1)
    try have hou : ∀ u ∈ on, u.length = n.toNat := fun u hu => by (have h6 := hop.2.2.2.1 u hu; omega)
    try have hn64 := hop.2.1
    try have hpair : ∀ a : List UInt8, a.length ≤ n.toNat → ∀ t : List (List UInt8), (∀ b ∈ t, b ∈ primR n on off) → ∀ u ∈ on, a.length ≤ u.length ∧ u.length ≤ 1048576 ∧ ∀ b ∈ t, b.length ≤ u.length := fun a ha t ht u hu => ⟨by (have h6 := hou u hu; omega), by (have h6 := hou u hu; have h7 := hop.1.2; omega), fun b hb => by (have h6 := hou u hu; have h7 := hml b (ht b hb); omega)⟩
    refine T_seq ?_
    refine T_region hc ?_
    refine Ch.step (v := (.c (.slice none 0 0))) rfl (.pure (.assign _ rfl rfl)) rfl rfl ?_
    refine Ch.step (v := (.d (.bool false))) rfl (.pure (.assign _ rfl rfl)) rfl rfl ?_
    refine Ch.nil ?_
    refine T_ret ?_
    refine And.intro (.inr rfl) ?_
    exact Exists.intro [(.c (.slice none 0 0)), (.d (.bool false))] (Exists.intro [] (Exists.intro [] (And.intro (.cons (.tmp 6 rfl) (.cons (.tmp 7 rfl) .nil)) (And.intro (.cons (.any _) (.cons (.any _) (.cons (.any _) .nil))) (And.intro (.tup (.cons (Exp.of (congrArg (D.slice true 1) (by first | (rw [grR, h1]; rfl) | (have e := hp0.stop ((pick_left hcv hne).2 (List.eq_nil_of_length_eq_zero (by omega))); rw [grR, if_pos h1, ← hpo.2.1, ← e]; done) | (rw [h1]; done))) (.nil true 1)) (.cons (Exp.of (congrArg D.bool (by first | (rw [grR, h1]; rfl) | (have e := hp0.stop ((pick_left hcv hne).2 (List.eq_nil_of_length_eq_zero (by omega))); rw [grR, if_pos h1, ← hpo.2.1, ← e]; done) | (rw [h1]; done))) (.d _)) .nil))) (And.intro rfl rfl))))))
  · replace h1 := notf h1
    try have hpo := prim_ok_on h1
    try have hop := onoff_parts hpo.1
    try have hrl : (primR n on off).length ≤ 60 := primR_le n on off
    try have hml : ∀ p ∈ primR n on off, p.length = n.toNat := fun p hp => by (rw [hpo.2.1] at hp; exact primL_mem p hp)
    try have hne : ∀ p ∈ primR n on off, p ≠ [] := fun p hp e => by (have h6 := hml p hp; have h7 := hop.1.1; rw [e] at h6; simp at h6; omega)
    try have hml8 : ∀ p ∈ primR n on off, p.length ≤ 8 := fun p hp => by (have h6 := hml p hp; have h7 := hop.1.2; omega)
    try have hcv : Covs on (primR n on off) := by (rw [hpo.2.1]; exact prim_covers hpo.1)
    try have hou : ∀ u ∈ on, u.length = n.toNat := fun u hu => by (have h6 := hop.2.2.2.1 u hu; omega)
    try have hn64 := hop.2.1
    try have hpair : ∀ a : List UInt8, a.length ≤ n.toNat → ∀ t : List (List UInt8), (∀ b ∈ t, b ∈ primR n on off) → ∀ u ∈ on, a.length ≤ u.length ∧ u.length ≤ 1048576 ∧ ∀ b ∈ t, b.length ≤ u.length := fun a ha t ht u hu => ⟨by (have h6 := hou u hu; omega), by (have h6 := hou u hu; have h7 := hop.1.2; omega), fun b hb => by (have h6 := hou u hu; have h7 := hml b (ht b hb); omega)⟩
    refine T_skip ?_
    refine T_seq ?_
    refine T_region hc ?_
    refine Ch.step (v := (.row 26000)) rfl (.slice 26000 _ 9 _ rfl sty22 (xs := []) rfl rfl .nil rfl rfl (by decide)) rfl rfl ?_
    refine Ch.step (v := (.d (.slice false 1 (on.map D.str)))) rfl (.pure (.move _ rfl rfl)) rfl rfl ?_
    refine Ch.step (v := (.row 28000)) rfl (.call 28000 101 _ _ _ en101 rfl (.inl rfl) (.cons (.d _) .nil) rfl (sol (solid_row (fun _ => rfl) _) rfl) (sp_Clone_str on (by first | omega | assumption | (exact hx _ (getD_mem (by omega))) | (exact hx _ (by assumption)) | (exact Nat.le_trans (hx _ (by assumption)) (by omega)) | (simp only [List.length_append, List.length_take, List.length_drop, List.length_cons, List.length_nil]; omega) | (simp_all; done))) (.skip _ _ .nil) rfl) rfl rfl ?_
    refine Ch.step (v := (.row 26000)) rfl (.pure (.assign _ rfl rfl)) rfl rfl ?_
    refine Ch.step (v := (.row 28000)) rfl (.pure (.assign _ rfl rfl)) rfl rfl ?_
    refine Ch.nil ?_
    refine T_seq ?_
    refine T_block ?_
    refine T_loop (ι := Nat × List (List UInt8)) (fun q => { n := 73, sl := [(8, (.row 21000)), (10, (.row 10)), (11, (.row 11))], hp := [(10, (some (.row 1 (q.2.map D.str)))), (11, (some (.row 1 ((leftL on q.2).map D.str)))), (21000, (some (.row 1 ((primR n on off).map D.str))))], pin := [] }) (fun q => GrdInv on (primR n on off) q) (fun q => q.1) ⟨(on.length, []), (GrdInv.start _ _), (Wk.ren [(10, 26000), (11, 28000)] rfl rfl rfl rfl (And.intro rfl (And.intro rfl (And.intro rfl trivial))) (And.intro (oR (by first | rfl | (rw [pick, show (primR n on off).length = k by omega, List.map_append]; rfl))) (And.intro (oR (by first | (rw [left_nil]; done) | (rw [← left_next, pick, show (primR n on off).length = k by omega]; done))) (And.intro rfl trivial))))⟩ (fun q hp0 => ?_)
    have hgl := hp0.len; have hlf := hp0.left
    refine T_seq ?_
    refine T_seq ?_
    refine T_region hc ?_
    refine Ch.step (v := (.row 11)) rfl (.pure (.move _ rfl rfl)) rfl rfl ?_
    refine Ch.step (v := (.d (.int .i64 (((leftL on q.2).length : Nat) : Int)))) rfl (.pure (.len _ _ 9 rfl Try.underlying22 (.row rfl) (by simp))) rfl rfl ?_
    refine Ch.step (v := (.d (.bool (decide (0 < (((leftL on q.2).length : Nat) : Int)))))) rfl (.pure (.int _ _ _ _ _ rfl rfl rfl rfl)) rfl rfl ?_
    refine Ch.nil ?_
    refine T_cond (b := (decide (0 < (((leftL on q.2).length : Nat) : Int)))) rfl (fun h2 => ?_) (fun h2 => ?_)
    · replace h2 := of_decide_eq_true h2
      try have hpk : pick on (primR n on off) q.2 ≠ [] := fun e => by (have h6 := (pick_left hcv hne).1 e; rw [h6] at h2; exact absurd h2 (by decide))
      try have hnx := hp0.next hpk
      refine T_skip ?_
      refine T_block ?_
      refine T_seq ?_
      refine T_region hc ?_
      refine Ch.step (v := (.ptr 12000 0)) rfl (.alloc 12000 _ rfl zer9) rfl rfl ?_
      refine Ch.step (v := .junk) rfl (.storePtr _ _ _ rfl rfl rfl (.one _ rfl) sz9 (Nat.le_of_ble_eq_true rfl)) rfl rfl ?_
      refine Ch.step (v := (.d (.int .i64 0))) rfl (.pure (.assign _ rfl rfl)) rfl rfl ?_
      refine Ch.nil ?_
      refine T_seq ?_
      refine T_seq ?_
      refine T_region hc ?_
      refine Ch.step (v := (.row 21000)) rfl (.pure (.move _ rfl rfl)) rfl rfl ?_
      refine Ch.step (v := (.d (.int .i64 (((primR n on off).length : Nat) : Int)))) rfl (.pure (.len _ _ 9 rfl Try.underlying22 (.row rfl) (by simp))) rfl rfl ?_
      refine Ch.step (v := (.d (.int .i64 0))) rfl (.pure (.move _ rfl rfl)) rfl rfl ?_
      refine Ch.nil ?_
      refine T_block ?_
      refine T_loop (ι := Nat) (fun k => { n := 73, sl := [(8, (.row 21000)), (10, (.row 10)), (11, (.row 11)), (12, (.ptr 12000 0)), (13, (.d (.int .i64 ((mostTo on (primR n on off) q.2 k : Nat) : Int)))), (32, (.row 21000)), (33, (.d (.int .i64 (((primR n on off).length : Nat) : Int)))), (34, (.d (.int .i64 ((k : Nat) : Int))))], hp := [(10, (some (.row 1 (q.2.map D.str)))), (11, (some (.row 1 ((leftL on q.2).map D.str)))), (12000, (some (.box [(.d (.str (pickTo on (primR n on off) q.2 k)))]))), (21000, (some (.row 1 ((primR n on off).map D.str))))], pin := [] }) (fun k => k ≤ (primR n on off).length) (fun k => (primR n on off).length - k) ⟨0, (by omega), (Wk.of rfl rfl (And.intro rfl (And.intro rfl (And.intro rfl (And.intro rfl (And.intro (vI (by first | rfl | (rw [(most_yes (hne _ hpm) (by first | exact .inl (by omega) | exact .inr ⟨by omega, by omega, by omega⟩)).2, hgn]; done) | (rw [(most_no (by omega)).2]; done))) (And.intro rfl (And.intro rfl (And.intro (vI (by first | rfl | omega | (simp; done) | (simp; omega))) trivial)))))))) (And.intro rfl (And.intro rfl (And.intro (oB (Eq.trans (b := [(.d (.str []))]) rfl (by first | rfl | (rw [(most_yes (hne _ hpm) (by first | exact .inl (by omega) | exact .inr ⟨by omega, by omega, by omega⟩)).1]; done) | (rw [(most_no (by omega)).1]; done)))) (And.intro rfl trivial)))))⟩ (fun k hp1 => ?_)
      have hmp := mosts_pos (on := on) (l := (primR n on off)) (taken := q.2) (k := k); have hpl := pickTo_len (on := on) (taken := q.2) (m := n.toNat) (fun p hp => Nat.le_of_eq (hml p hp)) k hp1; have hpl1 : bulkS [pickTo on (primR n on off) q.2 k] ≤ 1048576 := by (have hnn := hop.1.2; simp only [bulkS, List.map_cons, List.map_nil, List.sum_cons, List.sum_nil, List.length_cons, List.length_nil]; omega)
      refine T_seq ?_
      refine T_region hc ?_
      refine Ch.step (v := (.d (.bool (decide (((k : Nat) : Int) < (((primR n on off).length : Nat) : Int)))))) rfl (.pure (.int _ _ _ _ _ rfl rfl rfl rfl)) rfl rfl ?_
      refine Ch.nil ?_
      refine T_seq ?_
      refine T_cond (b := (decide (((k : Nat) : Int) < (((primR n on off).length : Nat) : Int)))) rfl (fun h3 => ?_) (fun h3 => ?_)
      · replace h3 := of_decide_eq_true h3
        try have hpm := getD_mem (l := (primR n on off)) (j := k) (d := default) (by omega)
        try have hpkl := hml _ hpm
        try have hb1 : bulkS [(primR n on off).getD k default] ≤ 1048576 := by (have hnn := hop.1.2; simp only [bulkS, List.map_cons, List.map_nil, List.sum_cons, List.sum_nil, List.length_cons, List.length_nil]; omega)
        try have hx1 : ∀ u ∈ leftL on q.2, ((primR n on off).getD k default).length ≤ u.length := fun u hu => by (have h6 := hou u (List.mem_filter.1 hu).1; omega)
        try have hgn := gain_left ((primR n on off).getD k default) on q.2
        refine T_skip ?_
        refine T_seq ?_
        refine T_block ?_
        refine T_seq ?_
        refine T_region hc ?_
        refine Ch.step (v := (.el 21000 1 k 0)) rfl (.pure (.idxRow _ _ _ 9 (k) rfl Try.underlying22 sz9 rfl rfl rfl rfl (by first | omega | (simp; omega)))) rfl rfl ?_
        refine Ch.step (v := (.d (.str ((primR n on off).getD k default)))) rfl (.pure (.loadEl1 _ _ rfl ag9 rfl rfl (get_map _ (by first | omega | (simp only [List.length_map, List.length_append, List.length_take, List.length_drop, List.length_cons, List.length_nil]; omega) | (simp; omega) | (simp; done))) rfl rfl rfl)) rfl rfl ?_
        refine Ch.step (v := (.d (.str ((primR n on off).getD k default)))) rfl (.pure (.assign _ rfl rfl)) rfl rfl ?_
        refine Ch.nil ?_
        refine T_seq ?_
        refine T_region hc ?_
        refine Ch.step (v := (.d (.str ((primR n on off).getD k default)))) rfl (.pure (.move _ rfl rfl)) rfl rfl ?_
        refine Ch.step (v := (.row 11)) rfl (.pure (.move _ rfl rfl)) rfl rfl ?_
        refine Ch.step (v := (.d (.int .i64 ((gainN ((primR n on off).getD k default) (leftL on q.2) : Nat) : Int)))) rfl (.call 40000 113 _ _ _ en113 rfl (.inl rfl) (.cons (.d _) (.cons (.lend (.row rfl (frozs_map (fun _ => rfl) _))) .nil)) rfl rfl (sp_impl_gain ((primR n on off).getD k default) (leftL on q.2) (by first | omega | assumption | (exact hx _ (getD_mem (by omega))) | (exact hx _ (by assumption)) | (exact Nat.le_trans (hx _ (by assumption)) (by omega)) | (simp only [List.length_append, List.length_take, List.length_drop, List.length_cons, List.length_nil]; omega) | (simp_all; done)) (by first | omega | assumption | (exact hx _ (getD_mem (by omega))) | (exact hx _ (by assumption)) | (exact Nat.le_trans (hx _ (by assumption)) (by omega)) | (simp only [List.length_append, List.length_take, List.length_drop, List.length_cons, List.length_nil]; omega) | (simp_all; done)) (by assumption)) (.skip _ _ (.skip _ _ .nil)) rfl) rfl rfl ?_
        refine Ch.step (v := (.d (.int .i64 ((gainN ((primR n on off).getD k default) (leftL on q.2) : Nat) : Int)))) rfl (.pure (.assign _ rfl rfl)) rfl rfl ?_
        refine Ch.nil ?_
        refine T_seq ?_
        refine T_regionD hc (by kernel_rfl) ?_
        refine ChD.step (v := (.d (.int .i64 ((gainN ((primR n on off).getD k default) (leftL on q.2) : Nat) : Int)))) [] rfl (.pure (.move _ rfl rfl)) rfl rfl ?_
        refine ChD.step (v := (.d (.int .i64 ((mostTo on (primR n on off) q.2 k : Nat) : Int)))) [] rfl (.pure (.move _ rfl rfl)) rfl rfl ?_
        refine ChD.step (v := (.d (.bool (decide (((mostTo on (primR n on off) q.2 k : Nat) : Int) < ((gainN ((primR n on off).getD k default) (leftL on q.2) : Nat) : Int)))))) [] rfl (.pure (.int _ _ _ _ _ rfl rfl rfl rfl)) rfl rfl ?_
        refine ChD.step (v := (.d (.bool (decide (((mostTo on (primR n on off) q.2 k : Nat) : Int) < ((gainN ((primR n on off).getD k default) (leftL on q.2) : Nat) : Int)))))) [] rfl (.pure (.move _ rfl rfl)) rfl rfl ?_
        cases h4 : (decide (((mostTo on (primR n on off) q.2 k : Nat) : Int) < ((gainN ((primR n on off).getD k default) (leftL on q.2) : Nat) : Int))) with
        | true =>
          replace h4 := of_decide_eq_true h4
          refine ChD.skip rfl rfl ?_
          refine ChD.skip rfl rfl ?_
          refine ChD.skip rfl rfl ?_
          refine ChD.skip rfl rfl ?_
          refine ChD.skip rfl rfl ?_
          refine ChD.skip rfl rfl ?_
          refine ChD.skip rfl rfl ?_
          refine ChD.skip rfl rfl ?_
          refine ChD.skip rfl rfl ?_
          refine ChD.skip rfl rfl ?_
          refine ChD.skip rfl rfl ?_
          refine ChD.skip rfl rfl ?_
          refine ChD.skip rfl rfl ?_
          refine ChD.skip rfl rfl ?_
          refine ChD.skip rfl rfl ?_
          refine ChD.skip rfl rfl ?_
          refine ChD.step (v := (.d (.bool true))) [] rfl (.pure (.pickT _ _ _ rfl rfl rfl)) rfl rfl ?_
          refine ChD.nil (And.intro ?_ (by kernel_rfl))
          refine T_cond (b := true) rfl (fun _ => ?_) (fun h => nomatch h)
          refine T_region hc ?_
          refine Ch.step (v := (.d (.str ((primR n on off).getD k default)))) rfl (.pure (.move _ rfl rfl)) rfl rfl ?_
          refine Ch.step (v := (.d (.int .i64 ((gainN ((primR n on off).getD k default) (leftL on q.2) : Nat) : Int)))) rfl (.pure (.move _ rfl rfl)) rfl rfl ?_
          refine Ch.step (v := .junk) rfl (.storePtr _ _ _ rfl rfl rfl (.one _ rfl) sz9 (Nat.le_of_ble_eq_true rfl)) rfl rfl ?_
          refine Ch.step (v := (.d (.int .i64 ((gainN ((primR n on off).getD k default) (leftL on q.2) : Nat) : Int)))) rfl (.pure (.assign _ rfl rfl)) rfl rfl ?_
          refine Ch.nil ?_
          refine T_region hc ?_
          refine Ch.step (v := (.d (.int .i64 (((k : Nat) : Int) + 1)))) rfl (.pure (.int _ _ _ _ _ rfl rfl rfl (intV_add (by first | omega | (simp only [List.length_map, List.length_append, List.length_take, List.length_drop, List.length_cons, List.length_nil]; omega) | (simp; omega) | (simp; done)) (by first | omega | (simp only [List.length_map, List.length_append, List.length_take, List.length_drop, List.length_cons, List.length_nil]; omega) | (simp; omega) | (simp; done))))) rfl rfl ?_
          refine Ch.step (v := (.d (.int .i64 (((k : Nat) : Int) + 1)))) rfl (.pure (.move _ rfl rfl)) rfl rfl ?_
          refine Ch.nil ?_
          refine Exists.intro (k + 1) (And.intro (by omega) (And.intro (by first | omega | (dsimp only; omega)) (Wk.of rfl rfl (And.intro rfl (And.intro rfl (And.intro rfl (And.intro rfl (And.intro (vI (by first | rfl | (rw [(most_yes (hne _ hpm) (by first | exact .inl (by omega) | exact .inr ⟨by omega, by omega, by omega⟩)).2, hgn]; done) | (rw [(most_no (by omega)).2]; done))) (And.intro rfl (And.intro rfl (And.intro (vI (by first | rfl | omega | (simp; done) | (simp; omega))) trivial)))))))) (And.intro rfl (And.intro rfl (And.intro (oB (Eq.trans (b := [(.d (.str ((primR n on off).getD k default)))]) rfl (by first | rfl | (rw [(most_yes (hne _ hpm) (by first | exact .inl (by omega) | exact .inr ⟨by omega, by omega, by omega⟩)).1]; done) | (rw [(most_no (by omega)).1]; done)))) (And.intro rfl trivial)))))))
        | false =>
          replace h4 := of_decide_eq_false h4
          refine ChD.step (v := (.d (.int .i64 ((gainN ((primR n on off).getD k default) (leftL on q.2) : Nat) : Int)))) [] rfl (.pure (.move _ rfl rfl)) rfl rfl ?_
          refine ChD.step (v := (.d (.int .i64 ((mostTo on (primR n on off) q.2 k : Nat) : Int)))) [] rfl (.pure (.move _ rfl rfl)) rfl rfl ?_
          refine ChD.step (v := (.d (.bool (decide (((gainN ((primR n on off).getD k default) (leftL on q.2) : Nat) : Int) = ((mostTo on (primR n on off) q.2 k : Nat) : Int)))))) [] rfl (.pure (.int _ _ _ _ _ rfl rfl rfl rfl)) rfl rfl ?_
          refine ChD.step (v := (.d (.bool (decide (((gainN ((primR n on off).getD k default) (leftL on q.2) : Nat) : Int) = ((mostTo on (primR n on off) q.2 k : Nat) : Int)))))) [] rfl (.pure (.move _ rfl rfl)) rfl rfl ?_
          cases h5 : (decide (((gainN ((primR n on off).getD k default) (leftL on q.2) : Nat) : Int) = ((mostTo on (primR n on off) q.2 k : Nat) : Int))) with
          | true =>
            replace h5 := of_decide_eq_true h5
            refine ChD.step (v := (.d (.int .i64 ((gainN ((primR n on off).getD k default) (leftL on q.2) : Nat) : Int)))) [] rfl (.pure (.move _ rfl rfl)) rfl rfl ?_
            refine ChD.step (v := (.d (.bool (decide (0 < ((gainN ((primR n on off).getD k default) (leftL on q.2) : Nat) : Int)))))) [] rfl (.pure (.int _ _ _ _ _ rfl rfl rfl rfl)) rfl rfl ?_
            refine ChD.step (v := (.d (.bool (decide (0 < ((gainN ((primR n on off).getD k default) (leftL on q.2) : Nat) : Int)))))) [] rfl (.pure (.pickT _ _ _ rfl rfl rfl)) rfl rfl ?_
            refine ChD.step (v := (.d (.bool (decide (0 < ((gainN ((primR n on off).getD k default) (leftL on q.2) : Nat) : Int)))))) [] rfl (.pure (.move _ rfl rfl)) rfl rfl ?_
            cases h6 : (decide (0 < ((gainN ((primR n on off).getD k default) (leftL on q.2) : Nat) : Int))) with
            | true =>
              replace h6 := of_decide_eq_true h6
              refine ChD.step (v := (.d (.str ((primR n on off).getD k default)))) [] rfl (.pure (.move _ rfl rfl)) rfl rfl ?_
              refine ChD.step (v := (.row 54000)) [] rfl (.slice 54000 _ 9 _ rfl sty22 (xs := [.tmp 53]) rfl rfl (.cons (.d _) .nil) rfl rfl (by decide)) rfl rfl ?_
              refine ChD.step (v := (.d (.int .i64 ((lits ([((primR n on off).getD k default)]) : Nat) : Int)))) [54000] rfl (.call 55000 106 _ _ _ en106 rfl (.inl rfl) (.cons (.lend (.row (ys := (([((primR n on off).getD k default)]).map D.str)) rfl rfl)) .nil) rfl rfl (sp_impl_literals ([((primR n on off).getD k default)]) (by first | omega | assumption | (exact hx _ (getD_mem (by omega))) | (exact hx _ (by assumption)) | (exact Nat.le_trans (hx _ (by assumption)) (by omega)) | (simp only [List.length_append, List.length_take, List.length_drop, List.length_cons, List.length_nil]; omega) | (simp_all; done))) (.skip _ _ .nil) rfl) rfl rfl ?_
              refine ChD.step (v := (.d (.str (pickTo on (primR n on off) q.2 k)))) [12000] rfl (.pure (.loadPtr1 _ _ rfl ag9 rfl rfl rfl)) rfl rfl ?_
              refine ChD.step (v := (.row 57000)) [] rfl (.slice 57000 _ 9 _ rfl sty22 (xs := [.tmp 56]) rfl rfl (.cons (.d _) .nil) rfl rfl (by decide)) rfl rfl ?_
              refine ChD.step (v := (.d (.int .i64 ((lits ([(pickTo on (primR n on off) q.2 k)]) : Nat) : Int)))) [57000] rfl (.call 58000 106 _ _ _ en106 rfl (.inl rfl) (.cons (.lend (.row (ys := (([(pickTo on (primR n on off) q.2 k)]).map D.str)) rfl rfl)) .nil) rfl rfl (sp_impl_literals ([(pickTo on (primR n on off) q.2 k)]) (by first | omega | assumption | (exact hx _ (getD_mem (by omega))) | (exact hx _ (by assumption)) | (exact Nat.le_trans (hx _ (by assumption)) (by omega)) | (simp only [List.length_append, List.length_take, List.length_drop, List.length_cons, List.length_nil]; omega) | (simp_all; done))) (.skip _ _ .nil) rfl) rfl rfl ?_
              refine ChD.step (v := (.d (.bool (decide (((lits ([((primR n on off).getD k default)]) : Nat) : Int) < ((lits ([(pickTo on (primR n on off) q.2 k)]) : Nat) : Int)))))) [] rfl (.pure (.int _ _ _ _ _ rfl rfl rfl rfl)) rfl rfl ?_
              refine ChD.step (v := (.d (.bool (decide (((lits ([((primR n on off).getD k default)]) : Nat) : Int) < ((lits ([(pickTo on (primR n on off) q.2 k)]) : Nat) : Int)))))) [] rfl (.pure (.pickT _ _ _ rfl rfl rfl)) rfl rfl ?_
              refine ChD.step (v := (.d (.bool (decide (((lits ([((primR n on off).getD k default)]) : Nat) : Int) < ((lits ([(pickTo on (primR n on off) q.2 k)]) : Nat) : Int)))))) [] rfl (.pure (.pickF _ _ _ rfl rfl rfl)) rfl rfl ?_
              refine ChD.nil (And.intro ?_ (by kernel_rfl))
              refine T_cond (b := (decide (((lits ([((primR n on off).getD k default)]) : Nat) : Int) < ((lits ([(pickTo on (primR n on off) q.2 k)]) : Nat) : Int)))) rfl (fun h7 => ?_) (fun h7 => ?_)
              · replace h7 := of_decide_eq_true h7
                refine T_region hc ?_
                refine Ch.step (v := (.d (.str ((primR n on off).getD k default)))) rfl (.pure (.move _ rfl rfl)) rfl rfl ?_
                refine Ch.step (v := (.d (.int .i64 ((gainN ((primR n on off).getD k default) (leftL on q.2) : Nat) : Int)))) rfl (.pure (.move _ rfl rfl)) rfl rfl ?_
                refine Ch.step (v := .junk) rfl (.storePtr _ _ _ rfl rfl rfl (.one _ rfl) sz9 (Nat.le_of_ble_eq_true rfl)) rfl rfl ?_
                refine Ch.step (v := (.d (.int .i64 ((gainN ((primR n on off).getD k default) (leftL on q.2) : Nat) : Int)))) rfl (.pure (.assign _ rfl rfl)) rfl rfl ?_
                refine Ch.nil ?_
                refine T_region hc ?_
                refine Ch.step (v := (.d (.int .i64 (((k : Nat) : Int) + 1)))) rfl (.pure (.int _ _ _ _ _ rfl rfl rfl (intV_add (by first | omega | (simp only [List.length_map, List.length_append, List.length_take, List.length_drop, List.length_cons, List.length_nil]; omega) | (simp; omega) | (simp; done)) (by first | omega | (simp only [List.length_map, List.length_append, List.length_take, List.length_drop, List.length_cons, List.length_nil]; omega) | (simp; omega) | (simp; done))))) rfl rfl ?_
                refine Ch.step (v := (.d (.int .i64 (((k : Nat) : Int) + 1)))) rfl (.pure (.move _ rfl rfl)) rfl rfl ?_
                refine Ch.nil ?_
                refine Exists.intro (k + 1) (And.intro (by omega) (And.intro (by first | omega | (dsimp only; omega)) (Wk.of rfl rfl (And.intro rfl (And.intro rfl (And.intro rfl (And.intro rfl (And.intro (vI (by first | rfl | (rw [(most_yes (hne _ hpm) (by first | exact .inl (by omega) | exact .inr ⟨by omega, by omega, by omega⟩)).2, hgn]; done) | (rw [(most_no (by omega)).2]; done))) (And.intro rfl (And.intro rfl (And.intro (vI (by first | rfl | omega | (simp; done) | (simp; omega))) trivial)))))))) (And.intro rfl (And.intro rfl (And.intro (oB (Eq.trans (b := [(.d (.str ((primR n on off).getD k default)))]) rfl (by first | rfl | (rw [(most_yes (hne _ hpm) (by first | exact .inl (by omega) | exact .inr ⟨by omega, by omega, by omega⟩)).1]; done) | (rw [(most_no (by omega)).1]; done)))) (And.intro rfl trivial)))))))
              · replace h7 := of_decide_eq_false h7
                refine T_skip ?_
                refine T_region hc ?_
                refine Ch.step (v := (.d (.int .i64 (((k : Nat) : Int) + 1)))) rfl (.pure (.int _ _ _ _ _ rfl rfl rfl (intV_add (by first | omega | (simp only [List.length_map, List.length_append, List.length_take, List.length_drop, List.length_cons, List.length_nil]; omega) | (simp; omega) | (simp; done)) (by first | omega | (simp only [List.length_map, List.length_append, List.length_take, List.length_drop, List.length_cons, List.length_nil]; omega) | (simp; omega) | (simp; done))))) rfl rfl ?_
                refine Ch.step (v := (.d (.int .i64 (((k : Nat) : Int) + 1)))) rfl (.pure (.move _ rfl rfl)) rfl rfl ?_
                refine Ch.nil ?_
                refine Exists.intro (k + 1) (And.intro (by omega) (And.intro (by first | omega | (dsimp only; omega)) (Wk.of rfl rfl (And.intro rfl (And.intro rfl (And.intro rfl (And.intro rfl (And.intro (vI (by first | rfl | (rw [(most_yes (hne _ hpm) (by first | exact .inl (by omega) | exact .inr ⟨by omega, by omega, by omega⟩)).2, hgn]; done) | (rw [(most_no (by omega)).2]; done))) (And.intro rfl (And.intro rfl (And.intro (vI (by first | rfl | omega | (simp; done) | (simp; omega))) trivial)))))))) (And.intro rfl (And.intro rfl (And.intro (oB (Eq.trans (b := [(.d (.str (pickTo on (primR n on off) q.2 k)))]) rfl (by first | rfl | (rw [(most_yes (hne _ hpm) (by first | exact .inl (by omega) | exact .inr ⟨by omega, by omega, by omega⟩)).1]; done) | (rw [(most_no (by omega)).1]; done)))) (And.intro rfl trivial)))))))
            | false =>
              replace h6 := of_decide_eq_false h6
              refine ChD.skip rfl rfl ?_
              refine ChD.skip rfl rfl ?_
              refine ChD.skip rfl rfl ?_
              refine ChD.skip rfl rfl ?_
              refine ChD.skip rfl rfl ?_
              refine ChD.skip rfl rfl ?_
              refine ChD.skip rfl rfl ?_
              refine ChD.step (v := (.d (.bool false))) [] rfl (.pure (.pickF _ _ _ rfl rfl rfl)) rfl rfl ?_
              refine ChD.step (v := (.d (.bool false))) [] rfl (.pure (.pickF _ _ _ rfl rfl rfl)) rfl rfl ?_
              refine ChD.nil (And.intro ?_ (by kernel_rfl))
              refine T_cond (b := false) rfl (fun h => nomatch h) (fun _ => ?_)
              refine T_skip ?_
              refine T_region hc ?_
              refine Ch.step (v := (.d (.int .i64 (((k : Nat) : Int) + 1)))) rfl (.pure (.int _ _ _ _ _ rfl rfl rfl (intV_add (by first | omega | (simp only [List.length_map, List.length_append, List.length_take, List.length_drop, List.length_cons, List.length_nil]; omega) | (simp; omega) | (simp; done)) (by first | omega | (simp only [List.length_map, List.length_append, List.length_take, List.length_drop, List.length_cons, List.length_nil]; omega) | (simp; omega) | (simp; done))))) rfl rfl ?_
              refine Ch.step (v := (.d (.int .i64 (((k : Nat) : Int) + 1)))) rfl (.pure (.move _ rfl rfl)) rfl rfl ?_
              refine Ch.nil ?_
              refine Exists.intro (k + 1) (And.intro (by omega) (And.intro (by first | omega | (dsimp only; omega)) (Wk.of rfl rfl (And.intro rfl (And.intro rfl (And.intro rfl (And.intro rfl (And.intro (vI (by first | rfl | (rw [(most_yes (hne _ hpm) (by first | exact .inl (by omega) | exact .inr ⟨by omega, by omega, by omega⟩)).2, hgn]; done) | (rw [(most_no (by omega)).2]; done))) (And.intro rfl (And.intro rfl (And.intro (vI (by first | rfl | omega | (simp; done) | (simp; omega))) trivial)))))))) (And.intro rfl (And.intro rfl (And.intro (oB (Eq.trans (b := [(.d (.str (pickTo on (primR n on off) q.2 k)))]) rfl (by first | rfl | (rw [(most_yes (hne _ hpm) (by first | exact .inl (by omega) | exact .inr ⟨by omega, by omega, by omega⟩)).1]; done) | (rw [(most_no (by omega)).1]; done)))) (And.intro rfl trivial)))))))
          | false =>
            replace h5 := of_decide_eq_false h5
            refine ChD.skip rfl rfl ?_
            refine ChD.skip rfl rfl ?_
            refine ChD.step (v := (.d (.bool false))) [] rfl (.pure (.pickF _ _ _ rfl rfl rfl)) rfl rfl ?_
            refine ChD.step (v := (.d (.bool false))) [] rfl (.pure (.move _ rfl rfl)) rfl rfl ?_
            refine ChD.skip rfl rfl ?_
            refine ChD.skip rfl rfl ?_
            refine ChD.skip rfl rfl ?_
            refine ChD.skip rfl rfl ?_
            refine ChD.skip rfl rfl ?_
            refine ChD.skip rfl rfl ?_
            refine ChD.skip rfl rfl ?_
            refine ChD.step (v := (.d (.bool false))) [] rfl (.pure (.pickF _ _ _ rfl rfl rfl)) rfl rfl ?_
            refine ChD.step (v := (.d (.bool false))) [] rfl (.pure (.pickF _ _ _ rfl rfl rfl)) rfl rfl ?_
            refine ChD.nil (And.intro ?_ (by kernel_rfl))
            refine T_cond (b := false) rfl (fun h => nomatch h) (fun _ => ?_)
            refine T_skip ?_
            refine T_region hc ?_
            refine Ch.step (v := (.d (.int .i64 (((k : Nat) : Int) + 1)))) rfl (.pure (.int _ _ _ _ _ rfl rfl rfl (intV_add (by first | omega | (simp only [List.length_map, List.length_append, List.length_take, List.length_drop, List.length_cons, List.length_nil]; omega) | (simp; omega) | (simp; done)) (by first | omega | (simp only [List.length_map, List.length_append, List.length_take, List.length_drop, List.length_cons, List.length_nil]; omega) | (simp; omega) | (simp; done))))) rfl rfl ?_
            refine Ch.step (v := (.d (.int .i64 (((k : Nat) : Int) + 1)))) rfl (.pure (.move _ rfl rfl)) rfl rfl ?_
            refine Ch.nil ?_
            refine Exists.intro (k + 1) (And.intro (by omega) (And.intro (by first | omega | (dsimp only; omega)) (Wk.of rfl rfl (And.intro rfl (And.intro rfl (And.intro rfl (And.intro rfl (And.intro (vI (by first | rfl | (rw [(most_yes (hne _ hpm) (by first | exact .inl (by omega) | exact .inr ⟨by omega, by omega, by omega⟩)).2, hgn]; done) | (rw [(most_no (by omega)).2]; done))) (And.intro rfl (And.intro rfl (And.intro (vI (by first | rfl | omega | (simp; done) | (simp; omega))) trivial)))))))) (And.intro rfl (And.intro rfl (And.intro (oB (Eq.trans (b := [(.d (.str (pickTo on (primR n on off) q.2 k)))]) rfl (by first | rfl | (rw [(most_yes (hne _ hpm) (by first | exact .inl (by omega) | exact .inr ⟨by omega, by omega, by omega⟩)).1]; done) | (rw [(most_no (by omega)).1]; done)))) (And.intro rfl trivial)))))))
      · replace h3 := of_decide_eq_false h3
        try have hpm := getD_mem (l := (primR n on off)) (j := k) (d := default) (by omega)
        try have hpkl := hml _ hpm
        try have hb1 : bulkS [(primR n on off).getD k default] ≤ 1048576 := by (have hnn := hop.1.2; simp only [bulkS, List.map_cons, List.map_nil, List.sum_cons, List.sum_nil, List.length_cons, List.length_nil]; omega)
        try have hx1 : ∀ u ∈ leftL on q.2, ((primR n on off).getD k default).length ≤ u.length := fun u hu => by (have h6 := hou u (List.mem_filter.1 hu).1; omega)
        try have hgn := gain_left ((primR n on off).getD k default) on q.2
        refine T_exit ?_
        refine T_seq ?_
        refine T_region hc ?_
        refine Ch.step (v := (.row 10)) rfl (.pure (.move _ rfl rfl)) rfl rfl ?_
        refine Ch.step (v := (.d (.str (pickTo on (primR n on off) q.2 k)))) rfl (.pure (.loadPtr1 _ _ rfl ag9 rfl rfl rfl)) rfl rfl ?_
        refine Ch.step (v := (.row 67000)) rfl (.slice 67000 _ 9 _ rfl sty22 (xs := [.tmp 66]) rfl rfl (.cons (.d _) .nil) rfl rfl (by decide)) rfl rfl ?_
        refine Ch.step (v := (.row 68000)) rfl (.append 68000 _ _ _ 9 rfl sty22 (by decide) (.rowK rfl) (.inr ⟨_, rfl, rfl⟩) (.row rfl rfl) rfl (by first | omega | (simp; omega) | (simp; done))) rfl rfl ?_
        refine Ch.step (v := (.row 68000)) rfl (.pure (.assign _ rfl rfl)) rfl rfl ?_
        refine Ch.nil ?_
        refine T_region hc ?_
        refine Ch.step (v := (.row 11)) rfl (.pure (.move _ rfl rfl)) rfl rfl ?_
        refine Ch.step (v := (.fn 115 [(.ptr 12000 0)])) rfl (.pure (.func _ _ rfl rfl)) rfl rfl ?_
        refine Ch.step (v := (.row 71000)) rfl (.call 71000 114 _ _ _ en114 rfl (.inl rfl) (.cons (.row rfl) (.cons (.lend (.fn (.cons (.ptr rfl (.one (.d _) rfl)) .nil))) .nil)) rfl (sol (solid_row (fun _ => rfl) _) rfl) (sp_DeleteFunc_str (leftL on q.2) 115 [(.ref (.str (pickTo on (primR n on off) q.2 k)))] (fun u => hasB (pickTo on (primR n on off) q.2 k) u) en115 (fun u hu => sp_impl_GreedyCover_1 u (pickTo on (primR n on off) q.2 k) (by omega) (by (have h6 := hou u (List.mem_filter.1 hu).1; omega))) (by first | omega | assumption | (exact hx _ (getD_mem (by omega))) | (exact hx _ (by assumption)) | (exact Nat.le_trans (hx _ (by assumption)) (by omega)) | (simp only [List.length_append, List.length_take, List.length_drop, List.length_cons, List.length_nil]; omega) | (simp_all; done))) (.skip _ _ (.skip _ _ .nil)) rfl) rfl rfl ?_
        refine Ch.step (v := (.row 71000)) rfl (.pure (.assign _ rfl rfl)) rfl rfl ?_
        refine Ch.nil ?_
        refine Exists.intro ((q.1 - 1, q.2 ++ [pick on (primR n on off) q.2])) (And.intro hnx.2 (And.intro (by have h6 := hnx.1; dsimp only; omega) (Wk.ren [(10, 68000), (11, 71000)] rfl rfl rfl rfl (And.intro rfl (And.intro rfl (And.intro rfl trivial))) (And.intro (oR (by first | rfl | (rw [pick, show (primR n on off).length = k by omega, List.map_append]; rfl))) (And.intro (oR (by first | (rw [left_nil]; done) | (rw [← left_next, pick, show (primR n on off).length = k by omega]; done))) (And.intro rfl trivial))))))
    · replace h2 := of_decide_eq_false h2
      try have hpk : pick on (primR n on off) q.2 ≠ [] := fun e => by (have h6 := (pick_left hcv hne).1 e; rw [h6] at h2; exact absurd h2 (by decide))
      try have hnx := hp0.next hpk
      refine T_exit ?_
      refine T_seq ?_
      refine T_region hc ?_
      refine Ch.step (v := (.row 10)) rfl (.pure (.move _ rfl rfl)) rfl rfl ?_
      refine Ch.step (v := (.row 10)) rfl (.pure (.assign _ rfl rfl)) rfl rfl ?_
      refine Ch.step (v := (.d (.bool true))) rfl (.pure (.assign _ rfl rfl)) rfl rfl ?_
      refine Ch.nil ?_
      refine T_ret ?_
      refine And.intro (.inr rfl) ?_
      exact Exists.intro [(.row 10), (.d (.bool true))] (Exists.intro [] (Exists.intro [10] (And.intro (.cons (.tmp 6 rfl) (.cons (.tmp 7 rfl) .nil)) (And.intro (.cons (.any _) (.cons (.any _) (.cons (.any _) .nil))) (And.intro (.tup (.cons (Exp.of (congrArg (D.slice true 1) (by first | (rw [grR, h1]; rfl) | (have e := hp0.stop ((pick_left hcv hne).2 (List.eq_nil_of_length_eq_zero (by omega))); rw [grR, if_pos h1, ← hpo.2.1, ← e]; done) | (rw [h1]; done))) (.row rfl)) (.cons (Exp.of (congrArg D.bool (by first | (rw [grR, h1]; rfl) | (have e := hp0.stop ((pick_left hcv hne).2 (List.eq_nil_of_length_eq_zero (by omega))); rw [grR, if_pos h1, ← hpo.2.1, ← e]; done) | (rw [h1]; done))) (.d _)) .nil))) (And.intro rfl rfl))))))

theorem sp_laws_FnExactGreedyCover (n : Int) (on off : List (List UInt8)) (hn1 : on.length ≤ 9223372036854775807) (hx1 : ∀ x ∈ on, x.length ≤ 9223372036854775807) (hn2 : off.length ≤ 9223372036854775807) (hx2 : ∀ x ∈ off, x.length ≤ 9223372036854775807) : Sp Try.prog 15 [(.int .i64 n), (.slice false 1 (on.map D.str)), (.slice false 1 (off.map D.str))] [.any, .any, .any] (.bool true) := by
  refine Sp_intro (lend := true) Try.func15 rfl rfl rfl (fun _ => rfl) (fun c hc hX => ?_)
  refine T_seq ?_
  refine T_region hc ?_
  refine Ch.step (v := (.d (.bool false))) rfl (.pure (.assign _ rfl rfl)) rfl rfl ?_
  refine Ch.nil ?_
  refine T_seq ?_
  refine T_region hc ?_
  refine Ch.step (v := (.d (.int .i64 1048576))) rfl (.pure (.assign _ rfl rfl)) rfl rfl ?_
  refine Ch.nil ?_
  refine T_seq ?_
  refine T_region hc ?_
  refine Ch.step (v := (.d (.slice false 1 (on.map D.str)))) rfl (.pure (.move _ rfl rfl)) rfl rfl ?_
  refine Ch.step (v := (.d (.int .i64 1048576))) rfl (.pure (.move _ rfl rfl)) rfl rfl ?_
  refine Ch.step (v := (.d (.int .i64 (szS on 1048576)))) rfl (.call 21000 17 _ _ _ en17 rfl (.inl rfl) (.cons (.d _) (.cons (.d _) .nil)) rfl rfl (sp_laws_szStringS on 1048576 (by first | omega | assumption | (exact hx _ (getD_mem (by omega))) | (exact hx _ (by assumption)) | (exact Nat.le_trans (hx _ (by assumption)) (by omega)) | (simp only [List.length_append, List.length_take, List.length_drop, List.length_cons, List.length_nil]; omega) | (simp_all; done)) (by first | omega | assumption | (exact hx _ (getD_mem (by omega))) | (exact hx _ (by assumption)) | (exact Nat.le_trans (hx _ (by assumption)) (by omega)) | (simp only [List.length_append, List.length_take, List.length_drop, List.length_cons, List.length_nil]; omega) | (simp_all; done)) (by first | omega | assumption | (exact hx _ (getD_mem (by omega))) | (exact hx _ (by assumption)) | (exact Nat.le_trans (hx _ (by assumption)) (by omega)) | (simp only [List.length_append, List.length_take, List.length_drop, List.length_cons, List.length_nil]; omega) | (simp_all; done)) (by first | omega | assumption | (exact hx _ (getD_mem (by omega))) | (exact hx _ (by assumption)) | (exact Nat.le_trans (hx _ (by assumption)) (by omega)) | (simp only [List.length_append, List.length_take, List.length_drop, List.length_cons, List.length_nil]; omega) | (simp_all; done))) (.skip _ _ (.skip _ _ .nil)) rfl) rfl rfl ?_
  refine Ch.step (v := (.d (.int .i64 (szS on 1048576)))) rfl (.pure (.assign _ rfl rfl)) rfl rfl ?_
  refine Ch.nil ?_
  refine T_seq ?_
  refine T_seq ?_
  refine T_region hc ?_
  refine Ch.step (v := (.d (.int .i64 (szS on 1048576)))) rfl (.pure (.move _ rfl rfl)) rfl rfl ?_
  refine Ch.step (v := (.d (.bool (decide ((szS on 1048576) < 0))))) rfl (.pure (.int _ _ _ _ _ rfl rfl rfl rfl)) rfl rfl ?_
  refine Ch.nil ?_
  refine T_cond (b := (decide ((szS on 1048576) < 0))) rfl (fun h1 => ?_) (fun h1 => ?_)
  · replace h1 := of_decide_eq_true h1
    try have hb1 := szS_ok (xs := on) h1
    try have hc1 : bulkS on ≤ 1048576 := by omega
    try replace hn1 := bulk_len hc1
    try replace hx1 := bulk_mem hc1
    try have hz1 := szS_val hb1
    try have hz1a : 0 ≤ szS on _ := Int.not_lt.1 h1
    try have hz1b : szS on _ ≤ 1048576 := by (rw [hz1]; omega)
    refine T_seq ?_
    refine T_region hc ?_
    refine Ch.step (v := (.d (.bool true))) rfl (.pure (.assign _ rfl rfl)) rfl rfl ?_
    refine Ch.nil ?_
    refine T_ret ?_
    refine And.intro (.inr rfl) ?_
    exact Exists.intro [(.d (.bool true))] (Exists.intro [] (Exists.intro [] (And.intro (.cons (.tmp 6 rfl) .nil) (And.intro (.cons (.any _) (.cons (.any _) (.cons (.any _) .nil))) (And.intro (.d _) (And.intro rfl rfl))))))
  · replace h1 := of_decide_eq_false h1
    try have hb1 := szS_ok (xs := on) h1
    try have hc1 : bulkS on ≤ 1048576 := by omega
    try replace hn1 := bulk_len hc1
    try replace hx1 := bulk_mem hc1
    try have hz1 := szS_val hb1
    try have hz1a : 0 ≤ szS on _ := Int.not_lt.1 h1
    try have hz1b : szS on _ ≤ 1048576 := by (rw [hz1]; omega)
    refine T_skip ?_
    refine T_seq ?_
    refine T_region hc ?_
    refine Ch.step (v := (.d (.slice false 1 (off.map D.str)))) rfl (.pure (.move _ rfl rfl)) rfl rfl ?_
    refine Ch.step (v := (.d (.int .i64 (szS on 1048576)))) rfl (.pure (.move _ rfl rfl)) rfl rfl ?_
    refine Ch.step (v := (.d (.int .i64 (szS off (szS on 1048576))))) rfl (.call 26000 17 _ _ _ en17 rfl (.inl rfl) (.cons (.d _) (.cons (.d _) .nil)) rfl rfl (sp_laws_szStringS off (szS on 1048576) (by first | omega | assumption | (exact hx _ (getD_mem (by omega))) | (exact hx _ (by assumption)) | (exact Nat.le_trans (hx _ (by assumption)) (by omega)) | (simp only [List.length_append, List.length_take, List.length_drop, List.length_cons, List.length_nil]; omega) | (simp_all; done)) (by first | omega | assumption | (exact hx _ (getD_mem (by omega))) | (exact hx _ (by assumption)) | (exact Nat.le_trans (hx _ (by assumption)) (by omega)) | (simp only [List.length_append, List.length_take, List.length_drop, List.length_cons, List.length_nil]; omega) | (simp_all; done)) (by first | omega | assumption | (exact hx _ (getD_mem (by omega))) | (exact hx _ (by assumption)) | (exact Nat.le_trans (hx _ (by assumption)) (by omega)) | (simp only [List.length_append, List.length_take, List.length_drop, List.length_cons, List.length_nil]; omega) | (simp_all; done)) (by first | omega | assumption | (exact hx _ (getD_mem (by omega))) | (exact hx _ (by assumption)) | (exact Nat.le_trans (hx _ (by assumption)) (by omega)) | (simp only [List.length_append, List.length_take, List.length_drop, List.length_cons, List.length_nil]; omega) | (simp_all; done))) (.skip _ _ (.skip _ _ .nil)) rfl) rfl rfl ?_
    refine Ch.step (v := (.d (.int .i64 (szS off (szS on 1048576))))) rfl (.pure (.assign _ rfl rfl)) rfl rfl ?_
    refine Ch.nil ?_
    refine T_seq ?_
    refine T_seq ?_
    refine T_region hc ?_
    refine Ch.step (v := (.d (.int .i64 (szS off (szS on 1048576))))) rfl (.pure (.move _ rfl rfl)) rfl rfl ?_
    refine Ch.step (v := (.d (.bool (decide ((szS off (szS on 1048576)) < 0))))) rfl (.pure (.int _ _ _ _ _ rfl rfl rfl rfl)) rfl rfl ?_
    refine Ch.nil ?_
    refine T_cond (b := (decide ((szS off (szS on 1048576)) < 0))) rfl (fun h2 => ?_) (fun h2 => ?_)
    · replace h2 := of_decide_eq_true h2
      try have hb2 := szS_ok (xs := off) h2
      try have hc2 : bulkS off ≤ 1048576 := by omega
      try replace hn2 := bulk_len hc2
      try replace hx2 := bulk_mem hc2
      try have hz2 := szS_val hb2
      try have hz2a : 0 ≤ szS off _ := Int.not_lt.1 h2
      try have hz2b : szS off _ ≤ 1048576 := by (rw [hz2]; omega)
      try have hcl : (grR n on off).length ≤ 1048576 := Nat.le_trans grR_le hn1
      try have hhm := held_marks 1 (grR n on off).length
      refine T_seq ?_
      refine T_region hc ?_
      refine Ch.step (v := (.d (.bool true))) rfl (.pure (.assign _ rfl rfl)) rfl rfl ?_
      refine Ch.nil ?_
      refine T_ret ?_
      refine And.intro (.inr rfl) ?_
      exact Exists.intro [(.d (.bool true))] (Exists.intro [] (Exists.intro [] (And.intro (.cons (.tmp 6 rfl) .nil) (And.intro (.cons (.any _) (.cons (.any _) (.cons (.any _) .nil))) (And.intro (.d _) (And.intro rfl rfl))))))
    · replace h2 := of_decide_eq_false h2
      try have hb2 := szS_ok (xs := off) h2
      try have hc2 : bulkS off ≤ 1048576 := by omega
      try replace hn2 := bulk_len hc2
      try replace hx2 := bulk_mem hc2
      try have hz2 := szS_val hb2
      try have hz2a : 0 ≤ szS off _ := Int.not_lt.1 h2
      try have hz2b : szS off _ ≤ 1048576 := by (rw [hz2]; omega)
      try have hcl : (grR n on off).length ≤ 1048576 := Nat.le_trans grR_le hn1
      try have hhm := held_marks 1 (grR n on off).length
      refine T_skip ?_
      refine T_seq ?_
      refine T_region hc ?_
      refine Ch.step (v := (.d (.int .i64 n))) rfl (.pure (.move _ rfl rfl)) rfl rfl ?_
      refine Ch.step (v := (.d (.slice false 1 (on.map D.str)))) rfl (.pure (.move _ rfl rfl)) rfl rfl ?_
      refine Ch.step (v := (.row 32000)) rfl (.call 32000 19 _ _ _ en19 rfl (.inl rfl) (.cons (.d _) .nil) rfl (sol (solid_row (fun _ => rfl) _) rfl) (sp_laws_toStringS on (by first | omega | assumption | (exact hx _ (getD_mem (by omega))) | (exact hx _ (by assumption)) | (exact Nat.le_trans (hx _ (by assumption)) (by omega)) | (simp only [List.length_append, List.length_take, List.length_drop, List.length_cons, List.length_nil]; omega) | (simp_all; done))) (.skip _ _ .nil) rfl) rfl rfl ?_
      refine Ch.step (v := (.d (.slice false 1 (off.map D.str)))) rfl (.pure (.move _ rfl rfl)) rfl rfl ?_
      refine Ch.step (v := (.row 34000)) rfl (.call 34000 19 _ _ _ en19 rfl (.inl rfl) (.cons (.d _) .nil) rfl (sol (solid_row (fun _ => rfl) _) rfl) (sp_laws_toStringS off (by first | omega | assumption | (exact hx _ (getD_mem (by omega))) | (exact hx _ (by assumption)) | (exact Nat.le_trans (hx _ (by assumption)) (by omega)) | (simp only [List.length_append, List.length_take, List.length_drop, List.length_cons, List.length_nil]; omega) | (simp_all; done))) (.skip _ _ .nil) rfl) rfl rfl ?_
      refine Ch.step (v := (.tup [(.row 35000), (.d (.bool (primOk n on off)))])) rfl (.call 35000 55 _ _ _ en55 rfl (.inl rfl) (.cons (.d _) (.cons (.lend (.row rfl (frozs_map (fun _ => rfl) _))) (.cons (.lend (.row rfl (frozs_map (fun _ => rfl) _))) .nil))) rfl (sol (by rw [D.solid]; exact solids_c (solid_row (fun _ => rfl) _) rfl) rfl) (sp_spec_GreedyCover n on off (by first | omega | assumption | (exact hx _ (getD_mem (by omega))) | (exact hx _ (by assumption)) | (exact Nat.le_trans (hx _ (by assumption)) (by omega)) | (simp only [List.length_append, List.length_take, List.length_drop, List.length_cons, List.length_nil]; omega) | (simp_all; done)) (by first | omega | assumption | (exact hx _ (getD_mem (by omega))) | (exact hx _ (by assumption)) | (exact Nat.le_trans (hx _ (by assumption)) (by omega)) | (simp only [List.length_append, List.length_take, List.length_drop, List.length_cons, List.length_nil]; omega) | (simp_all; done)) (by first | omega | assumption | (exact hx _ (getD_mem (by omega))) | (exact hx _ (by assumption)) | (exact Nat.le_trans (hx _ (by assumption)) (by omega)) | (simp only [List.length_append, List.length_take, List.length_drop, List.length_cons, List.length_nil]; omega) | (simp_all; done)) (by first | omega | assumption | (exact hx _ (getD_mem (by omega))) | (exact hx _ (by assumption)) | (exact Nat.le_trans (hx _ (by assumption)) (by omega)) | (simp only [List.length_append, List.length_take, List.length_drop, List.length_cons, List.length_nil]; omega) | (simp_all; done))) (.skip _ _ (.skip _ _ (.skip _ _ .nil))) rfl) rfl rfl ?_
      refine Ch.step (v := (.tup [(.row 35000), (.d (.bool (primOk n on off)))])) rfl (.pure (.move _ rfl rfl)) rfl rfl ?_
      refine Ch.step (v := (.row 35000)) rfl (.pure (.extract _ rfl rfl rfl)) rfl rfl ?_
      refine Ch.step (v := (.d (.bool (primOk n on off)))) rfl (.pure (.extract _ rfl rfl rfl)) rfl rfl ?_
      refine Ch.step (v := (.row 35000)) rfl (.pure (.assign _ rfl rfl)) rfl rfl ?_
      refine Ch.step (v := (.d (.bool (primOk n on off)))) rfl (.pure (.assign _ rfl rfl)) rfl rfl ?_
      refine Ch.nil ?_
      refine T_seq ?_
      refine T_region hc ?_
      refine Ch.step (v := (.d (.slice false 1 (on.map D.str)))) rfl (.pure (.move _ rfl rfl)) rfl rfl ?_
      refine Ch.step (v := (.row 39000)) rfl (.call 39000 19 _ _ _ en19 rfl (.inl rfl) (.cons (.d _) .nil) rfl (sol (solid_row (fun _ => rfl) _) rfl) (sp_laws_toStringS on (by first | omega | assumption | (exact hx _ (getD_mem (by omega))) | (exact hx _ (by assumption)) | (exact Nat.le_trans (hx _ (by assumption)) (by omega)) | (simp only [List.length_append, List.length_take, List.length_drop, List.length_cons, List.length_nil]; omega) | (simp_all; done))) (.skip _ _ .nil) rfl) rfl rfl ?_
      refine Ch.step (v := (.row 39000)) rfl (.pure (.assign _ rfl rfl)) rfl rfl ?_
      refine Ch.nil ?_
      refine T_seq ?_
      refine T_region hc ?_
      refine Ch.step (v := (.d (.slice false 1 (off.map D.str)))) rfl (.pure (.move _ rfl rfl)) rfl rfl ?_
      refine Ch.step (v := (.row 41000)) rfl (.call 41000 19 _ _ _ en19 rfl (.inl rfl) (.cons (.d _) .nil) rfl (sol (solid_row (fun _ => rfl) _) rfl) (sp_laws_toStringS off (by first | omega | assumption | (exact hx _ (getD_mem (by omega))) | (exact hx _ (by assumption)) | (exact Nat.le_trans (hx _ (by assumption)) (by omega)) | (simp only [List.length_append, List.length_take, List.length_drop, List.length_cons, List.length_nil]; omega) | (simp_all; done))) (.skip _ _ .nil) rfl) rfl rfl ?_
      refine Ch.step (v := (.row 41000)) rfl (.pure (.assign _ rfl rfl)) rfl rfl ?_
      refine Ch.nil ?_
      refine T_seq ?_
      refine T_region hc ?_
      refine Ch.step (v := (.d (.int .i64 n))) rfl (.pure (.move _ rfl rfl)) rfl rfl ?_
      refine Ch.step (v := (.row 39000)) rfl (.pure (.move _ rfl rfl)) rfl rfl ?_
      refine Ch.step (v := (.row 41000)) rfl (.pure (.move _ rfl rfl)) rfl rfl ?_
      refine Ch.step (v := (.tup [(.row 46000), (.d (.bool (primOk n on off)))])) rfl (.call 46000 56 _ _ _ en56 rfl (.inl rfl) (.cons (.d _) (.cons (.lend (.row rfl (frozs_map (fun _ => rfl) _))) (.cons (.lend (.row rfl (frozs_map (fun _ => rfl) _))) .nil))) rfl (sol (by rw [D.solid]; exact solids_c (solid_row (fun _ => rfl) _) rfl) rfl) (sp_impl_GreedyCover n on off (by first | omega | assumption | (exact hx _ (getD_mem (by omega))) | (exact hx _ (by assumption)) | (exact Nat.le_trans (hx _ (by assumption)) (by omega)) | (simp only [List.length_append, List.length_take, List.length_drop, List.length_cons, List.length_nil]; omega) | (simp_all; done)) (by first | omega | assumption | (exact hx _ (getD_mem (by omega))) | (exact hx _ (by assumption)) | (exact Nat.le_trans (hx _ (by assumption)) (by omega)) | (simp only [List.length_append, List.length_take, List.length_drop, List.length_cons, List.length_nil]; omega) | (simp_all; done)) (by first | omega | assumption | (exact hx _ (getD_mem (by omega))) | (exact hx _ (by assumption)) | (exact Nat.le_trans (hx _ (by assumption)) (by omega)) | (simp only [List.length_append, List.length_take, List.length_drop, List.length_cons, List.length_nil]; omega) | (simp_all; done)) (by first | omega | assumption | (exact hx _ (getD_mem (by omega))) | (exact hx _ (by assumption)) | (exact Nat.le_trans (hx _ (by assumption)) (by omega)) | (simp only [List.length_append, List.length_take, List.length_drop, List.length_cons, List.length_nil]; omega) | (simp_all; done))) (.skip _ _ (.skip _ _ (.skip _ _ .nil))) rfl) rfl rfl ?_
      refine Ch.step (v := (.tup [(.row 46000), (.d (.bool (primOk n on off)))])) rfl (.pure (.move _ rfl rfl)) rfl rfl ?_
      refine Ch.step (v := (.row 46000)) rfl (.pure (.extract _ rfl rfl rfl)) rfl rfl ?_
      refine Ch.step (v := (.d (.bool (primOk n on off)))) rfl (.pure (.extract _ rfl rfl rfl)) rfl rfl ?_
      refine Ch.step (v := (.row 46000)) rfl (.pure (.assign _ rfl rfl)) rfl rfl ?_
      refine Ch.step (v := (.d (.bool (primOk n on off)))) rfl (.pure (.assign _ rfl rfl)) rfl rfl ?_
      refine Ch.nil ?_
      refine T_seq ?_
      refine T_seq ?_
      refine T_region hc ?_
      refine Ch.step (v := (.row 46000)) rfl (.pure (.move _ rfl rfl)) rfl rfl ?_
      refine Ch.step (v := (.row 35000)) rfl (.pure (.move _ rfl rfl)) rfl rfl ?_
      refine Ch.step (v := (.d (.bool (decide ((grR n on off) = (grR n on off)))))) rfl (.call 51000 21 _ _ _ en21 rfl (.inl rfl) (.cons (.lend (.row rfl (frozs_map (fun _ => rfl) _))) (.cons (.lend (.row rfl (frozs_map (fun _ => rfl) _))) .nil)) rfl rfl (sp_laws_eqStringS (grR n on off) (grR n on off) (by first | omega | assumption | (exact hx _ (getD_mem (by omega))) | (exact hx _ (by assumption)) | (exact Nat.le_trans (hx _ (by assumption)) (by omega)) | (simp only [List.length_append, List.length_take, List.length_drop, List.length_cons, List.length_nil]; omega) | (simp_all; done))) (.skip _ _ (.skip _ _ .nil)) rfl) rfl rfl ?_
      refine Ch.step (v := (.d (.bool (!(decide ((grR n on off) = (grR n on off))))))) rfl (.pure (.not _ _ rfl rfl)) rfl rfl ?_
      refine Ch.step (v := (.d (.bool (!(decide ((grR n on off) = (grR n on off))))))) rfl (.pure (.move _ rfl rfl)) rfl rfl ?_
      cases h3 : (decide ((grR n on off) = (grR n on off))) with
      | true =>
        replace h3 := of_decide_eq_true h3
        refine Ch.step (v := (.d (.bool (primOk n on off)))) rfl (.pure (.move _ rfl rfl)) rfl rfl ?_
        refine Ch.step (v := (.d (.bool (primOk n on off)))) rfl (.pure (.move _ rfl rfl)) rfl rfl ?_
        refine Ch.step (v := (.d (.bool (!(decide ((primOk n on off) = (primOk n on off))))))) rfl (.pure (.neB _ _ _ _ rfl Try.underlying4 rfl rfl)) rfl rfl ?_
        refine Ch.step (v := (.d (.bool (!(decide ((primOk n on off) = (primOk n on off))))))) rfl (.pure (.pickF _ _ _ rfl rfl rfl)) rfl rfl ?_
        refine Ch.nil ?_
        refine T_cond (b := (!(decide ((primOk n on off) = (primOk n on off))))) rfl (fun h4 => ?_) (fun h4 => ?_)
        · replace h4 := nott h4
          replace h4 := of_decide_eq_false h4
          refine T_seq ?_
          refine T_region hc ?_
          refine Ch.step (v := (.d (.bool false))) rfl (.pure (.assign _ rfl rfl)) rfl rfl ?_
          refine Ch.nil ?_
          refine T_ret ?_
          refine And.intro (.inr rfl) ?_
          exact Exists.intro [(.d (.bool false))] (Exists.intro [] (Exists.intro [] (And.intro (.cons (.tmp 6 rfl) .nil) (And.intro (.cons (.any _) (.cons (.any _) (.cons (.any _) .nil))) (And.intro (Exp.of (congrArg D.bool (by first | rfl | (simp_all; done) | (exfalso; omega) | (exfalso; simp_all; omega))) (.d _)) (And.intro rfl rfl))))))
        · replace h4 := notf h4
          replace h4 := of_decide_eq_true h4
          refine T_skip ?_
          refine T_seq ?_
          refine T_seq ?_
          refine T_region hc ?_
          refine Ch.step (v := (.row 39000)) rfl (.pure (.move _ rfl rfl)) rfl rfl ?_
          refine Ch.step (v := (.d (.slice false 1 (on.map D.str)))) rfl (.pure (.move _ rfl rfl)) rfl rfl ?_
          refine Ch.step (v := (.row 60000)) rfl (.call 60000 19 _ _ _ en19 rfl (.inl rfl) (.cons (.d _) .nil) rfl (sol (solid_row (fun _ => rfl) _) rfl) (sp_laws_toStringS on (by first | omega | assumption | (exact hx _ (getD_mem (by omega))) | (exact hx _ (by assumption)) | (exact Nat.le_trans (hx _ (by assumption)) (by omega)) | (simp only [List.length_append, List.length_take, List.length_drop, List.length_cons, List.length_nil]; omega) | (simp_all; done))) (.skip _ _ .nil) rfl) rfl rfl ?_
          refine Ch.step (v := (.d (.bool (decide (on = on))))) rfl (.call 61000 21 _ _ _ en21 rfl (.inl rfl) (.cons (.lend (.row rfl (frozs_map (fun _ => rfl) _))) (.cons (.lend (.row rfl (frozs_map (fun _ => rfl) _))) .nil)) rfl rfl (sp_laws_eqStringS on on (by first | omega | assumption | (exact hx _ (getD_mem (by omega))) | (exact hx _ (by assumption)) | (exact Nat.le_trans (hx _ (by assumption)) (by omega)) | (simp only [List.length_append, List.length_take, List.length_drop, List.length_cons, List.length_nil]; omega) | (simp_all; done))) (.skip _ _ (.skip _ _ .nil)) rfl) rfl rfl ?_
          refine Ch.step (v := (.d (.bool (!(decide (on = on)))))) rfl (.pure (.not _ _ rfl rfl)) rfl rfl ?_
          refine Ch.nil ?_
          refine T_cond (b := (!(decide (on = on)))) rfl (fun h5 => ?_) (fun h5 => ?_)
          · replace h5 := nott h5
            replace h5 := of_decide_eq_false h5
            refine T_seq ?_
            refine T_region hc ?_
            refine Ch.step (v := (.d (.bool false))) rfl (.pure (.assign _ rfl rfl)) rfl rfl ?_
            refine Ch.nil ?_
            refine T_ret ?_
            refine And.intro (.inr rfl) ?_
            exact Exists.intro [(.d (.bool false))] (Exists.intro [] (Exists.intro [] (And.intro (.cons (.tmp 6 rfl) .nil) (And.intro (.cons (.any _) (.cons (.any _) (.cons (.any _) .nil))) (And.intro (Exp.of (congrArg D.bool (by first | rfl | (simp_all; done) | (exfalso; omega) | (exfalso; simp_all; omega))) (.d _)) (And.intro rfl rfl))))))
          · replace h5 := notf h5
            replace h5 := of_decide_eq_true h5
            refine T_skip ?_
            refine T_seq ?_
            refine T_seq ?_
            refine T_region hc ?_
            refine Ch.step (v := (.row 41000)) rfl (.pure (.move _ rfl rfl)) rfl rfl ?_
            refine Ch.step (v := (.d (.slice false 1 (off.map D.str)))) rfl (.pure (.move _ rfl rfl)) rfl rfl ?_
            refine Ch.step (v := (.row 65000)) rfl (.call 65000 19 _ _ _ en19 rfl (.inl rfl) (.cons (.d _) .nil) rfl (sol (solid_row (fun _ => rfl) _) rfl) (sp_laws_toStringS off (by first | omega | assumption | (exact hx _ (getD_mem (by omega))) | (exact hx _ (by assumption)) | (exact Nat.le_trans (hx _ (by assumption)) (by omega)) | (simp only [List.length_append, List.length_take, List.length_drop, List.length_cons, List.length_nil]; omega) | (simp_all; done))) (.skip _ _ .nil) rfl) rfl rfl ?_
            refine Ch.step (v := (.d (.bool (decide (off = off))))) rfl (.call 66000 21 _ _ _ en21 rfl (.inl rfl) (.cons (.lend (.row rfl (frozs_map (fun _ => rfl) _))) (.cons (.lend (.row rfl (frozs_map (fun _ => rfl) _))) .nil)) rfl rfl (sp_laws_eqStringS off off (by first | omega | assumption | (exact hx _ (getD_mem (by omega))) | (exact hx _ (by assumption)) | (exact Nat.le_trans (hx _ (by assumption)) (by omega)) | (simp only [List.length_append, List.length_take, List.length_drop, List.length_cons, List.length_nil]; omega) | (simp_all; done))) (.skip _ _ (.skip _ _ .nil)) rfl) rfl rfl ?_
            refine Ch.step (v := (.d (.bool (!(decide (off = off)))))) rfl (.pure (.not _ _ rfl rfl)) rfl rfl ?_
            refine Ch.nil ?_
            refine T_cond (b := (!(decide (off = off)))) rfl (fun h6 => ?_) (fun h6 => ?_)
            · replace h6 := nott h6
              replace h6 := of_decide_eq_false h6
              refine T_seq ?_
              refine T_region hc ?_
              refine Ch.step (v := (.d (.bool false))) rfl (.pure (.assign _ rfl rfl)) rfl rfl ?_
              refine Ch.nil ?_
              refine T_ret ?_
              refine And.intro (.inr rfl) ?_
              exact Exists.intro [(.d (.bool false))] (Exists.intro [] (Exists.intro [] (And.intro (.cons (.tmp 6 rfl) .nil) (And.intro (.cons (.any _) (.cons (.any _) (.cons (.any _) .nil))) (And.intro (Exp.of (congrArg D.bool (by first | rfl | (simp_all; done) | (exfalso; omega) | (exfalso; simp_all; omega))) (.d _)) (And.intro rfl rfl))))))
            · replace h6 := notf h6
              replace h6 := of_decide_eq_true h6
              refine T_skip ?_
              refine T_seq ?_
              refine T_region hc ?_
              refine Ch.step (v := (.d (.int .i64 1))) rfl (.pure (.assign _ rfl rfl)) rfl rfl ?_
              refine Ch.nil ?_
              refine T_seq ?_
              refine T_region hc ?_
              refine Ch.step (v := (.row 39000)) rfl (.pure (.move _ rfl rfl)) rfl rfl ?_
              refine Ch.step (v := (.d (.int .i64 1))) rfl (.pure (.move _ rfl rfl)) rfl rfl ?_
              refine Ch.step (v := (.d (.int .i64 ((1 + on.length : Nat) : Int)))) rfl (.call 70000 26 _ _ _ en26 rfl (.inl rfl) (.cons (.row rfl) (.cons (.d _) .nil)) rfl (sol rfl (solids_c (solid_row (fun _ => rfl) _) rfl)) (sp_laws_markStringS on 1 (by first | omega | assumption | (exact hx _ (getD_mem (by omega))) | (exact hx _ (by assumption)) | (exact Nat.le_trans (hx _ (by assumption)) (by omega)) | (simp only [List.length_append, List.length_take, List.length_drop, List.length_cons, List.length_nil]; omega) | (simp_all; done)) (by first | omega | assumption | (exact hx _ (getD_mem (by omega))) | (exact hx _ (by assumption)) | (exact Nat.le_trans (hx _ (by assumption)) (by omega)) | (simp only [List.length_append, List.length_take, List.length_drop, List.length_cons, List.length_nil]; omega) | (simp_all; done))) (.row _ _ _ (.skip _ _ .nil)) rfl) rfl rfl ?_
              refine Ch.step (v := (.d (.int .i64 ((1 + on.length : Nat) : Int)))) rfl (.pure (.assign _ rfl rfl)) rfl rfl ?_
              refine Ch.nil ?_
              refine T_seq ?_
              refine T_region hc ?_
              refine Ch.step (v := (.row 41000)) rfl (.pure (.move _ rfl rfl)) rfl rfl ?_
              refine Ch.step (v := (.d (.int .i64 ((1 + on.length : Nat) : Int)))) rfl (.pure (.move _ rfl rfl)) rfl rfl ?_
              refine Ch.step (v := (.d (.int .i64 (((1 + on.length) + off.length : Nat) : Int)))) rfl (.call 73000 26 _ _ _ en26 rfl (.inl rfl) (.cons (.row rfl) (.cons (.d _) .nil)) rfl (sol rfl (solids_c (solid_row (fun _ => rfl) _) rfl)) (sp_laws_markStringS off (1 + on.length) (by first | omega | assumption | (exact hx _ (getD_mem (by omega))) | (exact hx _ (by assumption)) | (exact Nat.le_trans (hx _ (by assumption)) (by omega)) | (simp only [List.length_append, List.length_take, List.length_drop, List.length_cons, List.length_nil]; omega) | (simp_all; done)) (by first | omega | assumption | (exact hx _ (getD_mem (by omega))) | (exact hx _ (by assumption)) | (exact Nat.le_trans (hx _ (by assumption)) (by omega)) | (simp only [List.length_append, List.length_take, List.length_drop, List.length_cons, List.length_nil]; omega) | (simp_all; done))) (.row _ _ _ (.skip _ _ .nil)) rfl) rfl rfl ?_
              refine Ch.step (v := (.d (.int .i64 (((1 + on.length) + off.length : Nat) : Int)))) rfl (.pure (.assign _ rfl rfl)) rfl rfl ?_
              refine Ch.nil ?_
              refine T_seq ?_
              refine T_seq ?_
              refine T_region hc ?_
              refine Ch.step (v := (.d (.int .i64 (((1 + on.length) + off.length : Nat) : Int)))) rfl (.pure (.move _ rfl rfl)) rfl rfl ?_
              refine Ch.step (v := (.d (.bool (decide ((((1 + on.length) + off.length : Nat) : Int) < 0))))) rfl (.pure (.int _ _ _ _ _ rfl rfl rfl rfl)) rfl rfl ?_
              refine Ch.step (v := (.d (.bool (decide ((((1 + on.length) + off.length : Nat) : Int) < 0))))) rfl (.pure (.move _ rfl rfl)) rfl rfl ?_
              cases h7 : (decide ((((1 + on.length) + off.length : Nat) : Int) < 0)) with
              | true =>
                replace h7 := of_decide_eq_true h7
                refine Ch.skip rfl rfl ?_
                refine Ch.skip rfl rfl ?_
                refine Ch.skip rfl rfl ?_
                refine Ch.skip rfl rfl ?_
                refine Ch.step (v := (.d (.bool true))) rfl (.pure (.pickT _ _ _ rfl rfl rfl)) rfl rfl ?_
                refine Ch.step (v := (.d (.bool true))) rfl (.pure (.move _ rfl rfl)) rfl rfl ?_
                refine Ch.skip rfl rfl ?_
                refine Ch.skip rfl rfl ?_
                refine Ch.skip rfl rfl ?_
                refine Ch.step (v := (.d (.bool true))) rfl (.pure (.pickT _ _ _ rfl rfl rfl)) rfl rfl ?_
                refine Ch.nil ?_
                refine T_cond (b := true) rfl (fun _ => ?_) (fun h => nomatch h)
                refine T_seq ?_
                refine T_region hc ?_
                refine Ch.step (v := (.d (.bool false))) rfl (.pure (.assign _ rfl rfl)) rfl rfl ?_
                refine Ch.nil ?_
                refine T_ret ?_
                refine And.intro (.inr rfl) ?_
                exact Exists.intro [(.d (.bool false))] (Exists.intro [] (Exists.intro [] (And.intro (.cons (.tmp 6 rfl) .nil) (And.intro (.cons (.any _) (.cons (.any _) (.cons (.any _) .nil))) (And.intro (Exp.of (congrArg D.bool (by first | rfl | (simp_all; done) | (exfalso; omega) | (exfalso; simp_all; omega))) (.d _)) (And.intro rfl rfl))))))
              | false =>
                replace h7 := of_decide_eq_false h7
                refine Ch.step (v := (.row 46000)) rfl (.pure (.move _ rfl rfl)) rfl rfl ?_
                refine Ch.step (v := (.row 35000)) rfl (.pure (.move _ rfl rfl)) rfl rfl ?_
                refine Ch.step (v := (.d (.bool (decide ((grR n on off) = (grR n on off)))))) rfl (.call 79000 21 _ _ _ en21 rfl (.inl rfl) (.cons (.lend (.row rfl (frozs_map (fun _ => rfl) _))) (.cons (.lend (.row rfl (frozs_map (fun _ => rfl) _))) .nil)) rfl rfl (sp_laws_eqStringS (grR n on off) (grR n on off) (by first | omega | assumption | (exact hx _ (getD_mem (by omega))) | (exact hx _ (by assumption)) | (exact Nat.le_trans (hx _ (by assumption)) (by omega)) | (simp only [List.length_append, List.length_take, List.length_drop, List.length_cons, List.length_nil]; omega) | (simp_all; done))) (.skip _ _ (.skip _ _ .nil)) rfl) rfl rfl ?_
                refine Ch.step (v := (.d (.bool (!(decide ((grR n on off) = (grR n on off))))))) rfl (.pure (.not _ _ rfl rfl)) rfl rfl ?_
                refine Ch.step (v := (.d (.bool (!(decide ((grR n on off) = (grR n on off))))))) rfl (.pure (.pickF _ _ _ rfl rfl rfl)) rfl rfl ?_
                refine Ch.step (v := (.d (.bool (!(decide ((grR n on off) = (grR n on off))))))) rfl (.pure (.move _ rfl rfl)) rfl rfl ?_
                cases h8 : (decide ((grR n on off) = (grR n on off))) with
                | true =>
                  replace h8 := of_decide_eq_true h8
                  refine Ch.step (v := (.d (.bool (primOk n on off)))) rfl (.pure (.move _ rfl rfl)) rfl rfl ?_
                  refine Ch.step (v := (.d (.bool (primOk n on off)))) rfl (.pure (.move _ rfl rfl)) rfl rfl ?_
                  refine Ch.step (v := (.d (.bool (!(decide ((primOk n on off) = (primOk n on off))))))) rfl (.pure (.neB _ _ _ _ rfl Try.underlying4 rfl rfl)) rfl rfl ?_
                  refine Ch.step (v := (.d (.bool (!(decide ((primOk n on off) = (primOk n on off))))))) rfl (.pure (.pickF _ _ _ rfl rfl rfl)) rfl rfl ?_
                  refine Ch.nil ?_
                  refine T_cond (b := (!(decide ((primOk n on off) = (primOk n on off))))) rfl (fun h9 => ?_) (fun h9 => ?_)
                  · replace h9 := nott h9
                    replace h9 := of_decide_eq_false h9
                    refine T_seq ?_
                    refine T_region hc ?_
                    refine Ch.step (v := (.d (.bool false))) rfl (.pure (.assign _ rfl rfl)) rfl rfl ?_
                    refine Ch.nil ?_
                    refine T_ret ?_
                    refine And.intro (.inr rfl) ?_
                    exact Exists.intro [(.d (.bool false))] (Exists.intro [] (Exists.intro [] (And.intro (.cons (.tmp 6 rfl) .nil) (And.intro (.cons (.any _) (.cons (.any _) (.cons (.any _) .nil))) (And.intro (Exp.of (congrArg D.bool (by first | rfl | (simp_all; done) | (exfalso; omega) | (exfalso; simp_all; omega))) (.d _)) (And.intro rfl rfl))))))
                  · replace h9 := notf h9
                    replace h9 := of_decide_eq_true h9
                    refine T_skip ?_
                    refine T_seq ?_
                    refine T_region hc ?_
                    refine Ch.step (v := (.d (.int .i64 1))) rfl (.pure (.assign _ rfl rfl)) rfl rfl ?_
                    refine Ch.nil ?_
                    refine T_seq ?_
                    refine T_region hc ?_
                    refine Ch.step (v := (.row 46000)) rfl (.pure (.move _ rfl rfl)) rfl rfl ?_
                    refine Ch.step (v := (.d (.int .i64 1))) rfl (.pure (.move _ rfl rfl)) rfl rfl ?_
                    refine Ch.step (v := (.d (.int .i64 ((1 + (grR n on off).length : Nat) : Int)))) rfl (.call 89000 26 _ _ _ en26 rfl (.inl rfl) (.cons (.row rfl) (.cons (.d _) .nil)) rfl (sol rfl (solids_c (solid_row (fun _ => rfl) _) rfl)) (sp_laws_markStringS (grR n on off) 1 (by first | omega | assumption | (exact hx _ (getD_mem (by omega))) | (exact hx _ (by assumption)) | (exact Nat.le_trans (hx _ (by assumption)) (by omega)) | (simp only [List.length_append, List.length_take, List.length_drop, List.length_cons, List.length_nil]; omega) | (simp_all; done)) (by first | omega | assumption | (exact hx _ (getD_mem (by omega))) | (exact hx _ (by assumption)) | (exact Nat.le_trans (hx _ (by assumption)) (by omega)) | (simp only [List.length_append, List.length_take, List.length_drop, List.length_cons, List.length_nil]; omega) | (simp_all; done))) (.row _ _ _ (.skip _ _ .nil)) rfl) rfl rfl ?_
                    refine Ch.step (v := (.d (.int .i64 ((1 + (grR n on off).length : Nat) : Int)))) rfl (.pure (.assign _ rfl rfl)) rfl rfl ?_
                    refine Ch.nil ?_
                    refine T_seq ?_
                    refine T_region hc ?_
                    refine Ch.step (v := (.d (.int .i64 1))) rfl (.pure (.assign _ rfl rfl)) rfl rfl ?_
                    refine Ch.nil ?_
                    refine T_seq ?_
                    refine T_region hc ?_
                    refine Ch.step (v := (.row 46000)) rfl (.pure (.move _ rfl rfl)) rfl rfl ?_
                    refine Ch.step (v := (.d (.int .i64 1))) rfl (.pure (.move _ rfl rfl)) rfl rfl ?_
                    refine Ch.step (v := (.d (.int .i64 (heldR (marks 1 (grR n on off).length) 1)))) rfl (.call 92000 27 _ _ _ en27 rfl (.inl rfl) (.cons (.lend (.row rfl (frozs_map (fun _ => rfl) _))) (.cons (.d _) .nil)) rfl rfl (sp_laws_heldStringS (marks 1 (grR n on off).length) 1 (by first | omega | assumption | (exact hx _ (getD_mem (by omega))) | (exact hx _ (by assumption)) | (exact Nat.le_trans (hx _ (by assumption)) (by omega)) | (simp only [List.length_append, List.length_take, List.length_drop, List.length_cons, List.length_nil]; omega) | (simp_all; done)) (by first | omega | assumption | (exact hx _ (getD_mem (by omega))) | (exact hx _ (by assumption)) | (exact Nat.le_trans (hx _ (by assumption)) (by omega)) | (simp only [List.length_append, List.length_take, List.length_drop, List.length_cons, List.length_nil]; omega) | (simp_all; done))) (.skip _ _ (.skip _ _ .nil)) rfl) rfl rfl ?_
                    refine Ch.step (v := (.d (.int .i64 (heldR (marks 1 (grR n on off).length) 1)))) rfl (.pure (.assign _ rfl rfl)) rfl rfl ?_
                    refine Ch.nil ?_
                    refine T_seq ?_
                    refine T_seq ?_
                    refine T_region hc ?_
                    refine Ch.step (v := (.d (.int .i64 (heldR (marks 1 (grR n on off).length) 1)))) rfl (.pure (.move _ rfl rfl)) rfl rfl ?_
                    refine Ch.step (v := (.d (.bool (decide ((heldR (marks 1 (grR n on off).length) 1) < 0))))) rfl (.pure (.int _ _ _ _ _ rfl rfl rfl rfl)) rfl rfl ?_
                    refine Ch.nil ?_
                    refine T_cond (b := (decide ((heldR (marks 1 (grR n on off).length) 1) < 0))) rfl (fun h10 => ?_) (fun h10 => ?_)
                    · replace h10 := of_decide_eq_true h10
                      refine T_seq ?_
                      refine T_region hc ?_
                      refine Ch.step (v := (.d (.bool false))) rfl (.pure (.assign _ rfl rfl)) rfl rfl ?_
                      refine Ch.nil ?_
                      refine T_ret ?_
                      refine And.intro (.inr rfl) ?_
                      exact Exists.intro [(.d (.bool false))] (Exists.intro [] (Exists.intro [] (And.intro (.cons (.tmp 6 rfl) .nil) (And.intro (.cons (.any _) (.cons (.any _) (.cons (.any _) .nil))) (And.intro (Exp.of (congrArg D.bool (by first | rfl | (simp_all; done) | (exfalso; omega) | (exfalso; simp_all; omega))) (.d _)) (And.intro rfl rfl))))))
                    · replace h10 := of_decide_eq_false h10
                      refine T_skip ?_
                      refine T_seq ?_
                      refine T_seq ?_
                      refine T_region hc ?_
                      refine Ch.step (v := (.d (.int .i64 (heldR (marks 1 (grR n on off).length) 1)))) rfl (.pure (.move _ rfl rfl)) rfl rfl ?_
                      refine Ch.step (v := (.d (.int .i64 ((1 + (grR n on off).length : Nat) : Int)))) rfl (.pure (.move _ rfl rfl)) rfl rfl ?_
                      refine Ch.step (v := (.d (.bool (!(decide ((heldR (marks 1 (grR n on off).length) 1) = ((1 + (grR n on off).length : Nat) : Int))))))) rfl (.pure (.int _ _ _ _ _ rfl rfl rfl rfl)) rfl rfl ?_
                      refine Ch.nil ?_
                      refine T_cond (b := (!(decide ((heldR (marks 1 (grR n on off).length) 1) = ((1 + (grR n on off).length : Nat) : Int))))) rfl (fun h11 => ?_) (fun h11 => ?_)
                      · replace h11 := nott h11
                        replace h11 := of_decide_eq_false h11
                        refine T_seq ?_
                        refine T_region hc ?_
                        refine Ch.step (v := (.d (.bool false))) rfl (.pure (.assign _ rfl rfl)) rfl rfl ?_
                        refine Ch.nil ?_
                        refine T_ret ?_
                        refine And.intro (.inr rfl) ?_
                        exact Exists.intro [(.d (.bool false))] (Exists.intro [] (Exists.intro [] (And.intro (.cons (.tmp 6 rfl) .nil) (And.intro (.cons (.any _) (.cons (.any _) (.cons (.any _) .nil))) (And.intro (Exp.of (congrArg D.bool (by first | rfl | (simp_all; done) | (exfalso; omega) | (exfalso; simp_all; omega))) (.d _)) (And.intro rfl rfl))))))
                      · replace h11 := notf h11
                        replace h11 := of_decide_eq_true h11
                        refine T_skip ?_
                        refine T_seq ?_
                        refine T_region hc ?_
                        refine Ch.step (v := (.d (.int .i64 n))) rfl (.pure (.move _ rfl rfl)) rfl rfl ?_
                        refine Ch.step (v := (.d (.slice false 1 (on.map D.str)))) rfl (.pure (.move _ rfl rfl)) rfl rfl ?_
                        refine Ch.step (v := (.row 101000)) rfl (.call 101000 19 _ _ _ en19 rfl (.inl rfl) (.cons (.d _) .nil) rfl (sol (solid_row (fun _ => rfl) _) rfl) (sp_laws_toStringS on (by first | omega | assumption | (exact hx _ (getD_mem (by omega))) | (exact hx _ (by assumption)) | (exact Nat.le_trans (hx _ (by assumption)) (by omega)) | (simp only [List.length_append, List.length_take, List.length_drop, List.length_cons, List.length_nil]; omega) | (simp_all; done))) (.skip _ _ .nil) rfl) rfl rfl ?_
                        refine Ch.step (v := (.d (.slice false 1 (off.map D.str)))) rfl (.pure (.move _ rfl rfl)) rfl rfl ?_
                        refine Ch.step (v := (.row 103000)) rfl (.call 103000 19 _ _ _ en19 rfl (.inl rfl) (.cons (.d _) .nil) rfl (sol (solid_row (fun _ => rfl) _) rfl) (sp_laws_toStringS off (by first | omega | assumption | (exact hx _ (getD_mem (by omega))) | (exact hx _ (by assumption)) | (exact Nat.le_trans (hx _ (by assumption)) (by omega)) | (simp only [List.length_append, List.length_take, List.length_drop, List.length_cons, List.length_nil]; omega) | (simp_all; done))) (.skip _ _ .nil) rfl) rfl rfl ?_
                        refine Ch.step (v := (.tup [(.row 104000), (.d (.bool (primOk n on off)))])) rfl (.call 104000 56 _ _ _ en56 rfl (.inl rfl) (.cons (.d _) (.cons (.lend (.row rfl (frozs_map (fun _ => rfl) _))) (.cons (.lend (.row rfl (frozs_map (fun _ => rfl) _))) .nil))) rfl (sol (by rw [D.solid]; exact solids_c (solid_row (fun _ => rfl) _) rfl) rfl) (sp_impl_GreedyCover n on off (by first | omega | assumption | (exact hx _ (getD_mem (by omega))) | (exact hx _ (by assumption)) | (exact Nat.le_trans (hx _ (by assumption)) (by omega)) | (simp only [List.length_append, List.length_take, List.length_drop, List.length_cons, List.length_nil]; omega) | (simp_all; done)) (by first | omega | assumption | (exact hx _ (getD_mem (by omega))) | (exact hx _ (by assumption)) | (exact Nat.le_trans (hx _ (by assumption)) (by omega)) | (simp only [List.length_append, List.length_take, List.length_drop, List.length_cons, List.length_nil]; omega) | (simp_all; done)) (by first | omega | assumption | (exact hx _ (getD_mem (by omega))) | (exact hx _ (by assumption)) | (exact Nat.le_trans (hx _ (by assumption)) (by omega)) | (simp only [List.length_append, List.length_take, List.length_drop, List.length_cons, List.length_nil]; omega) | (simp_all; done)) (by first | omega | assumption | (exact hx _ (getD_mem (by omega))) | (exact hx _ (by assumption)) | (exact Nat.le_trans (hx _ (by assumption)) (by omega)) | (simp only [List.length_append, List.length_take, List.length_drop, List.length_cons, List.length_nil]; omega) | (simp_all; done))) (.skip _ _ (.skip _ _ (.skip _ _ .nil))) rfl) rfl rfl ?_
                        refine Ch.step (v := (.tup [(.row 104000), (.d (.bool (primOk n on off)))])) rfl (.pure (.move _ rfl rfl)) rfl rfl ?_
                        refine Ch.step (v := (.row 104000)) rfl (.pure (.extract _ rfl rfl rfl)) rfl rfl ?_
                        refine Ch.step (v := (.d (.bool (primOk n on off)))) rfl (.pure (.extract _ rfl rfl rfl)) rfl rfl ?_
                        refine Ch.step (v := (.row 104000)) rfl (.pure (.assign _ rfl rfl)) rfl rfl ?_
                        refine Ch.step (v := (.d (.bool (primOk n on off)))) rfl (.pure (.assign _ rfl rfl)) rfl rfl ?_
                        refine Ch.nil ?_
                        refine T_seq ?_
                        refine T_seq ?_
                        refine T_region hc ?_
                        refine Ch.step (v := (.row 104000)) rfl (.pure (.move _ rfl rfl)) rfl rfl ?_
                        refine Ch.step (v := (.row 35000)) rfl (.pure (.move _ rfl rfl)) rfl rfl ?_
                        refine Ch.step (v := (.d (.bool (decide ((grR n on off) = (grR n on off)))))) rfl (.call 109000 21 _ _ _ en21 rfl (.inl rfl) (.cons (.lend (.row rfl (frozs_map (fun _ => rfl) _))) (.cons (.lend (.row rfl (frozs_map (fun _ => rfl) _))) .nil)) rfl rfl (sp_laws_eqStringS (grR n on off) (grR n on off) (by first | omega | assumption | (exact hx _ (getD_mem (by omega))) | (exact hx _ (by assumption)) | (exact Nat.le_trans (hx _ (by assumption)) (by omega)) | (simp only [List.length_append, List.length_take, List.length_drop, List.length_cons, List.length_nil]; omega) | (simp_all; done))) (.skip _ _ (.skip _ _ .nil)) rfl) rfl rfl ?_
                        refine Ch.step (v := (.d (.bool (!(decide ((grR n on off) = (grR n on off))))))) rfl (.pure (.not _ _ rfl rfl)) rfl rfl ?_
                        refine Ch.step (v := (.d (.bool (!(decide ((grR n on off) = (grR n on off))))))) rfl (.pure (.move _ rfl rfl)) rfl rfl ?_
                        cases h12 : (decide ((grR n on off) = (grR n on off))) with
                        | true =>
                          replace h12 := of_decide_eq_true h12
                          refine Ch.step (v := (.d (.bool (primOk n on off)))) rfl (.pure (.move _ rfl rfl)) rfl rfl ?_
                          refine Ch.step (v := (.d (.bool (primOk n on off)))) rfl (.pure (.move _ rfl rfl)) rfl rfl ?_
                          refine Ch.step (v := (.d (.bool (!(decide ((primOk n on off) = (primOk n on off))))))) rfl (.pure (.neB _ _ _ _ rfl Try.underlying4 rfl rfl)) rfl rfl ?_
                          refine Ch.step (v := (.d (.bool (!(decide ((primOk n on off) = (primOk n on off))))))) rfl (.pure (.pickF _ _ _ rfl rfl rfl)) rfl rfl ?_
                          refine Ch.nil ?_
                          refine T_cond (b := (!(decide ((primOk n on off) = (primOk n on off))))) rfl (fun h13 => ?_) (fun h13 => ?_)
                          · replace h13 := nott h13
                            replace h13 := of_decide_eq_false h13
                            refine T_seq ?_
                            refine T_region hc ?_
                            refine Ch.step (v := (.d (.bool false))) rfl (.pure (.assign _ rfl rfl)) rfl rfl ?_
                            refine Ch.nil ?_
                            refine T_ret ?_
                            refine And.intro (.inr rfl) ?_
                            exact Exists.intro [(.d (.bool false))] (Exists.intro [] (Exists.intro [] (And.intro (.cons (.tmp 6 rfl) .nil) (And.intro (.cons (.any _) (.cons (.any _) (.cons (.any _) .nil))) (And.intro (Exp.of (congrArg D.bool (by first | rfl | (simp_all; done) | (exfalso; omega) | (exfalso; simp_all; omega))) (.d _)) (And.intro rfl rfl))))))
                          · replace h13 := notf h13
                            replace h13 := of_decide_eq_true h13
                            refine T_skip ?_
                            refine T_seq ?_
                            refine T_region hc ?_
                            refine Ch.step (v := (.d (.int .i64 1))) rfl (.pure (.assign _ rfl rfl)) rfl rfl ?_
                            refine Ch.nil ?_
                            refine T_seq ?_
                            refine T_region hc ?_
                            refine Ch.step (v := (.row 46000)) rfl (.pure (.move _ rfl rfl)) rfl rfl ?_
                            refine Ch.step (v := (.d (.int .i64 1))) rfl (.pure (.move _ rfl rfl)) rfl rfl ?_
                            refine Ch.step (v := (.d (.int .i64 (heldR (marks 1 (grR n on off).length) 1)))) rfl (.call 118000 27 _ _ _ en27 rfl (.inl rfl) (.cons (.lend (.row rfl (frozs_map (fun _ => rfl) _))) (.cons (.d _) .nil)) rfl rfl (sp_laws_heldStringS (marks 1 (grR n on off).length) 1 (by first | omega | assumption | (exact hx _ (getD_mem (by omega))) | (exact hx _ (by assumption)) | (exact Nat.le_trans (hx _ (by assumption)) (by omega)) | (simp only [List.length_append, List.length_take, List.length_drop, List.length_cons, List.length_nil]; omega) | (simp_all; done)) (by first | omega | assumption | (exact hx _ (getD_mem (by omega))) | (exact hx _ (by assumption)) | (exact Nat.le_trans (hx _ (by assumption)) (by omega)) | (simp only [List.length_append, List.length_take, List.length_drop, List.length_cons, List.length_nil]; omega) | (simp_all; done))) (.skip _ _ (.skip _ _ .nil)) rfl) rfl rfl ?_
                            refine Ch.step (v := (.d (.int .i64 (heldR (marks 1 (grR n on off).length) 1)))) rfl (.pure (.assign _ rfl rfl)) rfl rfl ?_
                            refine Ch.nil ?_
                            refine T_seq ?_
                            refine T_seq ?_
                            refine T_region hc ?_
                            refine Ch.step (v := (.d (.int .i64 (heldR (marks 1 (grR n on off).length) 1)))) rfl (.pure (.move _ rfl rfl)) rfl rfl ?_
                            refine Ch.step (v := (.d (.bool (decide ((heldR (marks 1 (grR n on off).length) 1) < 0))))) rfl (.pure (.int _ _ _ _ _ rfl rfl rfl rfl)) rfl rfl ?_
                            refine Ch.nil ?_
                            refine T_cond (b := (decide ((heldR (marks 1 (grR n on off).length) 1) < 0))) rfl (fun h14 => ?_) (fun h14 => ?_)
                            · replace h14 := of_decide_eq_true h14
                              refine T_seq ?_
                              refine T_region hc ?_
                              refine Ch.step (v := (.d (.bool false))) rfl (.pure (.assign _ rfl rfl)) rfl rfl ?_
                              refine Ch.nil ?_
                              refine T_ret ?_
                              refine And.intro (.inr rfl) ?_
                              exact Exists.intro [(.d (.bool false))] (Exists.intro [] (Exists.intro [] (And.intro (.cons (.tmp 6 rfl) .nil) (And.intro (.cons (.any _) (.cons (.any _) (.cons (.any _) .nil))) (And.intro (Exp.of (congrArg D.bool (by first | rfl | (simp_all; done) | (exfalso; omega) | (exfalso; simp_all; omega))) (.d _)) (And.intro rfl rfl))))))
                            · replace h14 := of_decide_eq_false h14
                              refine T_skip ?_
                              refine T_seq ?_
                              refine T_seq ?_
                              refine T_region hc ?_
                              refine Ch.step (v := (.d (.int .i64 (heldR (marks 1 (grR n on off).length) 1)))) rfl (.pure (.move _ rfl rfl)) rfl rfl ?_
                              refine Ch.step (v := (.d (.int .i64 ((1 + (grR n on off).length : Nat) : Int)))) rfl (.pure (.move _ rfl rfl)) rfl rfl ?_
                              refine Ch.step (v := (.d (.bool (!(decide ((heldR (marks 1 (grR n on off).length) 1) = ((1 + (grR n on off).length : Nat) : Int))))))) rfl (.pure (.int _ _ _ _ _ rfl rfl rfl rfl)) rfl rfl ?_
                              refine Ch.nil ?_
                              refine T_cond (b := (!(decide ((heldR (marks 1 (grR n on off).length) 1) = ((1 + (grR n on off).length : Nat) : Int))))) rfl (fun h15 => ?_) (fun h15 => ?_)
                              · replace h15 := nott h15
                                replace h15 := of_decide_eq_false h15
                                refine T_seq ?_
                                refine T_region hc ?_
                                refine Ch.step (v := (.d (.bool false))) rfl (.pure (.assign _ rfl rfl)) rfl rfl ?_
                                refine Ch.nil ?_
                                refine T_ret ?_
                                refine And.intro (.inr rfl) ?_
                                exact Exists.intro [(.d (.bool false))] (Exists.intro [] (Exists.intro [] (And.intro (.cons (.tmp 6 rfl) .nil) (And.intro (.cons (.any _) (.cons (.any _) (.cons (.any _) .nil))) (And.intro (Exp.of (congrArg D.bool (by first | rfl | (simp_all; done) | (exfalso; omega) | (exfalso; simp_all; omega))) (.d _)) (And.intro rfl rfl))))))
                              · replace h15 := notf h15
                                replace h15 := of_decide_eq_true h15
                                refine T_skip ?_
                                refine T_seq ?_
                                refine T_region hc ?_
                                refine Ch.step (v := (.d (.bool true))) rfl (.pure (.assign _ rfl rfl)) rfl rfl ?_
                                refine Ch.nil ?_
                                refine T_ret ?_
                                refine And.intro (.inr rfl) ?_
                                exact Exists.intro [(.d (.bool true))] (Exists.intro [] (Exists.intro [] (And.intro (.cons (.tmp 6 rfl) .nil) (And.intro (.cons (.any _) (.cons (.any _) (.cons (.any _) .nil))) (And.intro (.d _) (And.intro rfl rfl))))))
                        | false =>
                          replace h12 := of_decide_eq_false h12
                          refine Ch.skip rfl rfl ?_
                          refine Ch.skip rfl rfl ?_
                          refine Ch.skip rfl rfl ?_
                          refine Ch.step (v := (.d (.bool true))) rfl (.pure (.pickT _ _ _ rfl rfl rfl)) rfl rfl ?_
                          refine Ch.nil ?_
                          refine T_cond (b := true) rfl (fun _ => ?_) (fun h => nomatch h)
                          refine T_seq ?_
                          refine T_region hc ?_
                          refine Ch.step (v := (.d (.bool false))) rfl (.pure (.assign _ rfl rfl)) rfl rfl ?_
                          refine Ch.nil ?_
                          refine T_ret ?_
                          refine And.intro (.inr rfl) ?_
                          exact Exists.intro [(.d (.bool false))] (Exists.intro [] (Exists.intro [] (And.intro (.cons (.tmp 6 rfl) .nil) (And.intro (.cons (.any _) (.cons (.any _) (.cons (.any _) .nil))) (And.intro (Exp.of (congrArg D.bool (by first | rfl | (simp_all; done) | (exfalso; omega) | (exfalso; simp_all; omega))) (.d _)) (And.intro rfl rfl))))))
                | false =>
                  replace h8 := of_decide_eq_false h8
                  refine Ch.skip rfl rfl ?_
                  refine Ch.skip rfl rfl ?_
                  refine Ch.skip rfl rfl ?_
                  refine Ch.step (v := (.d (.bool true))) rfl (.pure (.pickT _ _ _ rfl rfl rfl)) rfl rfl ?_
                  refine Ch.nil ?_
                  refine T_cond (b := true) rfl (fun _ => ?_) (fun h => nomatch h)
                  refine T_seq ?_
                  refine T_region hc ?_
                  refine Ch.step (v := (.d (.bool false))) rfl (.pure (.assign _ rfl rfl)) rfl rfl ?_
                  refine Ch.nil ?_
                  refine T_ret ?_
                  refine And.intro (.inr rfl) ?_
                  exact Exists.intro [(.d (.bool false))] (Exists.intro [] (Exists.intro [] (And.intro (.cons (.tmp 6 rfl) .nil) (And.intro (.cons (.any _) (.cons (.any _) (.cons (.any _) .nil))) (And.intro (Exp.of (congrArg D.bool (by first | rfl | (simp_all; done) | (exfalso; omega) | (exfalso; simp_all; omega))) (.d _)) (And.intro rfl rfl))))))
      | false =>
        replace h3 := of_decide_eq_false h3
        refine Ch.skip rfl rfl ?_
        refine Ch.skip rfl rfl ?_
        refine Ch.skip rfl rfl ?_
        refine Ch.step (v := (.d (.bool true))) rfl (.pure (.pickT _ _ _ rfl rfl rfl)) rfl rfl ?_
        refine Ch.nil ?_
        refine T_cond (b := true) rfl (fun _ => ?_) (fun h => nomatch h)
        refine T_seq ?_
        refine T_region hc ?_
        refine Ch.step (v := (.d (.bool false))) rfl (.pure (.assign _ rfl rfl)) rfl rfl ?_
        refine Ch.nil ?_
        refine T_ret ?_
        refine And.intro (.inr rfl) ?_
        exact Exists.intro [(.d (.bool false))] (Exists.intro [] (Exists.intro [] (And.intro (.cons (.tmp 6 rfl) .nil) (And.intro (.cons (.any _) (.cons (.any _) (.cons (.any _) .nil))) (And.intro (Exp.of (congrArg D.bool (by first | rfl | (simp_all; done) | (exfalso; omega) | (exfalso; simp_all; omega))) (.d _)) (And.intro rfl rfl))))))

end Go.AM
