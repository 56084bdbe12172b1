/-
  The abstract machine, part G: the soundness of the operations that make or write memory; the relation 'Ev'.
-/
import Derived.Test.YtlnimdlpggnjeaaGreatDoorAmF
namespace Go.AM

def Goes (P : Program) (c : Ctx) (o : Oper) (a : Act) (w : World) (α' : St) : Prop :=
  ∀ (K : Act → World → Prop) (Q : Exit → Act → World → Prop), (∀ a' w', R c α' a' w' → K a' w') → o.wp P a w K Q

section
variable {P : Program} {c : Ctx} {α : St} {a : Act} {w : World} {β : Nat → Value} {φ : Nat → List Nat} {ρ : Operand → V} {h : Nat → Option Ob} {o : Oper}

theorem goes_value {α' val w'} (hr : (execOp a.eval o).run P w = .ok (.value val) w') (hR : R c α' (a.put o.dst val) w') : Goes P c o a w α' := by
  intro K Q hK
  unfold Oper.wp
  rw [hr]
  exact hK _ _ hR

theorem goes_skip {α' w'} (hr : (execOp a.eval o).run P w = .ok .skip w') (hR : R c α' (a.put o.dst undef) w') : Goes P c o a w α' := by
  intro K Q hK
  unfold Oper.wp
  rw [hr]
  exact hK _ _ hR

theorem goes_pure (H : Rel c α a w β φ) (E : Env (Sof c α φ) w β φ ρ h a.eval) (hd : ∀ d, o.dst = some d → d < α.n) {v : V} (he : EvP P ρ h o v) : Goes P c o a w (α.app o.dst v {}) := by
  obtain ⟨val, h1, h2⟩ := he.sound E
  exact goes_value h1 ⟨β, φ, H.pure o.dst hd v val h2⟩

theorem goes_box (H : Rel c α a w β φ) (E : Env (Sof c α φ) w β φ ρ h a.eval) (hd : ∀ d, o.dst = some d → d < α.n) {n : Nat} {t : TypeId} {x : Operand} {cs : List V} (ho : o.op = .box t x) (hc : CellsV (ρ x) cs)
    (hn : n ∉ α.ids) (hi : ∀ id ∈ idss cs, id ∈ α.ids) : Goes P c o a w (α.app o.dst (.ptr n 0) { set := [(n, .box cs)], new := [n] }) := by
  obtain ⟨h1, _⟩ := hc.sound (E.slots x)
  have hr : (execOp a.eval o).run P w = .ok (.value (.pointer (some ⟨w.heap.size, 0, none⟩))) (w.alloc (.cells (a.eval x).cells t)) := by
    simp [execOp, ho, Instr.box, newVar, newRow]
  refine goes_value hr (H.new o.dst hd n hn (.box cs) (w.alloc (.cells (a.eval x).cells t)) (.pointer (some ⟨w.heap.size, 0, none⟩)) [w.heap.size] rfl rfl rfl (by simp) (fun b hb => heap_old w _ b hb) (by simp) (by simp) ?_ _ _ ?_)
  · intro S' hS β' hβ
    refine ⟨w.heap.size, t, (a.eval x).cells.toList, rfl, by rw [heap_new], ?_, rfl⟩
    exact VRs.move (w := w) ⟨fun b hb _ => heap_old w _ b hb, by simp⟩ hS (fun id hid => hβ id (hi id hid)) h1
  · intro S' hS β' hβ hβn
    rw [VR]
    exact ⟨w.heap.size, hβn, rfl⟩

theorem goes_alloc (H : Rel c α a w β φ) (hd : ∀ d, o.dst = some d → d < α.n) {n : Nat} {t : TypeId} {zs : List Value} (ho : o.op = .alloc t) (hz : ∃ i z, P.info? t = some i ∧ i.zero = some z ∧ z.cells = zs.toArray)
    (hn : n ∉ α.ids) : Goes P c o a w (α.app o.dst (.ptr n 0) { set := [(n, .box (zs.map constV0))], new := [n] }) := by
  obtain ⟨i, z, h1, h2, h3⟩ := hz
  have hr : (execOp a.eval o).run P w = .ok (.value (.pointer (some ⟨w.heap.size, 0, none⟩))) (w.alloc (.cells zs.toArray t)) := by
    simp [execOp, ho, Instr.alloc, newVar, newRow, zeroValue, typeInfo, h1, h2, h3]
  refine goes_value hr (H.new o.dst hd n hn (.box (zs.map constV0)) (w.alloc (.cells zs.toArray t)) (.pointer (some ⟨w.heap.size, 0, none⟩)) [w.heap.size] rfl rfl rfl (by simp) (fun b hb => heap_old w _ b hb) (by simp) (by simp) ?_ _ _ ?_)
  · intro S' hS β' hβ
    exact ⟨w.heap.size, t, zs, rfl, by rw [heap_new], VRs_constV zs, rfl⟩
  · intro S' hS β' hβ hβn
    rw [VR]
    exact ⟨w.heap.size, hβn, rfl⟩

theorem goes_build (H : Rel c α a w β φ) (E : Env (Sof c α φ) w β φ ρ h a.eval) (hd : ∀ d, o.dst = some d → d < α.n) {t : TypeId} {parts : Array (Nat × Operand)} {zs places pl cs} (ho : o.op = .build t parts)
    (hst : StructIs P t zs places) (hp : PartsV ρ parts.toList pl) (hf : fillV (places.toArray[·]?) (zs.map constV0) pl = some cs) : Goes P c o a w (α.app o.dst (.agg cs) {}) := by
  obtain ⟨it, z, fs, h1, h2, h3, h4, h5⟩ := hst
  obtain ⟨ys, h6, h7⟩ := fill_sound E.slots (places.toArray[·]?) hp (zs := zs.toArray) (VRs_constV zs) hf
  have hb : P.built t (parts.toList.map fun p => (p.1, a.eval p.2)) = some ys := by
    unfold Program.built
    simp only [h1, h3, h2, h4, h5]
    exact h6
  have hr : (execOp a.eval o).run P w = .ok (.value (.agg ys)) w := by
    have := run_build (P := P) w t (parts.map fun (i, x) => (i, a.eval x)) ys (by simpa using hb)
    simp [execOp, ho, this]
  refine goes_value hr ⟨β, φ, H.pure o.dst hd (.agg cs) _ ?_⟩
  rw [VR]
  exact ⟨ys.toList, by simp, h7⟩

theorem goes_storePtr (H : Rel c α a w β φ) (E : Env (Sof c α φ) w β φ ρ h a.eval) (hh : ∀ id ob, h id = some ob → α.ob id = some ob) (hd : ∀ d, o.dst = some d → d < α.n) {t : TypeId} {x y : Operand} {id off : Nat} {cs us : List V}
    (ho : o.op = .store t x y) (hx : ρ x = .ptr id off) (hob : h id = some (.box cs)) (hy : CellsV (ρ y) us) (hsz : SizeIs P t us.length) (hl : off + us.length ≤ cs.length) :
    Goes P c o a w (α.app o.dst .junk { set := [(id, .box (splice cs off us))] }) := by
  have hs := E.slots x
  rw [hx, VR] at hs
  obtain ⟨g, h1, h2⟩ := hs
  obtain ⟨g', e, ys, h3, h4, h5, h6⟩ := E.objs _ _ hob
  rw [h1] at h3
  obtain rfl : g = g' := by simpa using h3
  obtain ⟨h7, h8⟩ := hy.sound (E.slots y)
  have h9 := VRs_length h5
  have h10 : (a.eval y).cells.size = us.length := by have := VRs_length h7; simpa using this
  have hst := run_storeCells_fr (P := P) g off e (0, 0) (a.eval y).cells.toList 0 ys.toArray w h4 (by intros; omega) (by simp; omega) (VRs_one h8 h7)
  have hr : (execOp a.eval o).run P w = .ok .skip (w.setRow g (splice ys off (a.eval y).cells.toList).toArray) := by
    simp only [execOp, ho, h2, Instr.storeAt, Instr.sureAddr, storeVar, Sem.run_bind, Sem.run_pure, Result.andThen_ok, run_sizeOf w hsz, h10]
    rw [if_neg (by simp)]
    simp only [hst, Result.andThen_ok, splice, Nat.add_zero]
  refine goes_skip hr (H.set o.dst hd id (.box cs) (hh _ _ hob) (.box (splice cs off us)) (w.setRow g (splice ys off (a.eval y).cells.toList).toArray) rfl rfl rfl (by simp) ?_ ?_ _ _ ?_)
  · intro b hb hm
    rw [setRow_other]
    intro e; subst e; exact hm (by rw [h6]; simp)
  · intro S' hS
    refine ⟨g, e, splice ys off (a.eval y).cells.toList, h1, by rw [setRow_heap w g ys.toArray _ e (0, 0) h4], ?_, h6⟩
    refine VRs.move (w := w) (β := β) ⟨fun b hb hx => ?_, by simp⟩ hS (fun _ _ => rfl) (VRs_splice h5 h7 off)
    rw [setRow_other]
    intro e; subst e
    exact (hx.resolve_right (by simp)) (.inr ⟨id, _, hh _ _ hob, by rw [h6]; simp⟩)
  · intro S' _; rw [VR]; trivial

theorem splice_mid {τ : Type} (A B C us : List τ) (off : Nat) (h : off + us.length ≤ B.length) : splice (A ++ B ++ C) (A.length + off) us = A ++ splice B off us ++ C := by
  unfold splice
  have e1 : (A ++ B ++ C).take (A.length + off) = A ++ B.take off := by
    rw [List.append_assoc, List.take_length_add_append, List.take_append_of_le_length (by omega)]
  have e2 : (A ++ B ++ C).drop (A.length + off + us.length) = B.drop (off + us.length) ++ C := by
    rw [List.append_assoc, Nat.add_assoc, List.drop_length_add_append, List.drop_append_of_le_length (by omega)]
  rw [e1, e2]
  simp

theorem flat_length {sz : Nat} : ∀ {us : List Value}, (∀ y ∈ us, y.cells.size = sz) → (flat us).length = us.length * sz
  | [], _ => by simp [flat]
  | u :: us, hu => by
    rw [show flat (u :: us) = u.cells.toList ++ flat us from rfl, List.length_append, flat_length (fun y hy => hu y (by simp [hy]))]
    have := hu u (by simp)
    simp [this, Nat.succ_mul, Nat.add_comm]

theorem flat_append (us vs : List Value) : flat (us ++ vs) = flat us ++ flat vs := by simp [flat]

theorem flat_set {sz : Nat} {vs : List Value} (hs : ∀ y ∈ vs, y.cells.size = sz) {j : Nat} {u u' : Value} (hj : vs[j]? = some u) (off : Nat) (us : List Value) (hl : off + us.length ≤ sz)
    (hu : u'.cells.toList = splice u.cells.toList off us) : splice (flat vs) (j * sz + off) us = flat (vs.set j u') := by
  have hlt : j < vs.length := (List.getElem?_eq_some_iff.1 hj).1
  have hvj : vs[j] = u := (List.getElem?_eq_some_iff.1 hj).2
  have e1 : vs = vs.take j ++ [u] ++ vs.drop (j + 1) := by
    rw [← hvj]
    simp
  have e2 : vs.set j u' = vs.take j ++ [u'] ++ vs.drop (j + 1) := by
    rw [List.set_eq_take_append_cons_drop, if_pos hlt]
    simp
  have hA : (flat (vs.take j)).length = j * sz := by
    rw [flat_length (fun y hy => hs y (List.mem_of_mem_take hy)), List.length_take, Nat.min_eq_left (by omega)]
  have hB : u.cells.size = sz := hs u (List.mem_of_getElem? hj)
  rw [e2]
  conv => lhs; rw [e1]
  rw [flat_append, flat_append, flat_append, flat_append, ← hA]
  rw [show flat [u] = u.cells.toList by simp [flat], show flat [u'] = u'.cells.toList by simp [flat], hu]
  exact splice_mid _ _ _ _ _ (by simpa [hB] using hl)

theorem DRs_set {S w} : ∀ {xs : List D} {vs F}, DRs S w xs vs F → ∀ {j : Nat} {y y' : D} {v' : Value}, xs[j]? = some y → y.noU = true → DR S w y' v' [] → DRs S w (xs.set j y') (vs.set j v') F
  | [], _, _, _, j, y, y', v', hj, _, _ => by simp at hj
  | x :: xs, vs, F, hh, j, y, y', v', hj, hn, hy' => by
    rw [DRs] at hh
    obtain ⟨v, vs', F1, F2, rfl, rfl, h1, h2⟩ := hh
    cases j with
    | zero =>
      simp at hj; subst hj
      have := h1.noU hn
      subst this
      simp only [List.set_cons_zero]
      rw [DRs]
      exact ⟨v', vs', [], F2, rfl, rfl, hy', h2⟩
    | succ j =>
      simp only [List.set_cons_succ]
      rw [DRs]
      exact ⟨v, _, F1, F2, rfl, rfl, h1, DRs_set h2 (by simpa using hj) hn hy'⟩

def updD : D → Nat → List D → Option D
  | .agg cs, off, us => if off + us.length ≤ cs.length then some (.agg (splice cs off us)) else none
  | .tup _, _, _ => none
  | .any, _, _ => none
  | .map _ _, _, _ => none
  | _, 0, [u] => some u
  | _, _, _ => none

theorem DRs_append {S w} : ∀ {ds ds' : List D} {vs vs' F F'}, DRs S w ds vs F → DRs S w ds' vs' F' → DRs S w (ds ++ ds') (vs ++ vs') (F ++ F')
  | [], ds', vs, vs', F, F', h, h' => by rw [DRs] at h; obtain ⟨rfl, rfl⟩ := h; exact h'
  | d :: ds, ds', vs, vs', F, F', h, h' => by
    rw [DRs] at h
    obtain ⟨v, ws, F1, F2, rfl, rfl, h1, h2⟩ := h
    rw [List.cons_append, DRs]
    exact ⟨v, ws ++ vs', F1, F2 ++ F', rfl, by simp, h1, DRs_append h2 h'⟩

theorem DRs_take {S w} {cs : List D} {vs} (h : DRs S w cs vs []) (n : Nat) : DRs S w (cs.take n) (vs.take n) [] := by
  have := DRs_take_drop h 0 n
  simpa using this
theorem DRs_drop {S w} {cs : List D} {vs} (h : DRs S w cs vs []) (n : Nat) : DRs S w (cs.drop n) (vs.drop n) [] := by
  have := DRs_take_drop h n cs.length
  rwa [List.take_of_length_le (by simp), List.take_of_length_le (by simp [DRs_length h])] at this

theorem updD_sound {S w} {y y' : D} {v u : Value} {off : Nat} {d : D} (h1 : DR S w y v []) (hd : DR S w d u []) (hm : d.mem = true) (hy : updD y off (cellsD d) = some y') :
    ∃ v', DR S w y' v' [] ∧ v'.cells.toList = splice v.cells.toList off u.cells.toList ∧ off + u.cells.size ≤ v.cells.size ∧ v'.cells.size = v.cells.size ∧ y'.mem = true := by
  have hc := DR_cells hd hm
  have hlen : u.cells.size = (cellsD d).length := by have := DRs_length hc; simpa using this
  have hone : ∀ x ∈ cellsD d, x.one = true := by
    intro x hx
    cases d with
    | agg cs => rw [DR] at hd; exact hd.1 x hx
    | tup => simp [D.mem] at hm
    | map => simp [D.mem] at hm
    | any => simp [D.mem] at hm
    | _ => simp [cellsD] at hx; subst hx; rfl
  cases y with
  | agg cs =>
    simp only [updD] at hy
    split at hy
    · rename_i hle
      cases hy
      rw [DR] at h1
      obtain ⟨h2, vs, rfl, h3⟩ := h1
      have hvl := DRs_length h3
      refine ⟨.agg (splice vs off u.cells.toList).toArray, ?_, rfl, by show off + u.cells.size ≤ vs.toArray.size; simp; omega, ?_, rfl⟩
      · rw [DR]
        refine ⟨?_, _, rfl, ?_⟩
        · intro x hx
          unfold splice at hx
          simp only [List.mem_append] at hx
          rcases hx with (hx | hx) | hx
          · exact h2 x (List.mem_of_mem_take hx)
          · exact hone x hx
          · exact h2 x (List.mem_of_mem_drop hx)
        · unfold splice
          rw [show u.cells.toList.length = (cellsD d).length by simpa using hlen]
          have := DRs_append (DRs_append (DRs_take h3 off) hc) (DRs_drop h3 (off + (cellsD d).length))
          simpa using this
      · show (splice vs off u.cells.toList).toArray.size = vs.toArray.size
        simp [splice]; omega
    · cases hy
  | tup => simp [updD] at hy
  | any => simp [updD] at hy
  | map => simp [updD] at hy
  | _ =>
    cases off with
    | succ n => simp [updD] at hy
    | zero =>
      obtain ⟨v1, _⟩ := cells_of_one (by rfl) h1
      generalize hg : cellsD d = l at hy
      match l, hy with
      | [x], hy =>
        simp only [updD, Option.some.injEq] at hy
        subst hy
        have hx1 : x.one = true := hone x (by rw [hg]; simp)
        rw [hg, DRs] at hc
        obtain ⟨u', vs', F1, F2, h4, hF, h5, h6⟩ := hc
        obtain ⟨rfl, rfl⟩ : F1 = [] ∧ F2 = [] := by simpa using hF.symm
        rw [DRs] at h6
        obtain ⟨rfl, _⟩ := h6
        have hu1 := (cells_of_one hx1 h5).1
        have hus : u.cells.size = 1 := by rw [hlen, hg]; rfl
        refine ⟨u', h5, ?_, by rw [v1, hus]; simp, by rw [hu1, v1]; simp, by cases x <;> first | rfl | simp [D.one] at hx1⟩
        rw [h4, hu1, v1]; simp [splice]

theorem goes_storeEl (H : Rel c α a w β φ) (E : Env (Sof c α φ) w β φ ρ h a.eval) (hh : ∀ id ob, h id = some ob → α.ob id = some ob) (hd : ∀ d, o.dst = some d → d < α.n) {t : TypeId} {x z : Operand} {id sz j off n : Nat} {xs : List D} {y y' d : D}
    (ho : o.op = .store t x z) (hx : ρ x = .el id sz j off) (hob : h id = some (.row sz xs)) (hz : Exp h (fun _ => none) (ρ z) d []) (hm : d.mem = true) (hsz : SizeIs P t n) (hn : (cellsD d).length = n)
    (hy : xs[j]? = some y) (hnu : y.noU = true) (hy' : updD y off (cellsD d) = some y') :
    Goes P c o a w (α.app o.dst .junk { set := [(id, .row sz (xs.set j y'))] }) := by
  have hs := E.slots x
  rw [hx, VR] at hs
  obtain ⟨g, n', c', h1, h2⟩ := hs
  have hrow := E.objs _ _ hob
  have hdz : DR (Sof c α φ) w d (a.eval z) [] := by
    have := Exp.sound (S' := Sof c α φ) (fun _ _ h => h) E.objs (open_none (fun _ _ h => h)) hz (E.slots z)
    simpa using this
  have hzl : (a.eval z).cells.size = n := by have := DRs_length (DR_cells hdz hm); rw [← hn]; simpa using this
  rw [OR, DR] at hrow
  obtain ⟨vs, F1, F2, hF, h3, h4, h5, h6⟩ := hrow
  obtain ⟨u, F', h7, h8, h9⟩ := DRs_get h4 hy
  have hF' := h8.noU hnu
  subst hF'
  obtain ⟨v', k1, k2, k3, k4, k5⟩ := updD_sound h8 hdz hm hy'
  rcases h3 with ⟨_, e1, _⟩ | ⟨g', c'', cur, e, fr, e1, ⟨e2, e2b⟩, e3, e4, e5, e6, e7, e8⟩
  · have := (List.getElem?_eq_some_iff.1 hy).1; omega
  rw [h1] at e1
  obtain ⟨rfl, rfl, rfl⟩ : g = g' ∧ n' = xs.length ∧ c' = c'' := by simpa using e1
  have hjl : j < xs.length := (List.getElem?_eq_some_iff.1 hy).1
  have hus : u.cells.size = sz := h5 u (List.mem_of_getElem? h7)
  have hjs : j * sz + sz ≤ xs.length * sz := by
    have : (j + 1) * sz ≤ xs.length * sz := Nat.mul_le_mul_right _ hjl
    rwa [Nat.succ_mul] at this
  have hcap : xs.length * sz ≤ c' * sz := Nat.mul_le_mul_right _ e2
  have hone1 : ∀ q ∈ (a.eval z).cells.toList, q.oneCell' = true := by
    have hc := DR_cells hdz hm
    have hone : ∀ x ∈ cellsD d, x.one = true := by
      intro x hx
      cases d with
      | agg cs => rw [DR] at hdz; exact hdz.1 x hx
      | tup => simp [D.mem] at hm
      | map => simp [D.mem] at hm
      | any => simp [D.mem] at hm
      | _ => simp [cellsD] at hx; subst hx; rfl
    intro q hq
    obtain ⟨i, hi⟩ := List.mem_iff_getElem?.1 hq
    have hil : i < (cellsD d).length := by rw [← DRs_length hc]; exact (List.getElem?_eq_some_iff.1 hi).1
    obtain ⟨q', F3, g1, g2, _⟩ := DRs_get hc (List.getElem?_eq_getElem hil)
    rw [hi] at g1
    cases g1
    exact (cells_of_one (hone _ (List.getElem_mem hil)) g2).2
  have hst := run_storeCells_fr (P := P) g (j * sz + off) e fr (a.eval z).cells.toList 0 cur w e3 e4 (by simp; omega) hone1
  have hr : (execOp a.eval o).run P w = .ok .skip (w.setRow g (splice cur.toList (j * sz + off) (a.eval z).cells.toList).toArray) := by
    simp only [execOp, ho, h2, Instr.storeAt, Instr.sureAddr, storeVar, Sem.run_bind, Sem.run_pure, Result.andThen_ok, run_sizeOf w hsz, hzl]
    rw [if_neg (by simp)]
    simp only [hst, Result.andThen_ok, splice, Nat.add_zero]
  refine goes_skip hr (H.set o.dst hd id (.row sz xs) (hh _ _ hob) (.row sz (xs.set j y')) (w.setRow g (splice cur.toList (j * sz + off) (a.eval z).cells.toList).toArray) rfl rfl rfl (by simp) ?_ ?_ _ _ ?_)
  · intro b hb hmm
    rw [setRow_other]
    intro e'; subst e'; exact hmm (by rw [hF, e8]; simp)
  · intro S' hS
    have hag : Agree (Sof c α φ) F2 w (w.setRow g (splice cur.toList (j * sz + off) (a.eval z).cells.toList).toArray) := by
      refine ⟨fun b hb hx => ?_, by simp⟩
      rw [setRow_other]
      intro e'; subst e'
      rcases hx with hx | hx
      · exact hx (.inr ⟨id, _, hh _ _ hob, by rw [hF, e8]; simp⟩)
      · have := H.nodup id _ (hh _ _ hob)
        rw [hF, e8] at this
        simp at this
        exact this.1 hx
    have hd2 := DRs_set h4 hy hnu k1
    rw [OR, DR]
    refine ⟨vs.set j v', F1, F2, hF, ?_, by rw [← List.length_set (i := j) (a := y') (as := xs)] at *; exact DRs.move hag hS hd2, ?_, ?_⟩
    · refine .inr ⟨g, c', (splice cur.toList (j * sz + off) (a.eval z).cells.toList).toArray, e, fr, by rw [List.length_set]; exact h1, by rw [List.length_set]; exact ⟨e2, e2b⟩, by rw [setRow_heap w g cur _ e fr e3], ?_, ?_, ?_, ?_, e8⟩
      · have : (splice cur.toList (j * sz + off) (a.eval z).cells.toList).toArray.size = cur.size := by simp [splice]; omega
        rw [this]; exact e4
      · rw [← e5]; simp [splice]; omega
      · rw [← flat_set h5 h7 off (a.eval z).cells.toList (by simpa [hus] using k3) k2, List.length_set, ← e6]
        simp [splice]; omega
      · rw [List.length_set, ← flat_set h5 h7 off (a.eval z).cells.toList (by simpa [hus] using k3) k2, ← e7]
        have hcur : cur.toList = cur.toList.take (xs.length * sz) ++ cur.toList.drop (xs.length * sz) := (List.take_append_drop _ _).symm
        generalize hA : cur.toList.take (xs.length * sz) = A at *
        generalize hC : cur.toList.drop (xs.length * sz) = C at *
        have hAl : A.length = xs.length * sz := by rw [← hA]; simp; omega
        rw [hcur]
        have hsp := splice_mid [] A C (a.eval z).cells.toList (j * sz + off) (by rw [hAl]; simp; omega)
        simp only [List.nil_append, List.length_nil, Nat.zero_add] at hsp
        simp only []
        rw [hsp, ← hAl]
        rw [List.take_append_of_le_length (by simp [splice]; omega), List.take_of_length_le (by simp [splice]; omega)]
    · intro q hq
      rcases List.mem_or_eq_of_mem_set hq with hq | rfl
      · exact h5 q hq
      · rw [k4]; exact hus
    · intro q hq
      rcases List.mem_or_eq_of_mem_set hq with hq | rfl
      · exact h6 q hq
      · exact k5
  · intro S' _; rw [VR]; trivial

end

end Go.AM
