/-
  The abstract machine, part U: a store into an element of an own slice that hands own objects over.
-/
import Derived.Test.YtlnimdlpggnjeaaGreatDoorAmI
namespace Go.AM

section
variable {P : Program} {c : Ctx} {α : St} {a : Act} {w : World} {β : Nat → Value} {φ : Nat → List Nat} {ρ : Operand → V} {h : Nat → Option Ob} {o : Oper}

theorem Rel.setK {c α a w β φ} (h : Rel c α a w β φ) (dst : Option Nat) (hd : ∀ d, dst = some d → d < α.n) (ks : List Nat) (id : Nat) (hid : id ∉ ks) (o : Ob) (hoid : α.ob id = some o) (o' : Ob) (w' : World) (F : List Nat)
    (hos : w'.os = w.os) (htape : w'.tape = w.tape) (hout : w'.output = w.output) (hsize : w.heap.size ≤ w'.heap.size)
    (hblock : ∀ b, b < w.heap.size → b ∉ φ id → w'.heap[b]? = w.heap[b]?)
    (hF : ∀ b ∈ F, b ∈ φ id ∨ ∃ k ∈ ks, ∃ ok, α.ob k = some ok ∧ b ∈ φ k) (hn : F.Nodup)
    (ho : ∀ S', (∀ b, S' b → Sof c α φ b ∨ w.heap.size ≤ b) → OR S' w' β o' (β id) F)
    (v : V) (val : Value) (hv : ∀ S', (∀ b, S' b → Sof c α φ b ∨ w.heap.size ≤ b) → VR S' w' β v val) :
    R c (α.app dst v { kill := ks, set := [(id, o')] }) (a.put dst val) w' := by
  let φ' : Nat → List Nat := fun i => if i = id then F else φ i
  have hf1 : φ' id = F := by simp [φ']
  have hsok : StepOK c α w β φ { kill := ks, set := [(id, o')] } w' β φ' := by
    refine ⟨hos, htape, hout, hsize, ?_, ?_, fun _ _ => rfl, ?_, ?_, ?_, ?_, ?_⟩
    · intro b hb hx
      refine hblock b hb fun hm => ?_
      rcases hx with hx | ⟨j, oj, hj, _, hns, hbj⟩
      · exact hx (.inr ⟨id, o, hoid, hm⟩)
      · have hne : j ≠ id := fun e => hns o' (by simp [e])
        exact h.apart j id oj o hj hoid hne b hbj hm
    · intro b hb hx
      refine hblock b (Nat.lt_of_lt_of_le hb h.keep.size) fun hm => ?_
      rcases h.mine id o hoid b hm with h1 | h1
      · omega
      · exact hx h1
    · intro i oi hi hns
      have : i ≠ id := fun e => hns o' (by simp [e])
      simp [φ', this]
    · intro i oi hi _
      simp at hi
      obtain ⟨rfl, rfl⟩ := hi
      rw [hf1]
      refine ho _ ?_
      rintro b (hb | ⟨j, oj, hj, hb⟩)
      · exact .inl (.inl hb)
      · rcases Upd.ob_cases hj with hset | ⟨hj', _, hns⟩
        · simp at hset
          obtain ⟨rfl, rfl⟩ := hset
          rw [hf1] at hb
          rcases hF b hb with h1 | ⟨k, _, ok, hok, hm⟩
          · exact .inl (.inr ⟨j, o, hoid, h1⟩)
          · exact .inl (.inr ⟨k, ok, hok, hm⟩)
        · have : j ≠ i := fun e => hns oi (by simp [e])
          simp [φ', this] at hb
          exact .inl (.inr ⟨j, oj, hj', hb⟩)
    · intro i oi hi
      simp at hi
      obtain ⟨rfl, rfl⟩ := hi
      rw [hf1]; exact hn
    · intro i j oi oj hi hj hij
      simp at hi hj
      exact absurd (hi.1.trans hj.1.symm) hij
    · intro i oi hi b hb
      simp at hi
      obtain ⟨rfl, rfl⟩ := hi
      rw [hf1] at hb
      rcases hF b hb with h1 | ⟨k, hk, ok, hok, hm⟩
      · exact .inr ⟨i, o, hoid, h1, .inr ⟨oi, by simp⟩⟩
      · exact .inr ⟨k, ok, hok, hm, .inl hk⟩
  exact ⟨β, φ', h.step hsok dst hd v val (by
    have := hv _ (h.sof_sub hsok)
    exact this)⟩

theorem DRs_setK {S w} : ∀ {xs : List D} {vs F}, DRs S w xs vs F → ∀ {j : Nat} {y y' : D} {v' : Value} {FD : List Nat}, xs[j]? = some y → y.noU = true → DR S w y' v' FD →
    ∃ F', DRs S w (xs.set j y') (vs.set j v') F' ∧ F'.Perm (FD ++ F)
  | [], _, _, _, j, y, y', v', FD, hj, _, _ => by simp at hj
  | x :: xs, vs, F, hh, j, y, y', v', FD, hj, hn, hy' => by
    rw [DRs] at hh
    obtain ⟨v, vs', F1, F2, rfl, rfl, h1, h2⟩ := hh
    cases j with
    | zero =>
      simp at hj; subst hj
      have := h1.noU hn
      subst this
      simp only [List.set_cons_zero]
      refine ⟨FD ++ F2, ?_, by simp⟩
      rw [DRs]
      exact ⟨v', vs', FD, F2, rfl, rfl, hy', h2⟩
    | succ j =>
      simp only [List.set_cons_succ]
      obtain ⟨F', g1, g2⟩ := DRs_setK h2 (by simpa using hj) hn hy'
      refine ⟨F1 ++ F', by rw [DRs]; exact ⟨v, _, F1, F', rfl, rfl, h1, g1⟩, ?_⟩
      refine (g2.append_left F1).trans ?_
      rw [← List.append_assoc, ← List.append_assoc]
      exact List.Perm.append_right F2 List.perm_append_comm

theorem updD_soundK {S w} {y y' : D} {v u : Value} {off : Nat} {d : D} {FD : List Nat} (h1 : DR S w y v []) (hd : DR S w d u FD) (hm : d.mem = true) (hy : updD y off (cellsD d) = some y') :
    ∃ v', DR S w y' v' FD ∧ v'.cells.toList = splice v.cells.toList off u.cells.toList ∧ off + u.cells.size ≤ v.cells.size ∧ v'.cells.size = v.cells.size ∧ y'.mem = true := by
  have hc := DR_cells hd hm
  have hlen : u.cells.size = (cellsD d).length := by have := DRs_length hc; simpa using this
  have hone : ∀ x ∈ cellsD d, x.one = true := by
    intro x hx
    cases d with
    | agg cs => rw [DR] at hd; exact hd.1 x hx
    | tup => simp [D.mem] at hm
    | map => simp [D.mem] at hm
    | any => simp [D.mem] at hm
    | _ => simp [cellsD] at hx; subst hx; rfl
  cases y with
  | agg cs =>
    simp only [updD] at hy
    split at hy
    · rename_i hle
      cases hy
      rw [DR] at h1
      obtain ⟨h2, vs, rfl, h3⟩ := h1
      have hvl := DRs_length h3
      refine ⟨.agg (splice vs off u.cells.toList).toArray, ?_, rfl, by show off + u.cells.size ≤ vs.toArray.size; simp; omega, ?_, rfl⟩
      · rw [DR]
        refine ⟨?_, _, rfl, ?_⟩
        · intro x hx
          unfold splice at hx
          simp only [List.mem_append] at hx
          rcases hx with (hx | hx) | hx
          · exact h2 x (List.mem_of_mem_take hx)
          · exact hone x hx
          · exact h2 x (List.mem_of_mem_drop hx)
        · unfold splice
          rw [show u.cells.toList.length = (cellsD d).length by simpa using hlen]
          have := DRs_append (DRs_append (DRs_take h3 off) hc) (DRs_drop h3 (off + (cellsD d).length))
          simpa using this
      · show (splice vs off u.cells.toList).toArray.size = vs.toArray.size
        simp [splice]; omega
    · cases hy
  | tup => simp [updD] at hy
  | any => simp [updD] at hy
  | map => simp [updD] at hy
  | _ =>
    cases off with
    | succ n => simp [updD] at hy
    | zero =>
      obtain ⟨v1, _⟩ := cells_of_one (by rfl) h1
      generalize hg : cellsD d = l at hy
      match l, hy with
      | [x], hy =>
        simp only [updD, Option.some.injEq] at hy
        subst hy
        have hx1 : x.one = true := hone x (by rw [hg]; simp)
        rw [hg, DRs] at hc
        obtain ⟨u', vs', F1, F2, h4, hF, h5, h6⟩ := hc
        rw [DRs] at h6
        obtain ⟨rfl, rfl⟩ := h6
        rw [List.append_nil] at hF
        subst hF
        have hu1 := (cells_of_one hx1 h5).1
        have hus : u.cells.size = 1 := by rw [hlen, hg]; rfl
        refine ⟨u', h5, ?_, by rw [v1, hus]; simp, by rw [hu1, v1]; simp, by cases x <;> first | rfl | simp [D.one] at hx1⟩
        rw [h4, hu1, v1]; simp [splice]

theorem goes_storeElK (H : Rel c α a w β φ) (E : Env (Sof c α φ) w β φ ρ h a.eval) (hh : ∀ id ob, h id = some ob → α.ob id = some ob) (hd : ∀ d, o.dst = some d → d < α.n) {t : TypeId} {x z : Operand} {id sz j off n : Nat} {xs : List D} {y y' d : D} {ks : List Nat}
    (ho : o.op = .store t x z) (hx : ρ x = .el id sz j off) (hob : h id = some (.row sz xs)) (hz : Exp h (fun _ => none) (ρ z) d ks) (hk : ks.Nodup) (hid : id ∉ ks) (hm : d.mem = true) (hsz : SizeIs P t n) (hn : (cellsD d).length = n)
    (hy : xs[j]? = some y) (hnu : y.noU = true) (hy' : updD y off (cellsD d) = some y') :
    Goes P c o a w (α.app o.dst .junk { kill := ks, set := [(id, .row sz (xs.set j y'))] }) := by
  have hs := E.slots x
  rw [hx, VR] at hs
  obtain ⟨g, n', c', h1, h2⟩ := hs
  have hrow := E.objs _ _ hob
  have hks : ∀ k ∈ ks, ∃ ok, α.ob k = some ok := fun k hk' => by
    obtain ⟨ok, h1⟩ := hz.ids k hk'
    exact ⟨ok, hh _ _ h1⟩
  have hFn := flatMap_nodup H hk hks
  have hgiv : ∀ b ∈ ks.flatMap φ, ∃ k ∈ ks, ∃ ok, α.ob k = some ok ∧ b ∈ φ k := by
    intro b hb
    obtain ⟨k, hk1, hm⟩ := List.mem_flatMap.1 hb
    obtain ⟨ok, hok⟩ := hks k hk1
    exact ⟨k, hk1, ok, hok, hm⟩
  have hap : ∀ b ∈ ks.flatMap φ, b ∉ φ id := by
    intro b hb hb'
    obtain ⟨k, hk1, ok, hok, hm⟩ := hgiv b hb
    exact H.apart k id ok _ hok (hh _ _ hob) (fun e => hid (e ▸ hk1)) b hm hb'
  have hdz : DR (Sof c α φ) w d (a.eval z) (ks.flatMap φ) := Exp.sound (S' := Sof c α φ) (fun _ _ h => h) E.objs (open_none (fun _ _ h => h)) hz (E.slots z)
  generalize hFD : ks.flatMap φ = FD at *
  have hzl : (a.eval z).cells.size = n := by have := DRs_length (DR_cells hdz hm); rw [← hn]; simpa using this
  rw [OR, DR] at hrow
  obtain ⟨vs, F1, F2, hF, h3, h4, h5, h6⟩ := hrow
  obtain ⟨u, F', h7, h8, h9⟩ := DRs_get h4 hy
  have hF' := h8.noU hnu
  subst hF'
  obtain ⟨v', k1, k2, k3, k4, k5⟩ := updD_soundK h8 hdz hm hy'
  rcases h3 with ⟨_, e1, _⟩ | ⟨g', c'', cur, e, fr, e1, ⟨e2, e2b⟩, e3, e4, e5, e6, e7, e8⟩
  · have := (List.getElem?_eq_some_iff.1 hy).1; omega
  rw [h1] at e1
  obtain ⟨rfl, rfl, rfl⟩ : g = g' ∧ n' = xs.length ∧ c' = c'' := by simpa using e1
  have hjl : j < xs.length := (List.getElem?_eq_some_iff.1 hy).1
  have hus : u.cells.size = sz := h5 u (List.mem_of_getElem? h7)
  have hjs : j * sz + sz ≤ xs.length * sz := by
    have : (j + 1) * sz ≤ xs.length * sz := Nat.mul_le_mul_right _ hjl
    rwa [Nat.succ_mul] at this
  have hcap : xs.length * sz ≤ c' * sz := Nat.mul_le_mul_right _ e2
  have hone1 : ∀ q ∈ (a.eval z).cells.toList, q.oneCell' = true := by
    have hc := DR_cells hdz hm
    have hone : ∀ x ∈ cellsD d, x.one = true := by
      intro x hx
      cases d with
      | agg cs => rw [DR] at hdz; exact hdz.1 x hx
      | tup => simp [D.mem] at hm
      | map => simp [D.mem] at hm
      | any => simp [D.mem] at hm
      | _ => simp [cellsD] at hx; subst hx; rfl
    intro q hq
    obtain ⟨i, hi⟩ := List.mem_iff_getElem?.1 hq
    have hil : i < (cellsD d).length := by rw [← DRs_length hc]; exact (List.getElem?_eq_some_iff.1 hi).1
    obtain ⟨q', F3, g1, g2, _⟩ := DRs_get hc (List.getElem?_eq_getElem hil)
    rw [hi] at g1
    cases g1
    exact (cells_of_one (hone _ (List.getElem_mem hil)) g2).2
  have hst := run_storeCells_fr (P := P) g (j * sz + off) e fr (a.eval z).cells.toList 0 cur w e3 e4 (by simp; omega) hone1
  have hr : (execOp a.eval o).run P w = .ok .skip (w.setRow g (splice cur.toList (j * sz + off) (a.eval z).cells.toList).toArray) := by
    simp only [execOp, ho, h2, Instr.storeAt, Instr.sureAddr, storeVar, Sem.run_bind, Sem.run_pure, Result.andThen_ok, run_sizeOf w hsz, hzl]
    rw [if_neg (by simp)]
    simp only [hst, Result.andThen_ok, splice, Nat.add_zero]
  obtain ⟨FN, hd2, hperm⟩ := DRs_setK h4 hy hnu k1
  have hgφ : g ∈ φ id := by rw [hF, e8]; simp
  have hgFD : g ∉ FD := fun hm => hap g hm hgφ
  have hnid := H.nodup id _ (hh _ _ hob)
  rw [hF, e8] at hnid
  have hgF2 : g ∉ F2 := by simp at hnid; exact hnid.1
  have hgFN : g ∉ FN := fun hm => by
    rcases List.mem_append.1 (hperm.mem_iff.1 hm) with hm | hm
    · exact hgFD hm
    · exact hgF2 hm
  have hFNm : ∀ b ∈ F1 ++ FN, b ∈ φ id ∨ b ∈ FD := by
    intro b hb
    rcases List.mem_append.1 hb with hb | hb
    · exact .inl (by rw [hF]; exact List.mem_append_left _ hb)
    · rcases List.mem_append.1 (hperm.mem_iff.1 hb) with hb | hb
      · exact .inr hb
      · exact .inl (by rw [hF]; exact List.mem_append_right _ hb)
  have hFNn : (F1 ++ FN).Nodup := by
    have hp : (F1 ++ FN).Perm (FD ++ (F1 ++ F2)) := by
      refine (hperm.append_left F1).trans ?_
      rw [← List.append_assoc, ← List.append_assoc]
      exact List.Perm.append_right F2 List.perm_append_comm
    rw [hp.nodup_iff, List.nodup_append]
    refine ⟨hFn, by rw [← hF]; exact H.nodup id _ (hh _ _ hob), ?_⟩
    intro b hb b' hb' e'
    subst e'
    exact hap b hb (by rw [hF]; exact hb')
  refine goes_skip hr (H.setK o.dst hd ks id hid (.row sz xs) (hh _ _ hob) (.row sz (xs.set j y')) (w.setRow g (splice cur.toList (j * sz + off) (a.eval z).cells.toList).toArray) (F1 ++ FN) rfl rfl rfl (by simp) ?_ ?_ hFNn ?_ _ _ ?_)
  · intro b hb hmm
    rw [setRow_other]
    intro e'; subst e'; exact hmm hgφ
  · intro b hb
    rcases hFNm b hb with h1 | h1
    · exact .inl h1
    · exact .inr (hgiv b h1)
  · intro S' hS
    have hag : Agree (Sof c α φ) FN w (w.setRow g (splice cur.toList (j * sz + off) (a.eval z).cells.toList).toArray) := by
      refine ⟨fun b hb hx => ?_, by simp⟩
      rw [setRow_other]
      intro e'; subst e'
      rcases hx with hx | hx
      · exact hx (.inr ⟨id, _, hh _ _ hob, hgφ⟩)
      · exact hgFN hx
    rw [OR, DR]
    refine ⟨vs.set j v', F1, FN, rfl, ?_, DRs.move hag hS hd2, ?_, ?_⟩
    · refine .inr ⟨g, c', (splice cur.toList (j * sz + off) (a.eval z).cells.toList).toArray, e, fr, by rw [List.length_set]; exact h1, by rw [List.length_set]; exact ⟨e2, e2b⟩, by rw [setRow_heap w g cur _ e fr e3], ?_, ?_, ?_, ?_, e8⟩
      · have : (splice cur.toList (j * sz + off) (a.eval z).cells.toList).toArray.size = cur.size := by simp [splice]; omega
        rw [this]; exact e4
      · rw [← e5]; simp [splice]; omega
      · rw [← flat_set h5 h7 off (a.eval z).cells.toList (by simpa [hus] using k3) k2, List.length_set, ← e6]
        simp [splice]; omega
      · rw [List.length_set, ← flat_set h5 h7 off (a.eval z).cells.toList (by simpa [hus] using k3) k2, ← e7]
        have hcur : cur.toList = cur.toList.take (xs.length * sz) ++ cur.toList.drop (xs.length * sz) := (List.take_append_drop _ _).symm
        generalize hA : cur.toList.take (xs.length * sz) = A at *
        generalize hC : cur.toList.drop (xs.length * sz) = C at *
        have hAl : A.length = xs.length * sz := by rw [← hA]; simp; omega
        rw [hcur]
        have hsp := splice_mid [] A C (a.eval z).cells.toList (j * sz + off) (by rw [hAl]; simp; omega)
        simp only [List.nil_append, List.length_nil, Nat.zero_add] at hsp
        simp only []
        rw [hsp, ← hAl]
        rw [List.take_append_of_le_length (by simp [splice]; omega), List.take_of_length_le (by simp [splice]; omega)]
    · intro q hq
      rcases List.mem_or_eq_of_mem_set hq with hq | rfl
      · exact h5 q hq
      · rw [k4]; exact hus
    · intro q hq
      rcases List.mem_or_eq_of_mem_set hq with hq | rfl
      · exact h6 q hq
      · exact k5
  · intro S' _; rw [VR]; trivial

theorem goes_appendT0 (H : Rel c α a w β φ) (E : Env (Sof c α φ) w β φ ρ h a.eval) (hh : ∀ id ob, h id = some ob → α.ob id = some ob) (hd : ∀ d, o.dst = some d → d < α.n) {s x : Operand} {t e : TypeId} {n sz bytes : Nat} {ys : List D} {k2 : List Nat}
    (ho : o.op = .call { callee := .builtin .append, args := #[s, x], argTypes := #[t, t] }) (hty : SlotTy P t e sz bytes) (hb0 : 0 < bytes) (hs : ρ s = .tight sz []) (hx : Src h (ρ x) sz ys k2)
    (_hk : k2.Nodup) (hbytes : (0 + ys.length) * bytes ≤ 140737488355328) (hn : n ∉ α.ids) :
    Goes P c o a w (α.app o.dst (.row n) { kill := k2, set := [(n, .row sz ys)], new := [n] }) := by
  by_cases hne : ys = []
  · subst hne
    obtain ⟨i, z, ht, hi, hz, rfl, rfl, hzs, hsz⟩ := hty
    obtain ⟨ad, cap, us, F', h1, h2, h3, h4, h5, h6, h7⟩ := hx.sound H E hh
    have hv := E.slots s
    rw [hs, VR] at hv
    obtain ⟨⟨a0, hv⟩, _⟩ := hv
    rw [List.length_nil] at hv h1
    have hf : (Builtin.firstCells i.size 0 (.slice ad 0 cap)).run P w = .ok #[] w := by
      cases ad <;> simp [Builtin.firstCells, loadCells, loadCellsFrom]
    have hrun : (Builtin.append_ #[t, t] o.type #[.slice a0 0 0, .slice ad 0 cap]).run P w = .ok (.slice a0 0 0) w := by
      cases a0 <;> simp [Builtin.append_, run_underlying ht, sizeOf, typeInfo, hi, Builtin.lenOf, hf, storeCells]
    have hr : (execOp a.eval o).run P w = .ok (.value (.slice a0 0 0)) w := by
      simp only [execOp, ho, resolve, invoke, builtin, Sem.run_bind, Sem.run_pure, Result.andThen_ok, List.map_toArray, List.map_cons, List.map_nil, h1, hv, hrun]
    refine goes_value hr (H.turn o.dst hd k2 n hn (.row i.size []) w (.slice a0 0 0) [] rfl rfl rfl (Nat.le_refl _) (fun b _ _ => rfl) (by simp) (by simp) ?_ _ _ ?_)
    · intro S' hS β' _
      rw [OR, DR]
      exact ⟨[], [], [], rfl, .inl ⟨⟨a0, rfl⟩, rfl, rfl, rfl⟩, by rw [DRs]; exact ⟨rfl, rfl⟩, by simp, by simp⟩
    · intro S' hS β' hβ hβn
      rw [VR]
      exact ⟨hβn.symm, _, _, _, rfl⟩
  · have := goes_appendT (n := n) H E hh hd ho hty hb0 hs hx hne (by simpa using hbytes) hn
    simpa using this

end

end Go.AM
