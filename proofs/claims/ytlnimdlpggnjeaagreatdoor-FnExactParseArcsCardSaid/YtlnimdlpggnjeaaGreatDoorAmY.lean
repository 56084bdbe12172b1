/-
  The abstract machine, part Y: an own slice that lies in a field of an own row's struct is taken out of it, and is put back.
-/
import Derived.Test.YtlnimdlpggnjeaaGreatDoorAmX
namespace Go.AM

theorem DRs_rep {S w} : ∀ {xs : List D} {vs F}, DRs S w xs vs F → ∀ {j : Nat} {y : D}, xs[j]? = some y →
    ∃ v Fj, DR S w y v Fj ∧ vs[j]? = some v ∧ ∀ y' Fj', DR S w y' v Fj' → ∃ F', DRs S w (xs.set j y') vs F' ∧ ∀ G, ((G ++ Fj').Perm Fj → (G ++ F').Perm F) ∧ (Fj'.Perm (G ++ Fj) → F'.Perm (G ++ F))
  | [], _, _, h, j, y, hj => by simp at hj
  | x :: xs, vs, F, h, j, y, hj => by
    rw [DRs] at h
    obtain ⟨v, vs', F1, F2, rfl, rfl, h1, h2⟩ := h
    cases j with
    | zero =>
      simp at hj; subst hj
      refine ⟨v, F1, h1, rfl, fun y' Fj' hy' => ⟨Fj' ++ F2, ?_, fun G => ⟨fun hp => ?_, fun hp => ?_⟩⟩⟩
      · rw [List.set_cons_zero, DRs]
        exact ⟨v, vs', Fj', F2, rfl, rfl, hy', h2⟩
      · rw [← List.append_assoc]; exact hp.append_right F2
      · rw [← List.append_assoc]; exact hp.append_right F2
    | succ j =>
      obtain ⟨u, Fj, g1, g2, g3⟩ := DRs_rep h2 (j := j) (y := y) (by simpa using hj)
      refine ⟨u, Fj, g1, by simpa using g2, fun y' Fj' hy' => ?_⟩
      obtain ⟨F', g4, g5⟩ := g3 y' Fj' hy'
      refine ⟨F1 ++ F', ?_, fun G => ⟨fun hp => ?_, fun hp => ?_⟩⟩
      · rw [List.set_cons_succ, DRs]
        exact ⟨v, vs', F1, F', rfl, rfl, h1, g4⟩
      · refine List.Perm.trans ?_ (((g5 G).1 hp).append_left F1)
        rw [← List.append_assoc, ← List.append_assoc]
        exact List.perm_append_comm.append_right F'
      · refine List.Perm.trans (((g5 G).2 hp).append_left F1) ?_
        rw [← List.append_assoc, ← List.append_assoc]
        exact List.perm_append_comm.append_right F2

theorem field_take {S w} {cs : List D} {v : Value} {F : List Nat} (h : DR S w (.agg cs) v F) {f : Nat} {sz' : Nat} {ys : List D} (hf : cs[f]? = some (.slice true sz' ys)) :
    ∃ u Fs F', DR S w (.slice true sz' ys) u Fs ∧ DR S w (.agg (cs.set f (.hole u))) v F' ∧ (Fs ++ F').Perm F := by
  rw [DR] at h
  obtain ⟨h1, vs, rfl, h2⟩ := h
  obtain ⟨u, Fj, g1, g2, g3⟩ := DRs_take1 h2 hf
  obtain ⟨hone, _⟩ := own_one g1
  obtain ⟨F', g4, g5⟩ := g3 hone
  refine ⟨u, Fj, F', g1, ?_, g5⟩
  rw [DR]
  refine ⟨fun c hc => ?_, vs, rfl, g4⟩
  rcases List.mem_or_eq_of_mem_set hc with hc | rfl
  · exact h1 c hc
  · rfl
theorem field_give {S w} {cs : List D} {v u : Value} {F Fs : List Nat} (h : DR S w (.agg cs) v F) {f : Nat} {sz' : Nat} {ys : List D} (hf : cs[f]? = some (.hole u)) (hu : DR S w (.slice true sz' ys) u Fs) :
    ∃ F', DR S w (.agg (cs.set f (.slice true sz' ys))) v F' ∧ F'.Perm (Fs ++ F) := by
  rw [DR] at h
  obtain ⟨h1, vs, rfl, h2⟩ := h
  obtain ⟨F', g4, g5⟩ := DRs_give1 h2 hf hu
  refine ⟨F', ?_, g5⟩
  rw [DR]
  refine ⟨fun c hc => ?_, vs, rfl, g4⟩
  rcases List.mem_or_eq_of_mem_set hc with hc | rfl
  · exact h1 c hc
  · rfl

def St.takenF (α : St) (id sz n m : Nat) (xs' : List D) (sz' : Nat) (ys : List D) (u : Value) : St :=
  { α with hp := (id, some (.row sz xs')) :: (n, some (.row sz' ys)) :: (m, some (.head n u)) :: α.hp }

theorem take_core {c : Ctx} {α : St} {a : Act} {w : World} (id n m : Nat) {sz sz' : Nat} {xs ys : List D} (ho : α.ob id = some (.row sz xs)) (hn : n ∉ α.ids) (hm : m ∉ α.ids) (hnm : n ≠ m) {X : Value → List D}
    (hX : ∀ S vs F, DRs S w xs vs F → ∃ v Fj F', DR S w (.slice true sz' ys) v Fj ∧ DRs S w (X v) vs F' ∧ (Fj ++ F').Perm F) (hlen : ∀ v, (X v).length = xs.length) (hmem : (∀ x ∈ xs, x.mem = true) → ∀ v, ∀ x ∈ X v, x.mem = true)
    (hR : R c α a w) : ∃ u, R c (α.takenF id sz n m (X u) sz' ys u) a w := by
  obtain ⟨β, φ, H⟩ := hR
  have hid := (α.ob_ids ho).1
  have hrow := H.objs id _ ho
  rw [OR, DR] at hrow
  obtain ⟨vs, F1, F2, hF, h1, h2, h3, h4⟩ := hrow
  obtain ⟨v, Fj, F', g1, g4, g5⟩ := hX _ _ _ h2
  have hne1 : id ≠ n := fun e => hn (e ▸ hid)
  have hne2 : id ≠ m := fun e => hm (e ▸ hid)
  let β' : Nat → Value := fun i => if i = n then v else β i
  let φ' : Nat → List Nat := fun i => if i = id then F1 ++ F' else if i = n then Fj else if i = m then [] else φ i
  have b1 : β' n = v := by simp [β']
  have b2 : ∀ i ∈ α.ids, β' i = β i := fun i hi => by
    have : i ≠ n := fun e => hn (e ▸ hi)
    simp [β', this]
  have p1 : φ' id = F1 ++ F' := by simp [φ']
  have p2 : φ' n = Fj := by simp [φ', Ne.symm hne1]
  have p3 : φ' m = [] := by simp [φ', Ne.symm hne2, Ne.symm hnm]
  have hnd := H.nodup id _ ho
  rw [hF] at hnd
  have hperm : (Fj ++ (F1 ++ F')).Perm (F1 ++ F2) := by
    refine List.Perm.trans ?_ (g5.append_left F1)
    rw [← List.append_assoc, ← List.append_assoc]
    exact List.perm_append_comm.append_right F'
  have hnd2 : (Fj ++ (F1 ++ F')).Nodup := hperm.nodup_iff.2 hnd
  have hm1 : ∀ b ∈ Fj, b ∈ φ id := fun b hb => by rw [hF]; exact hperm.subset (List.mem_append_left _ hb)
  have hm2 : ∀ b ∈ F1 ++ F', b ∈ φ id := fun b hb => by rw [hF]; exact hperm.subset (List.mem_append_right _ hb)
  let U : Upd := { set := [(id, .row sz (X v)), (n, .row sz' ys), (m, .head n v)], new := [n, m] }
  have hless : ∀ b, Sof c (α.upd U) φ' b → Sof c α φ b := by
    rintro b (hb | ⟨i, o, hi, hb⟩)
    · exact .inl hb
    · rcases Upd.ob_cases hi with hset | ⟨hi', _, hns⟩
      · simp [U] at hset
        rcases hset with ⟨rfl, rfl⟩ | ⟨rfl, rfl⟩ | ⟨rfl, rfl⟩
        · rw [p1] at hb; exact .inr ⟨i, _, ho, hm2 b hb⟩
        · rw [p2] at hb; exact .inr ⟨id, _, ho, hm1 b hb⟩
        · rw [p3] at hb; simp at hb
      · have e1 : i ≠ id := fun e => hns (.row sz (X v)) (by simp [U, e])
        have e2 : i ≠ n := fun e => hns (.row sz' ys) (by simp [U, e])
        have e3 : i ≠ m := fun e => hns (.head n v) (by simp [U, e])
        simp [φ', e1, e2, e3] at hb
        exact .inr ⟨i, o, hi', hb⟩
  have hl : Less w (Sof c α φ) (Sof c (α.upd U) φ') := fun b _ hb => hless b hb
  have hok : StepOK c α w β φ U w β' φ' := by
    refine ⟨rfl, rfl, rfl, Nat.le_refl _, fun _ _ _ => rfl, fun _ _ _ => rfl, b2, ?_, ?_, ?_, ?_, ?_⟩
    · intro i o _ hns
      have e1 : i ≠ id := fun e => hns (.row sz (X v)) (by simp [U, e])
      have e2 : i ≠ n := fun e => hns (.row sz' ys) (by simp [U, e])
      have e3 : i ≠ m := fun e => hns (.head n v) (by simp [U, e])
      simp [φ', e1, e2, e3]
    · intro i o hi _
      simp [U] at hi
      rcases hi with ⟨rfl, rfl⟩ | ⟨rfl, rfl⟩ | ⟨rfl, rfl⟩
      · rw [p1, b2 i hid, OR, DR]
        exact ⟨vs, F1, F', rfl, by rw [hlen]; exact h1, DRs.less hl g4, h3, hmem h4 v⟩
      · rw [p2, b1, OR]; exact DR.less hl g1
      · rw [p3]; exact ⟨b1, rfl⟩
    · intro i o hi
      simp [U] at hi
      rcases hi with ⟨rfl, rfl⟩ | ⟨rfl, rfl⟩ | ⟨rfl, rfl⟩
      · rw [p1]; exact (List.nodup_append.1 hnd2).2.1
      · rw [p2]; exact (List.nodup_append.1 hnd2).1
      · rw [p3]; exact List.nodup_nil
    · have hdis : ∀ b ∈ Fj, b ∉ F1 ++ F' := fun b hb hb2 => (List.nodup_append.1 hnd2).2.2 b hb b hb2 rfl
      intro i k oi ok hi hk hik b hb hb2
      simp [U] at hi hk
      rcases hi with ⟨rfl, rfl⟩ | ⟨rfl, rfl⟩ | ⟨rfl, rfl⟩ <;> rcases hk with ⟨rfl, rfl⟩ | ⟨rfl, rfl⟩ | ⟨rfl, rfl⟩
      · exact hik rfl
      · rw [p1] at hb; rw [p2] at hb2; exact hdis b hb2 hb
      · rw [p3] at hb2; simp at hb2
      · rw [p2] at hb; rw [p1] at hb2; exact hdis b hb hb2
      · exact hik rfl
      · rw [p3] at hb2; simp at hb2
      · rw [p3] at hb; simp at hb
      · rw [p3] at hb; simp at hb
      · exact hik rfl
    · intro i o hi b hb
      simp [U] at hi
      rcases hi with ⟨rfl, rfl⟩ | ⟨rfl, rfl⟩ | ⟨rfl, rfl⟩
      · rw [p1] at hb; exact .inr ⟨i, _, ho, hm2 b hb, .inr ⟨.row sz (X v), by simp [U]⟩⟩
      · rw [p2] at hb; exact .inr ⟨id, _, ho, hm1 b hb, .inr ⟨.row sz (X v), by simp [U]⟩⟩
      · rw [p3] at hb; simp at hb
  have := H.step hok none (by simp) .junk undef (by rw [VR]; trivial)
  exact ⟨v, β', φ', this⟩

theorem T_takeF {P : Program} {c : Ctx} {x : Code} {Q : Exit → St → Prop} {α : St} (id j f n m : Nat) {sz sz' : Nat} {xs ys cs : List D} (ho : α.ob id = some (.row sz xs)) (hj : xs[j]? = some (.agg cs)) (hc : cs[f]? = some (.slice true sz' ys)) (hf : freshB [n, m] α = true) (hnm : Nat.beq n m = false)
    (h : ∀ u, T P c x Q (α.takenF id sz n m (xs.set j (.agg (cs.set f (.hole u)))) sz' ys u)) : T P c x Q α := by
  intro a w hR
  have hfr := freshB_spec hf
  obtain ⟨u, hR'⟩ := take_core (X := fun u => xs.set j (.agg (cs.set f (.hole u)))) id n m ho (hfr n (by simp)) (hfr m (by simp)) (fun e => by rw [e] at hnm; simp at hnm) (fun S vs F hd => by
    obtain ⟨v, Fj, g1, g2, g3⟩ := DRs_rep hd hj
    obtain ⟨u, Fs, F', k1, k2, k3⟩ := field_take g1 hc
    obtain ⟨F2, k4, k5⟩ := g3 _ _ k2
    exact ⟨u, Fs, F2, k1, k4, (k5 Fs).1 k3⟩) (fun v => List.length_set) (fun hm v x hx => by
    rcases List.mem_or_eq_of_mem_set hx with hx | rfl
    · exact hm x hx
    · rfl) hR
  exact h u a w hR'

theorem Wk.giveF {c : Ctx} {α : St} (id j f n m : Nat) {u : Value} {sz sz' : Nat} {xs ys xs' cs : List D} (ho : α.ob id = some (.row sz xs)) (hj : xs[j]? = some (.agg cs)) (hc : cs[f]? = some (.hole u)) (hn : α.ob n = some (.row sz' ys)) (hm : α.ob m = some (.head n u)) (hne : Nat.beq id n = false)
    (he : xs.set j (.agg (cs.set f (.slice true sz' ys))) = xs') : Wk c α { α with hp := (id, some (.row sz xs')) :: (n, none) :: (m, none) :: α.hp } := by
  subst he
  rintro a w ⟨β, φ, H⟩
  have hne' : id ≠ n := fun e => by rw [e] at hne; simp at hne
  have hidm : id ≠ m := fun e => by rw [e, hm] at ho; cases ho
  have hnm : n ≠ m := fun e => by rw [e, hm] at hn; cases hn
  have hhead := H.objs m _ hm
  have hrow := H.objs id _ ho
  have hown := H.objs n _ hn
  rw [OR] at hown
  rw [hhead.1] at hown
  rw [OR, DR] at hrow
  obtain ⟨vs, F1, F2, hF, h1, h2, h3, h4⟩ := hrow
  obtain ⟨v, Fj, q1, q2, q3⟩ := DRs_rep h2 hj
  obtain ⟨Fk, q4, q5⟩ := field_give q1 hc hown
  obtain ⟨F', g4, g5'⟩ := q3 _ _ q4
  have g5 := (g5' _).2 q5
  let φ' : Nat → List Nat := fun i => if i = id then F1 ++ F' else φ i
  have p1 : φ' id = F1 ++ F' := by simp [φ']
  have hperm : (F1 ++ F').Perm (φ n ++ φ id) := by
    rw [hF]
    refine List.Perm.trans (g5.append_left F1) ?_
    rw [← List.append_assoc, ← List.append_assoc]
    exact List.perm_append_comm.append_right F2
  have hmem : ∀ b ∈ F1 ++ F', b ∈ φ n ∨ b ∈ φ id := fun b hb => List.mem_append.1 (hperm.subset hb)
  let U : Upd := { set := [(id, .row sz (xs.set j (.agg (cs.set f (.slice true sz' ys)))))], kill := [n, m] }
  have hless : ∀ b, Sof c (α.upd U) φ' b → Sof c α φ b := by
    rintro b (hb | ⟨i, o, hi, hb⟩)
    · exact .inl hb
    · rcases Upd.ob_cases hi with hset | ⟨hi', _, hns⟩
      · simp [U] at hset
        obtain ⟨rfl, rfl⟩ := hset
        rw [p1] at hb
        rcases hmem b hb with hb | hb
        · exact .inr ⟨n, _, hn, hb⟩
        · exact .inr ⟨i, _, ho, hb⟩
      · have e1 : i ≠ id := fun e => hns (.row sz (xs.set j (.agg (cs.set f (.slice true sz' ys))))) (by simp [U, e])
        simp [φ', e1] at hb
        exact .inr ⟨i, o, hi', hb⟩
  have hl : Less w (Sof c α φ) (Sof c (α.upd U) φ') := fun b _ hb => hless b hb
  have hok : StepOK c α w β φ U w β φ' := by
    refine ⟨rfl, rfl, rfl, Nat.le_refl _, fun _ _ _ => rfl, fun _ _ _ => rfl, fun _ _ => rfl, ?_, ?_, ?_, ?_, ?_⟩
    · intro i o _ hns
      have e1 : i ≠ id := fun e => hns (.row sz (xs.set j (.agg (cs.set f (.slice true sz' ys))))) (by simp [U, e])
      simp [φ', e1]
    · intro i o hi _
      simp [U] at hi
      obtain ⟨rfl, rfl⟩ := hi
      rw [p1, OR, DR]
      refine ⟨vs, F1, F', rfl, by rw [List.length_set]; exact h1, DRs.less hl g4, h3, ?_⟩
      intro x hx
      rcases List.mem_or_eq_of_mem_set hx with hx | rfl
      · exact h4 x hx
      · rfl
    · intro i o hi
      simp [U] at hi
      obtain ⟨rfl, rfl⟩ := hi
      rw [p1]
      refine hperm.nodup_iff.2 (List.nodup_append.2 ⟨H.nodup n _ hn, H.nodup i _ ho, ?_⟩)
      rintro b hb b2 hb2 rfl
      exact H.apart n i _ _ hn ho (Ne.symm hne') b hb hb2
    · intro i k oi ok hi hk hik
      simp [U] at hi hk
      exact absurd (hi.1.trans hk.1.symm) hik
    · intro i o hi b hb
      simp [U] at hi
      obtain ⟨rfl, rfl⟩ := hi
      rw [p1] at hb
      rcases hmem b hb with hb | hb
      · exact .inr ⟨n, _, hn, hb, .inl (by simp [U])⟩
      · exact .inr ⟨i, _, ho, hb, .inr ⟨_, by simp [U]; rfl⟩⟩
  have := H.step hok none (by simp) .junk undef (by rw [VR]; trivial)
  exact ⟨β, φ', this⟩

theorem VRs_set {S w β} : ∀ {cs : List V} {vs : List Value}, VRs S w β cs vs → ∀ {j : Nat} {x x' : V}, cs[j]? = some x → (∀ v, VR S w β x v → VR S w β x' v) → VRs S w β (cs.set j x') vs
  | [], _, _, j, x, x', hj, _ => by simp at hj
  | y :: cs, vs, h, j, x, x', hj, hx => by
    rw [VRs] at h
    obtain ⟨v, vs', rfl, h1, h2⟩ := h
    cases j with
    | zero =>
      simp at hj; subst hj
      rw [List.set_cons_zero, VRs]
      exact ⟨v, vs', rfl, hx v h1, h2⟩
    | succ j =>
      rw [List.set_cons_succ, VRs]
      exact ⟨v, vs', rfl, h1, VRs_set h2 (by simpa using hj) hx⟩

theorem Wk.nilcell {c : Ctx} {α : St} (i j id sz : Nat) {cs : List V} (ho : α.ob i = some (.box cs)) (hj : cs[j]? = some (.c (.slice none 0 0))) (hid : freshB [id] α = true) :
    Wk c α { α with hp := (i, some (.box (cs.set j (.row id)))) :: (id, some (.row sz [])) :: α.hp } := by
  rintro a w ⟨β, φ, H⟩
  have hi := (α.ob_ids ho).1
  have hfr := freshB_spec hid id (by simp)
  have hne : i ≠ id := fun e => hfr (e ▸ hi)
  have hbox := H.objs i _ ho
  let β' : Nat → Value := fun k => if k = id then .slice none 0 0 else β k
  let φ' : Nat → List Nat := fun k => if k = id then [] else φ k
  have b1 : β' id = .slice none 0 0 := by simp [β']
  have b2 : ∀ k ∈ α.ids, β' k = β k := fun k hk => by
    have : k ≠ id := fun e => hfr (e ▸ hk)
    simp [β', this]
  have p1 : φ' i = φ i := by simp [φ', hne]
  have p2 : φ' id = [] := by simp [φ']
  let U : Upd := { set := [(i, .box (cs.set j (.row id))), (id, .row sz [])], new := [id] }
  have hless : ∀ b, Sof c (α.upd U) φ' b → Sof c α φ b := by
    rintro b (hb | ⟨k, o, hk, hb⟩)
    · exact .inl hb
    · rcases Upd.ob_cases hk with hset | ⟨hk', _, hns⟩
      · simp [U] at hset
        rcases hset with ⟨rfl, rfl⟩ | ⟨rfl, rfl⟩
        · rw [p1] at hb; exact .inr ⟨k, _, ho, hb⟩
        · rw [p2] at hb; simp at hb
      · have e2 : k ≠ id := fun e => hns (.row sz []) (by simp [U, e])
        simp [φ', e2] at hb
        exact .inr ⟨k, o, hk', hb⟩
  have hok : StepOK c α w β φ U w β' φ' := by
    refine ⟨rfl, rfl, rfl, Nat.le_refl _, fun _ _ _ => rfl, fun _ _ _ => rfl, b2, ?_, ?_, ?_, ?_, ?_⟩
    · intro k o _ hns
      have e2 : k ≠ id := fun e => hns (.row sz []) (by simp [U, e])
      simp [φ', e2]
    · intro k o hk _
      simp [U] at hk
      rcases hk with ⟨rfl, rfl⟩ | ⟨rfl, rfl⟩
      · obtain ⟨g, e, ys, h1, h2, h3, h4⟩ := hbox
        rw [p1, b2 k hi]
        have h5 : VRs (Sof c (α.upd U) φ') w β' cs ys := VRs.move (⟨fun _ _ _ => rfl, Nat.le_refl _⟩ : Agree (Sof c α φ) [] w w) (fun b hb => .inl (hless b hb)) (fun q hq => b2 q ((α.ob_ids ho).2 q hq)) h3
        exact ⟨g, e, ys, h1, h2, VRs_set h5 hj (fun v hv => by
          simp only [VR] at hv
          subst hv
          simp only [VR]
          exact ⟨b1.symm, none, 0, 0, rfl⟩), h4⟩
      · rw [p2, b1, OR]; exact nil_reads true sz
    · intro k o hk
      simp [U] at hk
      rcases hk with ⟨rfl, rfl⟩ | ⟨rfl, rfl⟩
      · rw [p1]; exact H.nodup k _ ho
      · rw [p2]; exact List.nodup_nil
    · intro k q ok oq hk hq hkq b hb hb2
      simp [U] at hk hq
      rcases hk with ⟨rfl, rfl⟩ | ⟨rfl, rfl⟩ <;> rcases hq with ⟨rfl, rfl⟩ | ⟨rfl, rfl⟩
      · exact hkq rfl
      · rw [p2] at hb2; simp at hb2
      · rw [p2] at hb; simp at hb
      · exact hkq rfl
    · intro k o hk b hb
      simp [U] at hk
      rcases hk with ⟨rfl, rfl⟩ | ⟨rfl, rfl⟩
      · rw [p1] at hb; exact .inr ⟨k, _, ho, hb, .inr ⟨.box (cs.set j (.row id)), by simp [U]⟩⟩
      · rw [p2] at hb; simp at hb
  have := H.step hok none (by simp) .junk undef (by rw [VR]; trivial)
  exact ⟨β', φ', this⟩

theorem intV_addA {a b : Int} (h1 : -9223372036854775808 ≤ a + b := by first | omega | (simp only [List.length_map, List.length_append, List.length_take, List.length_drop, List.length_cons, List.length_nil]; omega) | (simp; omega) | (simp; done)) (h2 : a + b ≤ 9223372036854775807 := by first | omega | (simp only [List.length_map, List.length_append, List.length_take, List.length_drop, List.length_cons, List.length_nil]; omega) | (simp; omega) | (simp; done)) : intV .add .i64 a b = some (.int .i64 (a + b)) := intV_add h1 h2
theorem intV_subA {a b : Int} (h1 : -9223372036854775808 ≤ a - b := by first | omega | (simp only [List.length_map, List.length_append, List.length_take, List.length_drop, List.length_cons, List.length_nil]; omega) | (simp; omega) | (simp; done)) (h2 : a - b ≤ 9223372036854775807 := by first | omega | (simp only [List.length_map, List.length_append, List.length_take, List.length_drop, List.length_cons, List.length_nil]; omega) | (simp; omega) | (simp; done)) : intV .sub .i64 a b = some (.int .i64 (a - b)) := intV_sub h1 h2
theorem get_mapA {τ : Type} [Inhabited τ] {f : τ → D} {l : List τ} {j : Nat} (h : j < l.length := by first | omega | (simp only [List.length_map, List.length_append, List.length_take, List.length_drop, List.length_cons, List.length_nil]; omega) | (simp; omega) | (simp; done)) : (l.map f)[j]? = some (f (l.getD j default)) := get_map f h
theorem get_strA {s : List UInt8} {j : Nat} (h : j < s.length := by first | omega | (simp only [List.length_map, List.length_append, List.length_take, List.length_drop, List.length_cons, List.length_nil]; omega) | (simp; omega) | (simp; done)) : s[j]? = some (s.getD j 0) := get_str h
theorem Ch.s {P : Program} {all : Array Oper} {K : St → Prop} {o : Oper} {rest : List Oper} {α : St} (v : V) {u : Upd} (he : Ev P α.ev α.ob o v u) (r : Ch P all K rest (α.app o.dst v u)) (hw : wantA all α o = some true := by rfl) (hf : freshB u.new α = true := by rfl) (hd : dstB o α.n = true := by rfl) : Ch P all K (o :: rest) α := .step hw he hf hd r
theorem ChD.s {P : Program} {all : Array Oper} {K : St → List Tr → Prop} {o : Oper} {rest : List Oper} {α : St} {tr : List Tr} (v : V) {u : Upd} (fp : List Nat) (he : Ev P (α.evOn (rdOf o)) (α.obOn fp) o v u) (r : ChD P all K rest (α.app o.dst v u) (tr ++ [⟨o, fp, v, u⟩])) (hw : wantA all α o = some true := by rfl) (hf : freshB u.new α = true := by rfl) (hd : dstB o α.n = true := by rfl) : ChD P all K (o :: rest) α tr := .step fp hw he hf hd r

theorem ai {a b : Prop} (h : a) (k : b) : a ∧ b := ⟨h, k⟩
theorem endN {P : Program} {rs : List ResultVar} {pvs : List V} {ds' : List D} {r : D} {lend : Bool} {α : St} (vs : List V) (k1 k2 : List Nat) (h1 : ResVs P α rs vs) (h2 : Exps α.ob (fun _ => none) pvs ds' k1) (h3 : Exp α.ob (fun id => if lend = true ∧ id ∉ k1 ++ k2 then α.ob id else none) (packV vs) r k2) (h4 : nodupB (k1 ++ k2) = true) (h5 : ((idss pvs).all fun i => α.pin.contains i) = true) :
    (Exit.normal = .normal ∨ Exit.normal = .ret) ∧ Ret P rs pvs ds' r lend α := ⟨.inl rfl, vs, k1, k2, h1, h2, h3, h4, h5⟩
theorem endR {P : Program} {rs : List ResultVar} {pvs : List V} {ds' : List D} {r : D} {lend : Bool} {α : St} (vs : List V) (k1 k2 : List Nat) (h1 : ResVs P α rs vs) (h2 : Exps α.ob (fun _ => none) pvs ds' k1) (h3 : Exp α.ob (fun id => if lend = true ∧ id ∉ k1 ++ k2 then α.ob id else none) (packV vs) r k2) (h4 : nodupB (k1 ++ k2) = true) (h5 : ((idss pvs).all fun i => α.pin.contains i) = true) :
    (Exit.ret = .normal ∨ Exit.ret = .ret) ∧ Ret P rs pvs ds' r lend α := ⟨.inr rfl, vs, k1, k2, h1, h2, h3, h4, h5⟩
theorem nx {ι : Type} {p : ι → Prop} {a : ι → Nat} {b : Nat} {q : ι → Prop} (j : ι) (h1 : p j) (h3 : q j) (h2 : a j < b := by first | omega | (dsimp only; omega)) : ∃ j, p j ∧ a j < b ∧ q j := ⟨j, h1, h2, h3⟩
theorem pm {P : Program} {ρ : Operand → V} {h : Nat → Option Ob} {dst : Option Nat} {x : Operand} {a b c d} : Ev P ρ h (Oper.mk dst (.move x) a b c d) (ρ x) {} := .pure (.move _ rfl rfl)
theorem pa {P : Program} {ρ : Operand → V} {h : Nat → Option Ob} {dst : Option Nat} {x : Operand} {a b c d} : Ev P ρ h (Oper.mk dst (.assign x) a b c d) (ρ x) {} := .pure (.assign _ rfl rfl)

end Go.AM
