/-
  The abstract machine, part X: an own slice that lies in an own row is taken out of it (its place is a hole that holds its header), and is put back.
-/
import Derived.Test.YtlnimdlpggnjeaaGreatDoorAmW
namespace Go.AM

theorem DRs_take1 {S w} : ∀ {xs : List D} {vs F}, DRs S w xs vs F → ∀ {j : Nat} {y : D}, xs[j]? = some y →
    ∃ v Fj, DR S w y v Fj ∧ vs[j]? = some v ∧ (OneC v → ∃ F', DRs S w (xs.set j (.hole v)) vs F' ∧ (Fj ++ F').Perm F)
  | [], _, _, h, j, y, hj => by simp at hj
  | x :: xs, vs, F, h, j, y, hj => by
    rw [DRs] at h
    obtain ⟨v, vs', F1, F2, rfl, rfl, h1, h2⟩ := h
    cases j with
    | zero =>
      simp at hj; subst hj
      refine ⟨v, F1, h1, rfl, fun ho => ⟨F2, ?_, List.Perm.refl _⟩⟩
      rw [List.set_cons_zero, DRs]
      exact ⟨v, vs', [], F2, rfl, rfl, by rw [DR]; exact ⟨⟨rfl, ho⟩, rfl⟩, h2⟩
    | succ j =>
      obtain ⟨u, Fj, g1, g2, g3⟩ := DRs_take1 h2 (j := j) (y := y) (by simpa using hj)
      refine ⟨u, Fj, g1, by simpa using g2, fun ho => ?_⟩
      obtain ⟨F', g4, g5⟩ := g3 ho
      refine ⟨F1 ++ F', ?_, ?_⟩
      · rw [List.set_cons_succ, DRs]
        exact ⟨v, vs', F1, F', rfl, rfl, h1, g4⟩
      · refine List.Perm.trans ?_ (g5.append_left F1)
        rw [← List.append_assoc, ← List.append_assoc]
        exact List.perm_append_comm.append_right F'

theorem DRs_give1 {S w} : ∀ {xs : List D} {vs F}, DRs S w xs vs F → ∀ {j : Nat} {u : Value} {y : D} {Fj}, xs[j]? = some (.hole u) → DR S w y u Fj →
    ∃ F', DRs S w (xs.set j y) vs F' ∧ F'.Perm (Fj ++ F)
  | [], _, _, h, j, u, y, Fj, hj, hy => by simp at hj
  | x :: xs, vs, F, h, j, u, y, Fj, hj, hy => by
    rw [DRs] at h
    obtain ⟨v, vs', F1, F2, rfl, rfl, h1, h2⟩ := h
    cases j with
    | zero =>
      simp at hj; subst hj
      rw [DR] at h1
      obtain ⟨⟨rfl, _⟩, rfl⟩ := h1
      refine ⟨Fj ++ F2, ?_, by rw [List.nil_append]⟩
      rw [List.set_cons_zero, DRs]
      exact ⟨v, vs', Fj, F2, rfl, rfl, hy, h2⟩
    | succ j =>
      obtain ⟨F', g4, g5⟩ := DRs_give1 h2 (j := j) (u := u) (by simpa using hj) hy
      refine ⟨F1 ++ F', ?_, ?_⟩
      · rw [List.set_cons_succ, DRs]
        exact ⟨v, vs', F1, F', rfl, rfl, h1, g4⟩
      · refine List.Perm.trans (g5.append_left F1) ?_
        rw [← List.append_assoc, ← List.append_assoc]
        exact List.perm_append_comm.append_right F2

theorem own_one {S w sz ys v F} (h : DR S w (.slice true sz ys) v F) : OneC v ∧ ∃ a n c, v = .slice a n c := by
  rw [DR] at h
  obtain ⟨vs, F1, F2, _, h1, _⟩ := h
  rcases h1 with ⟨⟨a0, rfl⟩, _⟩ | ⟨g, c, cur, e, fr, rfl, _⟩
  · exact ⟨⟨rfl, rfl⟩, _, _, _, rfl⟩
  · exact ⟨⟨rfl, rfl⟩, _, _, _, rfl⟩

def St.taken (α : St) (id sz j n m : Nat) (xs : List D) (sz' : Nat) (ys : List D) (u : Value) : St :=
  { α with hp := (id, some (.row sz (xs.set j (.hole u)))) :: (n, some (.row sz' ys)) :: (m, some (.head n u)) :: α.hp }

theorem take_R {c : Ctx} {α : St} {a : Act} {w : World} (id j n m : Nat) {sz sz' : Nat} {xs ys : List D} (ho : α.ob id = some (.row sz xs)) (hj : xs[j]? = some (.slice true sz' ys)) (hn : n ∉ α.ids) (hm : m ∉ α.ids) (hnm : n ≠ m)
    (hR : R c α a w) : ∃ u, R c (α.taken id sz j n m xs sz' ys u) a w := by
  obtain ⟨β, φ, H⟩ := hR
  have hid := (α.ob_ids ho).1
  have hrow := H.objs id _ ho
  rw [OR, DR] at hrow
  obtain ⟨vs, F1, F2, hF, h1, h2, h3, h4⟩ := hrow
  obtain ⟨v, Fj, g1, g2, g3⟩ := DRs_take1 h2 hj
  obtain ⟨hone, hsl⟩ := own_one g1
  obtain ⟨F', g4, g5⟩ := g3 hone
  have hne1 : id ≠ n := fun e => hn (e ▸ hid)
  have hne2 : id ≠ m := fun e => hm (e ▸ hid)
  let β' : Nat → Value := fun i => if i = n then v else β i
  let φ' : Nat → List Nat := fun i => if i = id then F1 ++ F' else if i = n then Fj else if i = m then [] else φ i
  have b1 : β' n = v := by simp [β']
  have b2 : ∀ i ∈ α.ids, β' i = β i := fun i hi => by
    have : i ≠ n := fun e => hn (e ▸ hi)
    simp [β', this]
  have p1 : φ' id = F1 ++ F' := by simp [φ']
  have p2 : φ' n = Fj := by simp [φ', Ne.symm hne1]
  have p3 : φ' m = [] := by simp [φ', Ne.symm hne2, Ne.symm hnm]
  have hnd := H.nodup id _ ho
  rw [hF] at hnd
  have hperm : (Fj ++ (F1 ++ F')).Perm (F1 ++ F2) := by
    refine List.Perm.trans ?_ (g5.append_left F1)
    rw [← List.append_assoc, ← List.append_assoc]
    exact List.perm_append_comm.append_right F'
  have hnd2 : (Fj ++ (F1 ++ F')).Nodup := hperm.nodup_iff.2 hnd
  have hm1 : ∀ b ∈ Fj, b ∈ φ id := fun b hb => by rw [hF]; exact hperm.subset (List.mem_append_left _ hb)
  have hm2 : ∀ b ∈ F1 ++ F', b ∈ φ id := fun b hb => by rw [hF]; exact hperm.subset (List.mem_append_right _ hb)
  let U : Upd := { set := [(id, .row sz (xs.set j (.hole v))), (n, .row sz' ys), (m, .head n v)], new := [n, m] }
  have hless : ∀ b, Sof c (α.upd U) φ' b → Sof c α φ b := by
    rintro b (hb | ⟨i, o, hi, hb⟩)
    · exact .inl hb
    · rcases Upd.ob_cases hi with hset | ⟨hi', _, hns⟩
      · simp [U] at hset
        rcases hset with ⟨rfl, rfl⟩ | ⟨rfl, rfl⟩ | ⟨rfl, rfl⟩
        · rw [p1] at hb; exact .inr ⟨i, _, ho, hm2 b hb⟩
        · rw [p2] at hb; exact .inr ⟨id, _, ho, hm1 b hb⟩
        · rw [p3] at hb; simp at hb
      · have e1 : i ≠ id := fun e => hns (.row sz (xs.set j (.hole v))) (by simp [U, e])
        have e2 : i ≠ n := fun e => hns (.row sz' ys) (by simp [U, e])
        have e3 : i ≠ m := fun e => hns (.head n v) (by simp [U, e])
        simp [φ', e1, e2, e3] at hb
        exact .inr ⟨i, o, hi', hb⟩
  have hl : Less w (Sof c α φ) (Sof c (α.upd U) φ') := fun b _ hb => hless b hb
  have hok : StepOK c α w β φ U w β' φ' := by
    refine ⟨rfl, rfl, rfl, Nat.le_refl _, fun _ _ _ => rfl, fun _ _ _ => rfl, b2, ?_, ?_, ?_, ?_, ?_⟩
    · intro i o _ hns
      have e1 : i ≠ id := fun e => hns (.row sz (xs.set j (.hole v))) (by simp [U, e])
      have e2 : i ≠ n := fun e => hns (.row sz' ys) (by simp [U, e])
      have e3 : i ≠ m := fun e => hns (.head n v) (by simp [U, e])
      simp [φ', e1, e2, e3]
    · intro i o hi _
      simp [U] at hi
      rcases hi with ⟨rfl, rfl⟩ | ⟨rfl, rfl⟩ | ⟨rfl, rfl⟩
      · rw [p1, b2 i hid, OR, DR]
        refine ⟨vs, F1, F', rfl, by rw [List.length_set]; exact h1, DRs.less hl g4, h3, ?_⟩
        intro x hx
        rcases List.mem_or_eq_of_mem_set hx with hx | rfl
        · exact h4 x hx
        · rfl
      · rw [p2, b1, OR]; exact DR.less hl g1
      · rw [p3]; exact ⟨b1, rfl⟩
    · intro i o hi
      simp [U] at hi
      rcases hi with ⟨rfl, rfl⟩ | ⟨rfl, rfl⟩ | ⟨rfl, rfl⟩
      · rw [p1]; exact (List.nodup_append.1 hnd2).2.1
      · rw [p2]; exact (List.nodup_append.1 hnd2).1
      · rw [p3]; exact List.nodup_nil
    · have hdis : ∀ b ∈ Fj, b ∉ F1 ++ F' := fun b hb hb2 => (List.nodup_append.1 hnd2).2.2 b hb b hb2 rfl
      intro i k oi ok hi hk hik b hb hb2
      simp [U] at hi hk
      rcases hi with ⟨rfl, rfl⟩ | ⟨rfl, rfl⟩ | ⟨rfl, rfl⟩ <;> rcases hk with ⟨rfl, rfl⟩ | ⟨rfl, rfl⟩ | ⟨rfl, rfl⟩
      · exact hik rfl
      · rw [p1] at hb; rw [p2] at hb2; exact hdis b hb2 hb
      · rw [p3] at hb2; simp at hb2
      · rw [p2] at hb; rw [p1] at hb2; exact hdis b hb hb2
      · exact hik rfl
      · rw [p3] at hb2; simp at hb2
      · rw [p3] at hb; simp at hb
      · rw [p3] at hb; simp at hb
      · exact hik rfl
    · intro i o hi b hb
      simp [U] at hi
      rcases hi with ⟨rfl, rfl⟩ | ⟨rfl, rfl⟩ | ⟨rfl, rfl⟩
      · rw [p1] at hb; exact .inr ⟨i, _, ho, hm2 b hb, .inr ⟨.row sz (xs.set j (.hole v)), by simp [U]⟩⟩
      · rw [p2] at hb; exact .inr ⟨id, _, ho, hm1 b hb, .inr ⟨.row sz (xs.set j (.hole v)), by simp [U]⟩⟩
      · rw [p3] at hb; simp at hb
  have := H.step hok none (by simp) .junk undef (by rw [VR]; trivial)
  exact ⟨v, β', φ', this⟩

theorem T_take {P : Program} {c : Ctx} {x : Code} {Q : Exit → St → Prop} {α : St} (id j n m : Nat) {sz sz' : Nat} {xs ys : List D} (ho : α.ob id = some (.row sz xs)) (hj : xs[j]? = some (.slice true sz' ys)) (hf : freshB [n, m] α = true) (hnm : Nat.beq n m = false)
    (h : ∀ u, T P c x Q (α.taken id sz j n m xs sz' ys u)) : T P c x Q α := by
  intro a w hR
  have hfr := freshB_spec hf
  obtain ⟨u, hR'⟩ := take_R id j n m ho hj (hfr n (by simp)) (hfr m (by simp)) (fun e => by rw [e] at hnm; simp at hnm) hR
  exact h u a w hR'

theorem Wk.give {c : Ctx} {α : St} (id j n m : Nat) {u : Value} {sz sz' : Nat} {xs ys xs' : List D} (ho : α.ob id = some (.row sz xs)) (hj : xs[j]? = some (.hole u)) (hn : α.ob n = some (.row sz' ys)) (hm : α.ob m = some (.head n u)) (hne : Nat.beq id n = false)
    (he : xs.set j (.slice true sz' ys) = xs') : Wk c α { α with hp := (id, some (.row sz xs')) :: (n, none) :: (m, none) :: α.hp } := by
  subst he
  rintro a w ⟨β, φ, H⟩
  have hne' : id ≠ n := fun e => by rw [e] at hne; simp at hne
  have hidm : id ≠ m := fun e => by rw [e, hm] at ho; cases ho
  have hnm : n ≠ m := fun e => by rw [e, hm] at hn; cases hn
  have hhead := H.objs m _ hm
  have hrow := H.objs id _ ho
  have hown := H.objs n _ hn
  rw [OR] at hown
  rw [hhead.1] at hown
  rw [OR, DR] at hrow
  obtain ⟨vs, F1, F2, hF, h1, h2, h3, h4⟩ := hrow
  obtain ⟨F', g4, g5⟩ := DRs_give1 h2 hj hown
  let φ' : Nat → List Nat := fun i => if i = id then F1 ++ F' else φ i
  have p1 : φ' id = F1 ++ F' := by simp [φ']
  have hperm : (F1 ++ F').Perm (φ n ++ φ id) := by
    rw [hF]
    refine List.Perm.trans (g5.append_left F1) ?_
    rw [← List.append_assoc, ← List.append_assoc]
    exact List.perm_append_comm.append_right F2
  have hmem : ∀ b ∈ F1 ++ F', b ∈ φ n ∨ b ∈ φ id := fun b hb => List.mem_append.1 (hperm.subset hb)
  let U : Upd := { set := [(id, .row sz (xs.set j (.slice true sz' ys)))], kill := [n, m] }
  have hless : ∀ b, Sof c (α.upd U) φ' b → Sof c α φ b := by
    rintro b (hb | ⟨i, o, hi, hb⟩)
    · exact .inl hb
    · rcases Upd.ob_cases hi with hset | ⟨hi', _, hns⟩
      · simp [U] at hset
        obtain ⟨rfl, rfl⟩ := hset
        rw [p1] at hb
        rcases hmem b hb with hb | hb
        · exact .inr ⟨n, _, hn, hb⟩
        · exact .inr ⟨i, _, ho, hb⟩
      · have e1 : i ≠ id := fun e => hns (.row sz (xs.set j (.slice true sz' ys))) (by simp [U, e])
        simp [φ', e1] at hb
        exact .inr ⟨i, o, hi', hb⟩
  have hl : Less w (Sof c α φ) (Sof c (α.upd U) φ') := fun b _ hb => hless b hb
  have hok : StepOK c α w β φ U w β φ' := by
    refine ⟨rfl, rfl, rfl, Nat.le_refl _, fun _ _ _ => rfl, fun _ _ _ => rfl, fun _ _ => rfl, ?_, ?_, ?_, ?_, ?_⟩
    · intro i o _ hns
      have e1 : i ≠ id := fun e => hns (.row sz (xs.set j (.slice true sz' ys))) (by simp [U, e])
      simp [φ', e1]
    · intro i o hi _
      simp [U] at hi
      obtain ⟨rfl, rfl⟩ := hi
      rw [p1, OR, DR]
      refine ⟨vs, F1, F', rfl, by rw [List.length_set]; exact h1, DRs.less hl g4, h3, ?_⟩
      intro x hx
      rcases List.mem_or_eq_of_mem_set hx with hx | rfl
      · exact h4 x hx
      · rfl
    · intro i o hi
      simp [U] at hi
      obtain ⟨rfl, rfl⟩ := hi
      rw [p1]
      refine hperm.nodup_iff.2 (List.nodup_append.2 ⟨H.nodup n _ hn, H.nodup i _ ho, ?_⟩)
      rintro b hb b2 hb2 rfl
      exact H.apart n i _ _ hn ho (Ne.symm hne') b hb hb2
    · intro i k oi ok hi hk hik
      simp [U] at hi hk
      exact absurd (hi.1.trans hk.1.symm) hik
    · intro i o hi b hb
      simp [U] at hi
      obtain ⟨rfl, rfl⟩ := hi
      rw [p1] at hb
      rcases hmem b hb with hb | hb
      · exact .inr ⟨n, _, hn, hb, .inl (by simp [U])⟩
      · exact .inr ⟨i, _, ho, hb, .inr ⟨_, by simp [U]; rfl⟩⟩
  have := H.step hok none (by simp) .junk undef (by rw [VR]; trivial)
  exact ⟨β, φ', this⟩

theorem u64_wrap {n : Nat} (h : n < 18446744073709551616) : IntKind.u64.wrap (n : Int) = (n : Int) := by
  have : ((n : Int)) % 18446744073709551616 = (n : Int) := Int.emod_eq_of_lt (by omega) (by omega)
  simp [IntKind.wrap, IntKind.bits, IntKind.signed]
  omega
theorem u64_and {n : Nat} (h : n < 4294967296) : intV .and .u64 (n : Int) 4294967295 = some (.int .u64 (n : Int)) := by
  have e : (BitVec.ofInt IntKind.u64.bits (n : Int) &&& BitVec.ofInt IntKind.u64.bits 4294967295).toNat = n := by
    show (BitVec.ofInt 64 (n : Int) &&& BitVec.ofInt 64 4294967295).toNat = n
    rw [BitVec.toNat_and, show (BitVec.ofInt 64 (n : Int)).toNat = n by rw [BitVec.toNat_ofInt]; omega, show (BitVec.ofInt 64 4294967295).toNat = 2 ^ 32 - 1 from rfl, Nat.and_two_pow_sub_one_eq_mod]
    omega
  rw [intV, e, u64_wrap (by omega)]
theorem u64_shr {n : Nat} (h : n < 4294967296) : shiftV .shr .u64 (n : Int) 32 = some (.int .u64 0) := by
  rw [shiftV, if_neg (by decide)]
  have : (n : Int).fdiv (2 ^ min (32 : Int).toNat IntKind.u64.bits) = 0 := by
    show (n : Int).fdiv 4294967296 = 0
    rw [Int.fdiv_eq_ediv_of_nonneg _ (by decide)]; omega
  rw [this]
theorem u64_mul1 {n : Nat} (h : n < 18446744073709551616) : intV .mul .u64 1 (n : Int) = some (.int .u64 (n : Int)) := by
  rw [intV, Int.one_mul, u64_wrap h]
theorem u64_mul0 (n : Int) : intV .mul .u64 0 n = some (.int .u64 0) := by
  rw [intV, Int.zero_mul]; rfl
theorem u64_mulz (n : Int) : intV .mul .u64 n 0 = some (.int .u64 0) := by
  rw [intV, Int.mul_zero]; rfl
theorem u64_addz {n : Nat} (h : n < 18446744073709551616) : intV .add .u64 (n : Int) 0 = some (.int .u64 (n : Int)) := by
  rw [intV, Int.add_zero, u64_wrap h]
theorem u64_zadd {n : Nat} (h : n < 18446744073709551616) : intV .add .u64 0 (n : Int) = some (.int .u64 (n : Int)) := by
  rw [intV, Int.zero_add, u64_wrap h]
theorem convU64 {m : Int} {n : Nat} (h : m = (n : Int)) (hn : n < 18446744073709551616) : V.d (.int .u64 (IntKind.u64.wrap m)) = V.d (.int .u64 (n : Int)) := by
  subst h; rw [u64_wrap hn]

end Go.AM
