/-
  The abstract machine, part S: an own slice is cut short; a part of it is cleared.
-/
import Derived.Test.YtlnimdlpggnjeaaGreatDoorAmJ
namespace Go.AM

theorem DRs_pre {S : Nat → Prop} {w : World} : ∀ {ds : List D} {vs : List Value} {F : List Nat} (n : Nat), DRs S w ds vs F → ∃ F1, DRs S w (ds.take n) (vs.take n) F1 ∧ F1.Sublist F
  | ds, vs, F, 0, _ => ⟨[], by rw [List.take_zero, List.take_zero, DRs]; exact ⟨rfl, rfl⟩, List.nil_sublist _⟩
  | [], vs, F, n + 1, h => by
    rw [DRs] at h
    obtain ⟨rfl, rfl⟩ := h
    exact ⟨[], by rw [List.take_nil, List.take_nil, DRs]; exact ⟨rfl, rfl⟩, List.nil_sublist _⟩
  | d :: ds, vs, F, n + 1, h => by
    rw [DRs] at h
    obtain ⟨v, vs', F1, F2, rfl, rfl, h1, h2⟩ := h
    obtain ⟨F3, h3, h4⟩ := DRs_pre n h2
    rw [List.take_succ_cons, List.take_succ_cons]
    exact ⟨F1 ++ F3, by rw [DRs]; exact ⟨v, vs'.take n, F1, F3, rfl, rfl, h1, h3⟩, (List.Sublist.refl F1).append h4⟩

section
variable {P : Program} {c : Ctx} {α : St} {a : Act} {w : World} {β : Nat → Value} {φ : Nat → List Nat} {ρ : Operand → V} {h : Nat → Option Ob} {o : Oper}

theorem goes_cut (H : Rel c α a w β φ) (E : Env (Sof c α φ) w β φ ρ h a.eval) (hh : ∀ id ob, h id = some ob → α.ob id = some ob) (hd : ∀ d, o.dst = some d → d < α.n) {t e : TypeId} {x : Operand} {hi : Option Operand} {id n sz r : Nat} {xs : List D}
    (ho : o.op = .slice t x none hi none) (ht : P.underlying t = some (.slice e)) (hsz : SizeIs P e sz) (hx : ρ x = .row id) (hob : h id = some (.row sz xs)) (hr : bnd ρ hi xs.length r) (h2 : r ≤ xs.length) (hn : n ∉ α.ids) :
    Goes P c o a w (α.app o.dst (.row n) { kill := [id], set := [(n, .row sz (xs.take r))], new := [n] }) := by
  have hs := E.slots x
  rw [hx, VR] at hs
  obtain ⟨e1, _⟩ := hs
  have hob' := hh _ _ hob
  have hrow := E.objs _ _ hob
  rw [OR, DR] at hrow
  obtain ⟨vs, F1, F2, hF, h3, h4, h5, h6⟩ := hrow
  have hvl : vs.length = xs.length := DRs_length h4
  obtain ⟨F3, g1, g2⟩ := DRs_pre r h4
  have hl0 : bnd ρ none 0 0 := rfl
  have hflat : (flat (vs.take r)).length = r * sz := by
    rw [flat_length (sz := sz) (fun y hy => h5 y (List.mem_of_mem_take hy)), List.length_take, hvl, Nat.min_eq_left h2]
  have hhd : ∃ ad cp, β id = .slice ad xs.length cp ∧ xs.length ≤ cp ∧ OwnHead w sz r (flat (vs.take r)) (.slice ad r cp) F1 := by
    rcases h3 with ⟨⟨a0, q⟩, qn, qc, qF⟩ | ⟨g, cp, cur, e', fr, q, ⟨qc, qcb⟩, k1, k2, k3, k4, k5, k6⟩
    · have hr0 : r = 0 := by omega
      subst hr0
      exact ⟨a0, 0, by rw [q, qn], by omega, .inl ⟨⟨a0, rfl⟩, rfl, by simp [flat], qF⟩⟩
    · refine ⟨_, cp, q, qc, .inr ⟨g, cp, cur, e', fr, rfl, ⟨by omega, qcb⟩, k1, k2, k3, hflat, ?_, k6⟩⟩
      have hsplit : flat vs = flat (vs.take r) ++ flat (vs.drop r) := by rw [← flat_append, List.take_append_drop]
      have hle : r * sz ≤ xs.length * sz := Nat.mul_le_mul_right _ h2
      have : cur.toList.take (r * sz) = (cur.toList.take (xs.length * sz)).take (r * sz) := by rw [List.take_take, Nat.min_eq_left hle]
      rw [this, k5, hsplit, List.take_append_of_le_length (by omega), List.take_of_length_le (by omega)]
  obtain ⟨ad, cp, e2, e3, e4⟩ := hhd
  have hb := run_sliceBounds2 (P := P) (isSlice := true) (cap := cp) E hl0 hr (Nat.zero_le r) (by omega)
  have hadd : (if cp = 0 then ad else ad.map (·.add (0 * sz))) = ad := by
    split
    · rfl
    · cases ad with
      | none => rfl
      | some y => simp [Addr.add]
  have hrn : (execOp a.eval o).run P w = .ok (.value (.slice ad r cp)) w := by
    have : (execOp a.eval o).run P w = .ok (.value (.slice (if cp = 0 then ad else ad.map (·.add (0 * sz))) (r - 0) (cp - 0))) w := by
      simp only [Option.map_none] at hb
      simp [execOp, ho, Instr.sliceAt, Instr.slice, run_underlying ht, e1, e2, hb, run_sizeOf w hsz]
    rw [this, hadd]; rfl
  have hnd := H.nodup id _ hob'
  rw [hF] at hnd
  refine goes_value hrn (H.turn o.dst hd [id] n hn (.row sz (xs.take r)) w (.slice ad r cp) (F1 ++ F3) rfl rfl rfl (Nat.le_refl _) (fun _ _ _ => rfl) ?_ ?_ ?_ _ _ ?_)
  · intro b hb'
    refine .inr ⟨id, by simp, _, hob', ?_⟩
    rw [hF]
    rcases List.mem_append.1 hb' with hb' | hb'
    · exact List.mem_append_left _ hb'
    · exact List.mem_append_right _ (g2.subset hb')
  · exact hnd.sublist ((List.Sublist.refl F1).append g2)
  · intro S' hS β' hβ
    rw [OR, DR]
    refine ⟨vs.take r, F1, F3, rfl, by rw [List.length_take, Nat.min_eq_left h2]; exact e4, ?_, fun y hy => h5 y (List.mem_of_mem_take hy), fun y hy => h6 y (List.mem_of_mem_take hy)⟩
    exact DRs.move ⟨fun _ _ _ => rfl, Nat.le_refl _⟩ hS g1
  · intro S' hS β' hβ hβn
    rw [VR]
    exact ⟨hβn.symm, _, _, _, rfl⟩

theorem zeroCells_flat (z : Value) {sz : Nat} (hz : z.cells.size = sz) (hsz : 0 < sz) (n : Nat) : (Builtin.zeroCells z.cells n).toList = flat (List.replicate n z) := by
  have hfl : (flat (List.replicate n z)).length = n * sz := by rw [flat_length (sz := sz) (by intro y hy; rw [List.eq_of_mem_replicate hy]; exact hz)]; simp
  apply List.ext_getElem?
  intro i
  by_cases hi : i < n * sz
  · have hj : i / sz < n := (Nat.div_lt_iff_lt_mul hsz).2 hi
    have hm : i % sz < sz := Nat.mod_lt _ hsz
    have h1 : (flat (List.replicate n z))[i / sz * sz + i % sz]? = some (z.cells[i % sz]'(by omega)) :=
      flat_get (sz := sz) (by intro y hy; rw [List.eq_of_mem_replicate hy]; exact hz) (y := z) (by rw [List.getElem?_replicate, if_pos hj]) (by simp [hz, hm])
    rw [Nat.div_add_mod'] at h1
    rw [h1]
    simp [Builtin.zeroCells, hz, hm, hi]
  · rw [List.getElem?_eq_none (by simp [Builtin.zeroCells, hz]; omega), List.getElem?_eq_none (by omega)]

theorem DRs_split {S w} : ∀ {xs : List D} {vs F}, DRs S w xs vs F → ∀ q, ∃ G1 G2, F = G1 ++ G2 ∧ DRs S w (xs.take q) (vs.take q) G1 ∧ DRs S w (xs.drop q) (vs.drop q) G2
  | [], _, _, h, q => by
    rw [DRs] at h
    obtain ⟨rfl, rfl⟩ := h
    exact ⟨[], [], rfl, by simp [DRs], by simp [DRs]⟩
  | x :: xs, vs, F, h, 0 => ⟨[], F, rfl, by simp [DRs], by simpa using h⟩
  | x :: xs, vs, F, h, q + 1 => by
    rw [DRs] at h
    obtain ⟨v, vs', F1, F2, rfl, rfl, h1, h2⟩ := h
    obtain ⟨G1, G2, rfl, g1, g2⟩ := DRs_split h2 q
    refine ⟨F1 ++ G1, G2, by simp, ?_, by simpa using g2⟩
    rw [List.take_succ_cons, List.take_succ_cons, DRs]
    exact ⟨v, _, F1, G1, rfl, rfl, h1, g1⟩
theorem goes_clear (H : Rel c α a w β φ) (E : Env (Sof c α φ) w β φ ρ h a.eval) (hh : ∀ id ob, h id = some ob → α.ob id = some ob) (hd : ∀ d, o.dst = some d → d < α.n) {t e : TypeId} {x : Operand} {id sz bytes l r : Nat} {xs : List D} {zd : D}
    (ho : o.op = .call { callee := .builtin .clear, args := #[x], argTypes := #[t] }) (hty : SlotTy P t e sz bytes) (hx : ρ x = .sub id sz l r) (hob : h id = some (.row sz xs)) (h2 : r ≤ xs.length) (hnu : noUs ((xs.take r).drop l) = true)
    (hz : ∀ i z, P.info? e = some i → i.zero = some z → (∀ S w, DR S w zd z []) ∧ zd.mem = true) :
    Goes P c o a w (α.app o.dst .junk { set := [(id, .row sz (xs.take l ++ List.replicate (r - l) zd ++ xs.drop r))] }) := by
  obtain ⟨i, z, ht, hi, hzz, _, _, hzs, hsz⟩ := hty
  obtain ⟨hz1, hz2⟩ := hz i z hi hzz
  have hs := E.slots x
  rw [hx, VR] at hs
  obtain ⟨ad, n', cp, e1, hrn, hlr, e2⟩ := hs
  have hob' := hh _ _ hob
  have hrow := E.objs _ _ hob
  rw [OR, DR] at hrow
  obtain ⟨vs, F1, F2, hF, h3, h4, h5, h6⟩ := hrow
  have hvl : vs.length = xs.length := DRs_length h4
  have hrep : ∀ k, DRs (Sof c α φ) w (List.replicate k zd) (List.replicate k z) [] := by
    intro k
    induction k with
    | zero => rw [List.replicate_zero, List.replicate_zero, DRs]; exact ⟨rfl, rfl⟩
    | succ k ih => rw [List.replicate_succ, List.replicate_succ, DRs]; exact ⟨_, _, [], [], rfl, rfl, hz1 _ _, ih⟩
  have hsizes : ∀ y ∈ List.replicate (r - l) z, y.cells.size = sz := by intro y hy; rw [List.eq_of_mem_replicate hy]; exact hzs
  have hnew : DRs (Sof c α φ) w (xs.take l ++ List.replicate (r - l) zd ++ xs.drop r) (vs.take l ++ List.replicate (r - l) z ++ vs.drop r) F2 := by
    obtain ⟨G1, G2, e1', g1, g2⟩ := DRs_split h4 r
    obtain ⟨G3, G4, e2', g3, g4⟩ := DRs_split g1 l
    have e4 : G4 = [] := DRs.noU hnu g4
    subst e4
    rw [List.take_take, List.take_take, Nat.min_eq_left hlr] at g3
    have := DRs_append (DRs_append g3 (hrep (r - l))) g2
    rw [e1', e2']
    simpa using this
  have hlen : (xs.take l ++ List.replicate (r - l) zd ++ xs.drop r).length = xs.length := by simp; omega
  have hsz5 : ∀ y ∈ vs.take l ++ List.replicate (r - l) z ++ vs.drop r, y.cells.size = sz := by
    intro y hy
    rcases List.mem_append.1 hy with hy | hy
    · rcases List.mem_append.1 hy with hy | hy
      · exact h5 y (List.mem_of_mem_take hy)
      · exact hsizes y hy
    · exact h5 y (List.mem_of_mem_drop hy)
  have hm6 : ∀ y ∈ xs.take l ++ List.replicate (r - l) zd ++ xs.drop r, y.mem = true := by
    intro y hy
    rcases List.mem_append.1 hy with hy | hy
    · rcases List.mem_append.1 hy with hy | hy
      · exact h6 y (List.mem_of_mem_take hy)
      · rw [List.eq_of_mem_replicate hy]; exact hz2
    · exact h6 y (List.mem_of_mem_drop hy)
  by_cases hlt : l = r
  · -- nothing is cleared
    subst hlt
    have hsame : xs.take l ++ List.replicate (l - l) zd ++ xs.drop l = xs := by simp
    have hr : (execOp a.eval o).run P w = .ok (.value (.tuple #[])) w := by
      simp [execOp, ho, resolve, invoke, builtin, Builtin.clear_, e2, run_underlying ht]
      generalize (if cp = l then ad else Option.map (fun x => x.add (l * sz)) ad) = q
      cases q <;> rfl
    refine goes_value hr ?_
    rw [hsame]
    exact H.set o.dst hd id _ hob' (.row sz xs) w rfl rfl rfl (Nat.le_refl _) (fun _ _ _ => rfl) (fun S' hS => OR.move ⟨fun _ _ _ => rfl, Nat.le_refl _⟩ hS (fun _ _ => rfl) (E.objs _ _ hob)) _ _ (fun S' hS => by rw [VR]; trivial)
  · rcases h3 with ⟨⟨a0, q1⟩, q2, _⟩ | ⟨g, cp', cur, e', fr, k0, k1, k2, k3, k4, k5, k6, k7⟩
    · omega
    rw [e1] at k0
    obtain ⟨rfl, rfl, rfl⟩ : ad = some ⟨g, 0, none⟩ ∧ n' = xs.length ∧ cp = cp' := by simpa using k0
    obtain ⟨k, hk⟩ : ∃ k, r - l = k + 1 := ⟨r - l - 1, by omega⟩
    have hadd : (⟨g, 0, none⟩ : Addr).add (l * sz) = ⟨g, l * sz, none⟩ := by
      unfold Addr.add; split
      · rename_i q; rw [q]
      · simp
    have e3 : a.eval x = .slice (some ⟨g, l * sz, none⟩) (k + 1) (cp - l) := by
      rw [e2, if_neg (by omega), hk, Option.map_some, hadd]
    have hZ := zeroCells_flat z hzs hsz (k + 1)
    have hZl : (flat (List.replicate (k + 1) z)).length = (k + 1) * sz := by rw [← hk, flat_length hsizes]; simp
    have hcur : cur.toList.length = cp * sz := by simpa using k4
    have hb1 : l * sz + (k + 1) * sz ≤ xs.length * sz := by rw [← Nat.add_mul]; exact Nat.mul_le_mul_right _ (by omega)
    have hb2 : xs.length * sz ≤ cp * sz := Nat.mul_le_mul_right _ k1.1
    have hone : ∀ v ∈ (Builtin.zeroCells z.cells (k + 1)).toList, v.oneCell' = true := by
      rw [hZ]; exact DRs_cells_one (hrep (k + 1)) (by intro y hy; rw [List.eq_of_mem_replicate hy]; exact hz2)
    have hst := run_storeCells_fr (P := P) g (l * sz) e' fr (Builtin.zeroCells z.cells (k + 1)).toList 0 cur w k2 k3 (by rw [hZ, hZl]; simp at hcur; omega) hone
    have hr : (execOp a.eval o).run P w = .ok (.value (.tuple #[])) (w.setRow g (splice cur.toList (l * sz) (flat (List.replicate (k + 1) z))).toArray) := by
      rw [hZ] at hst
      simp only [Nat.add_zero] at hst
      simp [execOp, ho, resolve, invoke, builtin, Builtin.clear_, e3, run_underlying ht, zeroValue, typeInfo, hi, hzz, hZ, hst, splice]
    have hZ2 : flat (List.replicate (k + 1) z) = flat (List.replicate (r - l) z) := by rw [hk]
    rw [hZ2] at hr hZl
    refine goes_value hr (H.set o.dst hd id _ hob' (.row sz (xs.take l ++ List.replicate (r - l) zd ++ xs.drop r)) (w.setRow g (splice cur.toList (l * sz) (flat (List.replicate (r - l) z))).toArray) rfl rfl rfl (by simp) ?_ ?_ .junk (.tuple #[]) (fun S' hS => by rw [VR]; trivial))
    · intro b hb hmm
      rw [setRow_other]
      intro q; subst q; exact hmm (by rw [hF, k7]; simp)
    · intro S' hS
      have hag : Agree (Sof c α φ) F2 w (w.setRow g (splice cur.toList (l * sz) (flat (List.replicate (r - l) z))).toArray) := by
        refine ⟨fun b hb hx => ?_, by simp⟩
        rw [setRow_other]
        intro q; subst q
        rcases hx with hx | hx
        · exact hx (.inr ⟨id, _, hob', by rw [hF, k7]; simp⟩)
        · have hnd := H.nodup id _ hob'
          rw [hF, k7, List.singleton_append, List.nodup_cons] at hnd
          exact hnd.1 hx
      have hNs : (splice cur.toList (l * sz) (flat (List.replicate (r - l) z))).length = cur.size := by
        simp [splice]; simp at hcur; omega
      have hrl : r * sz = l * sz + (k + 1) * sz := by rw [← Nat.add_mul]; congr 1; omega
      have hfl : (flat vs).length = xs.length * sz := k5
      have hft : ∀ q, q ≤ xs.length → (flat (vs.take q)).length = q * sz := by
        intro q hq
        rw [flat_length (sz := sz) (fun y hy => h5 y (List.mem_of_mem_take hy)), List.length_take, hvl, Nat.min_eq_left hq]
      have hsp : ∀ q, flat vs = flat (vs.take q) ++ flat (vs.drop q) := by intro q; rw [← flat_append, List.take_append_drop]
      have hC : cur.toList = flat vs ++ cur.toList.drop (xs.length * sz) := by rw [← k6, List.take_append_drop]
      have hA : cur.toList.take (l * sz) = flat (vs.take l) := by
        rw [hC, List.take_append_of_le_length (by omega), hsp l, List.take_append_of_le_length (by rw [hft l (by omega)]; omega), List.take_of_length_le (by rw [hft l (by omega)]; omega)]
      have hB : cur.toList.drop (l * sz + (k + 1) * sz) = flat (vs.drop r) ++ cur.toList.drop (xs.length * sz) := by
        rw [← hrl]
        have hrn2 : r * sz ≤ xs.length * sz := Nat.mul_le_mul_right _ h2
        conv => lhs; rw [hC]
        rw [List.drop_append_of_le_length (by omega), hsp r]
        rw [List.drop_append_of_le_length (by rw [hft r h2]; omega), List.drop_of_length_le (by rw [hft r h2]; omega), List.nil_append]
      rw [OR, DR]
      refine ⟨vs.take l ++ List.replicate (r - l) z ++ vs.drop r, F1, F2, hF, ?_, DRs.move hag hS hnew, hsz5, hm6⟩
      rw [hlen]
      have hfn : (flat (vs.take l ++ List.replicate (r - l) z ++ vs.drop r)).length = xs.length * sz := by
        rw [flat_length hsz5]; congr 1; simp; omega
      refine .inr ⟨g, cp, _, e', fr, e1, k1, setRow_heap w g cur _ e' fr k2, ?_, ?_, hfn, ?_, k7⟩
      · rw [show (splice cur.toList (l * sz) (flat (List.replicate (r - l) z))).toArray.size = cur.size by simpa using hNs]; exact k3
      · rw [show (splice cur.toList (l * sz) (flat (List.replicate (r - l) z))).toArray.size = cur.size by simpa using hNs]; exact k4
      · rw [flat_append, flat_append] at hfn ⊢
        simp only [splice]
        rw [hA, hZl, hB, ← List.append_assoc, List.take_append_of_le_length (by omega), List.take_of_length_le (by omega)]

end

end Go.AM
