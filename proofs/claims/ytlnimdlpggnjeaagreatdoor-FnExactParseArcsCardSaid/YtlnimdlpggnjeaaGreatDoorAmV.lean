/-
  The abstract machine, part V: 'copy' onto an own slice, or a part of it.
-/
import Derived.Test.YtlnimdlpggnjeaaGreatDoorAmS
namespace Go.AM

inductive DstC (h : Nat → Option Ob) : V → Nat → Nat → Nat → Nat → List D → Prop
  | row {id sz xs} (ho : h id = some (.row sz xs)) : DstC h (.row id) id sz 0 xs.length xs
  | sub {id sz l r xs} (ho : h id = some (.row sz xs)) (h1 : l ≤ r) (h2 : r ≤ xs.length) : DstC h (.sub id sz l r) id sz l r xs

section
variable {P : Program} {c : Ctx} {α : St} {a : Act} {w : World} {β : Nat → Value} {φ : Nat → List Nat} {ρ : Operand → V} {h : Nat → Option Ob} {o : Oper}

theorem DstC.sound (E : Env (Sof c α φ) w β φ ρ h a.eval) {x : Operand} {id sz l r : Nat} {xs : List D} (hx : DstC h (ρ x) id sz l r xs) :
    h id = some (.row sz xs) ∧ l ≤ r ∧ r ≤ xs.length ∧ ∃ ad cp, a.eval x = .slice ad (r - l) cp ∧ ∀ g cp0, β id = .slice (some ⟨g, 0, none⟩) xs.length cp0 → l < r → ad = some ⟨g, l * sz, none⟩ := by
  have hs := E.slots x
  generalize hq : ρ x = q at hx hs
  cases hx with
  | row ho =>
    rw [VR] at hs
    have hrow := E.objs _ _ ho
    rw [OR, DR] at hrow
    obtain ⟨vs, F1, F2, _, h1, _⟩ := hrow
    refine ⟨ho, Nat.zero_le _, Nat.le_refl _, ?_⟩
    rw [hs.1, Nat.sub_zero]
    rcases h1 with ⟨⟨a0, e1⟩, e2, _⟩ | ⟨g, cp, cur, e, fr, e1, _⟩
    · rw [e1, e2]
      exact ⟨_, _, rfl, fun g cp0 _ h => by omega⟩
    · rw [e1]
      exact ⟨_, _, rfl, fun g' cp0 h2 _ => by cases h2; simp⟩
  | sub ho h1 h2 =>
    rw [VR] at hs
    obtain ⟨ad, n', cp, e1, hrn, hlr, e2⟩ := hs
    refine ⟨ho, h1, h2, _, _, e2, ?_⟩
    intro g cp0 h3 hlt
    rw [e1] at h3
    obtain ⟨rfl, rfl, rfl⟩ : ad = some ⟨g, 0, none⟩ ∧ n' = xs.length ∧ cp = cp0 := by simpa using h3
    have hrow := E.objs _ _ ho
    rw [OR, DR] at hrow
    obtain ⟨vs, F1, F2, _, h4, _⟩ := hrow
    have hcp : xs.length ≤ cp := by
      rcases h4 with ⟨⟨a0, q1⟩, q2, _⟩ | ⟨g', cp', cur, e, fr, q1, q2, _⟩
      · omega
      · rw [e1] at q1
        obtain ⟨_, rfl⟩ : g = g' ∧ cp = cp' := by simpa using q1
        exact q2.1
    have hadd : (⟨g, 0, none⟩ : Addr).add (l * sz) = ⟨g, l * sz, none⟩ := by
      unfold Addr.add; split
      · rename_i q; rw [q]
      · simp
    rw [if_neg (by omega), Option.map_some, hadd]

theorem goes_copy (H : Rel c α a w β φ) (E : Env (Sof c α φ) w β φ ρ h a.eval) (hh : ∀ id ob, h id = some ob → α.ob id = some ob) (hd : ∀ d, o.dst = some d → d < α.n) {t t2 e : TypeId} {x y : Operand} {id sz bytes l r n : Nat} {xs ys : List D}
    (ho : o.op = .call { callee := .builtin .copy, args := #[x, y], argTypes := #[t, t2] }) (hty : SlotTy P t e sz bytes) (hx : DstC h (ρ x) id sz l r xs) (hnu : noUs xs = true) (hy : Src h (ρ y) sz ys []) (hn : Nat.min ys.length (r - l) = n) :
    Goes P c o a w (α.app o.dst (.d (.int .i64 (n : Int))) { set := [(id, .row sz (xs.take l ++ ys.take n ++ xs.drop (l + n)))] }) := by
  obtain ⟨i, z, ht, hi, hzz, rfl, _, hzs, hsz⟩ := hty
  obtain ⟨hob, hlr, h2, ad, cp, e2, hhead⟩ := hx.sound E
  obtain ⟨sad, scap, us, FS, s1, s2, s3, _, s4, s5, s6⟩ := hy.sound H E hh
  have hFS : FS = [] := by
    cases FS with
    | nil => rfl
    | cons b F => obtain ⟨k, hk, _⟩ := s3 b (by simp); simp at hk
  subst hFS
  have hob' := hh _ _ hob
  have hrow := E.objs _ _ hob
  rw [OR, DR] at hrow
  obtain ⟨vs, F1, F2, hF, h3, h4, h5, h6⟩ := hrow
  have hF2 : F2 = [] := DRs.noU hnu h4
  subst hF2
  have hvl : vs.length = xs.length := DRs_length h4
  have hul : us.length = ys.length := DRs_length s2
  have hnl : n ≤ ys.length := by rw [← hn]; exact Nat.min_le_left _ _
  have hnr : n ≤ r - l := by rw [← hn]; exact Nat.min_le_right _ _
  have hnew : DRs (Sof c α φ) w (xs.take l ++ ys.take n ++ xs.drop (l + n)) (vs.take l ++ us.take n ++ vs.drop (l + n)) [] := by
    have := DRs_append (DRs_append (DRs_take h4 l) (DRs_take s2 n)) (DRs_drop h4 (l + n))
    simpa using this
  have hlen : (xs.take l ++ ys.take n ++ xs.drop (l + n)).length = xs.length := by simp; omega
  have hsz5 : ∀ y ∈ vs.take l ++ us.take n ++ vs.drop (l + n), y.cells.size = i.size := by
    intro y hy
    rcases List.mem_append.1 hy with hy | hy
    · rcases List.mem_append.1 hy with hy | hy
      · exact h5 y (List.mem_of_mem_take hy)
      · exact s4 y (List.mem_of_mem_take hy)
    · exact h5 y (List.mem_of_mem_drop hy)
  have hm6 : ∀ y ∈ xs.take l ++ ys.take n ++ xs.drop (l + n), y.mem = true := by
    intro y hy
    rcases List.mem_append.1 hy with hy | hy
    · rcases List.mem_append.1 hy with hy | hy
      · exact h6 y (List.mem_of_mem_take hy)
      · exact s5 y (List.mem_of_mem_take hy)
    · exact h6 y (List.mem_of_mem_drop hy)
  have hnewl : (flat (us.take n)).length = n * i.size := by
    rw [flat_length (sz := i.size) (fun y hy => s4 y (List.mem_of_mem_take hy)), List.length_take, hul, Nat.min_eq_left hnl]
  have hfc : (Builtin.firstCells i.size n (.slice sad ys.length scap)).run P w = .ok (flat (us.take n)).toArray w := by
    rcases s6 with s6 | ⟨b, rfl, hc⟩
    · have hl0 : (flat us).length = us.length * i.size := flat_length s4
      rw [s6] at hl0
      have hu0 : us.length = 0 := by
        rcases Nat.mul_eq_zero.1 hl0.symm with q | q
        · exact q
        · omega
      have hn0 : n = 0 := by omega
      subst hn0
      cases sad <;> simp [Builtin.firstCells, loadCells, loadCellsFrom, flat]
    · refine run_firstCells_some (P := P) w i.size n b ys.length scap _ hnewl (fun j v hj => hc j v ?_)
      have : flat us = flat (us.take n) ++ flat (us.drop n) := by rw [← flat_append, List.take_append_drop]
      rw [this, List.getElem?_append_left (List.getElem?_eq_some_iff.1 hj).1]; exact hj
  have hval : ∀ S' : Nat → Prop, VR S' w β (.d (.int .i64 (n : Int))) (goInt (n : Int)) := fun S' => by rw [VR, DR]; exact ⟨rfl, rfl⟩
  by_cases hn0 : n = 0
  · subst hn0
    have hsame : xs.take l ++ ys.take 0 ++ xs.drop (l + 0) = xs := by simp
    have hr : (execOp a.eval o).run P w = .ok (.value (goInt ((0 : Nat) : Int))) w := by
      simp [execOp, ho, resolve, invoke, builtin, Builtin.copy_, e2, s1, run_underlying ht, sizeOf, typeInfo, hi, Builtin.lenOf, hn, hfc, flat]
      cases ad <;> simp [storeCells]
    refine goes_value hr ?_
    rw [hsame]
    exact H.set o.dst hd id _ hob' (.row i.size xs) w rfl rfl rfl (Nat.le_refl _) (fun _ _ _ => rfl) (fun S' hS => OR.move ⟨fun _ _ _ => rfl, Nat.le_refl _⟩ hS (fun _ _ => rfl) (E.objs _ _ hob)) _ _ (fun S' _ => hval S')
  · rcases h3 with ⟨⟨a0, q1⟩, q2, _⟩ | ⟨g, cp', cur, e', fr, k0, k1, k2, k3, k4, k5, k6, k7⟩
    · omega
    have had := hhead g cp' k0 (by omega)
    subst had
    have hcur : cur.toList.length = cp' * i.size := by simpa using k4
    have hb1 : l * i.size + n * i.size ≤ xs.length * i.size := by rw [← Nat.add_mul]; exact Nat.mul_le_mul_right _ (by omega)
    have hb2 : xs.length * i.size ≤ cp' * i.size := Nat.mul_le_mul_right _ k1.1
    have hone : ∀ v ∈ flat (us.take n), v.oneCell' = true := DRs_cells_one (DRs_take s2 n) (fun y hy => s5 y (List.mem_of_mem_take hy))
    have hst := run_storeCells_fr (P := P) g (l * i.size) e' fr (flat (us.take n)) 0 cur w k2 k3 (by rw [hnewl]; simp at hcur; omega) hone
    have hr : (execOp a.eval o).run P w = .ok (.value (goInt (n : Int))) (w.setRow g (splice cur.toList (l * i.size) (flat (us.take n))).toArray) := by
      simp only [Nat.add_zero] at hst
      simp [execOp, ho, resolve, invoke, builtin, Builtin.copy_, e2, s1, run_underlying ht, sizeOf, typeInfo, hi, Builtin.lenOf, hn, hfc, hst, splice]
    refine goes_value hr (H.set o.dst hd id _ hob' (.row i.size (xs.take l ++ ys.take n ++ xs.drop (l + n))) (w.setRow g (splice cur.toList (l * i.size) (flat (us.take n))).toArray) rfl rfl rfl (by simp) ?_ ?_ _ _ (fun S' _ => by rw [VR, DR]; exact ⟨rfl, rfl⟩))
    · intro b hb hmm
      rw [setRow_other]
      intro q; subst q; exact hmm (by rw [hF, k7]; simp)
    · intro S' hS
      have hag : Agree (Sof c α φ) [] w (w.setRow g (splice cur.toList (l * i.size) (flat (us.take n))).toArray) := by
        refine ⟨fun b hb hx => ?_, by simp⟩
        rw [setRow_other]
        intro q; subst q
        rcases hx with hx | hx
        · exact hx (.inr ⟨id, _, hob', by rw [hF, k7]; simp⟩)
        · cases hx
      have hNs : (splice cur.toList (l * i.size) (flat (us.take n))).length = cur.size := by
        simp [splice]; simp at hcur; omega
      have hrl : (l + n) * i.size = l * i.size + n * i.size := Nat.add_mul _ _ _
      have hfl : (flat vs).length = xs.length * i.size := k5
      have hft : ∀ q, q ≤ xs.length → (flat (vs.take q)).length = q * i.size := by
        intro q hq
        rw [flat_length (sz := i.size) (fun y hy => h5 y (List.mem_of_mem_take hy)), List.length_take, hvl, Nat.min_eq_left hq]
      have hsp : ∀ q, flat vs = flat (vs.take q) ++ flat (vs.drop q) := by intro q; rw [← flat_append, List.take_append_drop]
      have hC : cur.toList = flat vs ++ cur.toList.drop (xs.length * i.size) := by rw [← k6, List.take_append_drop]
      have hA : cur.toList.take (l * i.size) = flat (vs.take l) := by
        rw [hC, List.take_append_of_le_length (by omega), hsp l, List.take_append_of_le_length (by rw [hft l (by omega)]; omega), List.take_of_length_le (by rw [hft l (by omega)]; omega)]
      have hB : cur.toList.drop (l * i.size + n * i.size) = flat (vs.drop (l + n)) ++ cur.toList.drop (xs.length * i.size) := by
        rw [← hrl]
        have hrn2 : (l + n) * i.size ≤ xs.length * i.size := Nat.mul_le_mul_right _ (by omega)
        conv => lhs; rw [hC]
        rw [List.drop_append_of_le_length (by omega), hsp (l + n)]
        rw [List.drop_append_of_le_length (by rw [hft (l + n) (by omega)]; omega), List.drop_of_length_le (by rw [hft (l + n) (by omega)]; omega), List.nil_append]
      rw [OR, DR]
      refine ⟨vs.take l ++ us.take n ++ vs.drop (l + n), F1, [], hF, ?_, DRs.move hag hS hnew, hsz5, hm6⟩
      rw [hlen]
      have hfn : (flat (vs.take l ++ us.take n ++ vs.drop (l + n))).length = xs.length * i.size := by
        rw [flat_length hsz5]; congr 1; simp; omega
      refine .inr ⟨g, cp', _, e', fr, k0, k1, setRow_heap w g cur _ e' fr k2, ?_, ?_, hfn, ?_, k7⟩
      · rw [show (splice cur.toList (l * i.size) (flat (us.take n))).toArray.size = cur.size by simpa using hNs]; exact k3
      · rw [show (splice cur.toList (l * i.size) (flat (us.take n))).toArray.size = cur.size by simpa using hNs]; exact k4
      · rw [flat_append, flat_append] at hfn ⊢
        simp only [splice]
        rw [hA, hnewl, hB, ← List.append_assoc, List.take_append_of_le_length (by omega), List.take_of_length_le (by omega)]

end

end Go.AM
