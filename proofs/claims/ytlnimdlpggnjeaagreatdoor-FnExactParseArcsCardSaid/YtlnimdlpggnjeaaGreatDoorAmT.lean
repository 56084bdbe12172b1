/-
  The abstract machine, part T: own maps from texts to data, iterators over them.
-/
import Derived.Test.YtlnimdlpggnjeaaGreatDoorAmJ
import Derived.Maps.RangeRun
import Derived.MapKept
namespace Go.AM
open Go.ChangeMaps (setBlock)
open Go.MapKept

theorem Rel.gen {c α a w β φ} (h : Rel c α a w β φ) (dst : Option Nat) (hd : ∀ d, dst = some d → d < α.n) (u : Upd) (w' : World) (Hd : Nat → Value) (F : Nat → List Nat)
    (hos : w'.os = w.os) (htape : w'.tape = w.tape) (hout : w'.output = w.output) (hsize : w.heap.size ≤ w'.heap.size)
    (hblock : ∀ b, b < w.heap.size → (∀ k ok, α.ob k = some ok → (k ∈ u.kill ∨ ∃ o', (k, o') ∈ u.set) → b ∉ φ k) → w'.heap[b]? = w.heap[b]?)
    (hold : ∀ id o, (id, o) ∈ u.set → id ∈ α.ids → Hd id = β id)
    (hn : ∀ id o, (id, o) ∈ u.set → (F id).Nodup)
    (hap : ∀ i j oi oj, (i, oi) ∈ u.set → (j, oj) ∈ u.set → i ≠ j → ∀ b ∈ F i, b ∉ F j)
    (hF : ∀ id o, (id, o) ∈ u.set → ∀ b ∈ F id, w.heap.size ≤ b ∨ ∃ k ok, α.ob k = some ok ∧ b ∈ φ k ∧ (k ∈ u.kill ∨ ∃ o', (k, o') ∈ u.set))
    (ho : ∀ S' β', (∀ b, S' b → Sof c α φ b ∨ w.heap.size ≤ b) → (∀ i ∈ α.ids, β' i = β i) → (∀ id o, (id, o) ∈ u.set → β' id = Hd id) → ∀ id o, (id, o) ∈ u.set → OR S' w' β' o (Hd id) (F id))
    (v : V) (val : Value) (hv : ∀ S' β', (∀ b, S' b → Sof c α φ b ∨ w.heap.size ≤ b) → (∀ i ∈ α.ids, β' i = β i) → (∀ id o, (id, o) ∈ u.set → β' id = Hd id) → VR S' w' β' v val) :
    R c (α.app dst v u) (a.put dst val) w' := by
  classical
  let β' : Nat → Value := fun i => if (∃ o, (i, o) ∈ u.set) then Hd i else β i
  let φ' : Nat → List Nat := fun i => if (∃ o, (i, o) ∈ u.set) then F i else φ i
  have hb1 : ∀ id o, (id, o) ∈ u.set → β' id = Hd id := fun id o hm => if_pos ⟨o, hm⟩
  have hf1 : ∀ id o, (id, o) ∈ u.set → φ' id = F id := fun id o hm => if_pos ⟨o, hm⟩
  have hb2 : ∀ i ∈ α.ids, β' i = β i := fun i hi => by
    by_cases hm : ∃ o, (i, o) ∈ u.set
    · obtain ⟨o, hm⟩ := hm
      rw [hb1 i o hm]; exact hold i o hm hi
    · exact if_neg hm
  have hf2 : ∀ i, (∀ o, (i, o) ∉ u.set) → φ' i = φ i := fun i hm => if_neg (fun ⟨o, h⟩ => hm o h)
  have hsok : StepOK c α w β φ u w' β' φ' := by
    refine ⟨hos, htape, hout, hsize, ?_, ?_, hb2, fun i o _ hns => hf2 i hns, ?_, ?_, ?_, ?_⟩
    · intro b hb hx
      refine hblock b hb fun k ok hok haff hm => ?_
      rcases hx with hx | ⟨j, oj, hj, hnk, hns, hbj⟩
      · exact hx (.inr ⟨k, ok, hok, hm⟩)
      · refine h.apart j k oj ok hj hok ?_ b hbj hm
        rintro rfl
        rcases haff with h1 | ⟨o', h1⟩
        · exact hnk h1
        · exact hns o' h1
    · intro b hb hx
      refine hblock b (Nat.lt_of_lt_of_le hb h.keep.size) fun k ok hok _ hm => ?_
      rcases h.mine k ok hok b hm with h1 | h1
      · omega
      · exact hx h1
    · intro i oi hi _
      rw [hb1 i oi hi, hf1 i oi hi]
      refine ho _ β' ?_ hb2 hb1 i oi hi
      rintro b (hb | ⟨j, oj, hj, hb⟩)
      · exact .inl (.inl hb)
      · rcases Upd.ob_cases hj with hset | ⟨hj', _, hns⟩
        · rw [hf1 j oj hset] at hb
          rcases hF j oj hset b hb with h1 | ⟨k, ok, hok, hm, _⟩
          · exact .inr h1
          · exact .inl (.inr ⟨k, ok, hok, hm⟩)
        · rw [hf2 j hns] at hb
          exact .inl (.inr ⟨j, oj, hj', hb⟩)
    · intro i oi hi
      rw [hf1 i oi hi]; exact hn i oi hi
    · intro i j oi oj hi hj hij
      rw [hf1 i oi hi, hf1 j oj hj]; exact hap i j oi oj hi hj hij
    · intro i oi hi b hb
      rw [hf1 i oi hi] at hb
      exact hF i oi hi b hb
  exact ⟨β', φ', h.step hsok dst hd v val (hv _ β' (h.sof_sub hsok) hb2 hb1)⟩

theorem mkE_length : ∀ {ks : List (List UInt8)} {vs : List Value} {i : Nat}, vs.length = ks.length → (mkE i ks vs).length = ks.length
  | [], [], _, _ => rfl
  | [], _ :: _, _, h => by simp at h
  | _ :: _, [], _, h => by simp at h
  | k :: ks, v :: vs, i, h => by rw [mkE, List.length_cons, mkE_length (by simpa using h), List.length_cons]

theorem mkE_get : ∀ {ks : List (List UInt8)} {vs : List Value} {i j : Nat} {k v}, ks[j]? = some k → vs[j]? = some v → (mkE i ks vs)[j]? = some ⟨.string ⟨k.toArray⟩, v, i + j⟩
  | [], _, _, j, _, _, h, _ => by simp at h
  | _ :: _, [], _, j, _, _, _, h => by simp at h
  | k0 :: ks, v0 :: vs, i, 0, k, v, h1, h2 => by simp at h1 h2; subst h1; subst h2; rfl
  | k0 :: ks, v0 :: vs, i, j + 1, k, v, h1, h2 => by
    rw [mkE, List.getElem?_cons_succ, mkE_get (by simpa using h1) (by simpa using h2)]
    rw [show i + 1 + j = i + (j + 1) by omega]

theorem mkE_snoc : ∀ {ks : List (List UInt8)} {vs : List Value} {i : Nat} (k : List UInt8) (v : Value), vs.length = ks.length → mkE i (ks ++ [k]) (vs ++ [v]) = mkE i ks vs ++ [⟨.string ⟨k.toArray⟩, v, i + ks.length⟩]
  | [], [], i, k, v, _ => by simp [mkE]
  | [], _ :: _, _, _, _, h => by simp at h
  | _ :: _, [], _, _, _, h => by simp at h
  | k0 :: ks, v0 :: vs, i, k, v, h => by
    rw [List.cons_append, List.cons_append, mkE, mkE_snoc k v (by simpa using h), mkE, List.cons_append, List.length_cons, show i + 1 + ks.length = i + (ks.length + 1) by omega]

theorem mkE_mod : ∀ {ks : List (List UInt8)} {vs : List Value} {i j : Nat} (k : List UInt8) (v : Value), ks[j]? = some k → vs.length = ks.length →
    (mkE i ks vs).modify j (fun e => { key := .string ⟨k.toArray⟩, val := v, born := e.born }) = mkE i ks (vs.set j v)
  | [], _, _, j, _, _, h, _ => by simp at h
  | _ :: _, [], _, _, _, _, _, h => by simp at h
  | k0 :: ks, v0 :: vs, i, 0, k, v, h1, h2 => by simp at h1; subst h1; simp [mkE]
  | k0 :: ks, v0 :: vs, i, j + 1, k, v, h1, h2 => by
    rw [mkE, List.set_cons_succ, mkE, List.modify_succ_cons, mkE_mod k v (by simpa using h1) (by simpa using h2)]

theorem mkE_mem {ks : List (List UInt8)} {vs : List Value} {i : Nat} (hl : vs.length = ks.length) {e : MapEntry} (he : e ∈ mkE i ks vs) : ∃ j k v, j < ks.length ∧ ks[j]? = some k ∧ vs[j]? = some v ∧ e = ⟨.string ⟨k.toArray⟩, v, i + j⟩ := by
  obtain ⟨j, hj⟩ := List.mem_iff_getElem?.1 he
  have hj1 : j < ks.length := by rw [← mkE_length hl]; exact (List.getElem?_eq_some_iff.1 hj).1
  refine ⟨j, ks[j], vs[j], hj1, by simp, by simp, ?_⟩
  rw [mkE_get (by simp : ks[j]? = some ks[j]) (by simp : vs[j]? = some vs[j])] at hj
  exact (Option.some.inj hj).symm

def idxK (ks : List (List UInt8)) (k : List UInt8) : Option Nat := ks.findIdx? (fun x => decide (x = k))

theorem findNow_mkE (s : List UInt8) : ∀ {ks : List (List UInt8)} {vs : List Value} (i m : Nat), vs.length = ks.length →
    Instr.findNow .string (.string ⟨s.toArray⟩) (mkE i ks vs) m = some ((idxK ks s).bind fun j => (vs[j]?).map fun v => (m + j, v))
  | [], [], _, _, _ => rfl
  | [], _ :: _, _, _, h => by simp at h
  | _ :: _, [], _, _, h => by simp at h
  | k :: ks, v :: vs, i, m, h => by
    have hbe : ((⟨s.toArray⟩ : ByteArray) == ⟨k.toArray⟩) = decide (k = s) := by
      show (s.toArray == k.toArray) = decide (k = s)
      rw [Bool.eq_iff_iff]; simp; exact ⟨fun e => e.symm, fun e => e.symm⟩
    rw [mkE, Instr.findNow]
    simp only [Instr.sameNow, hbe]
    by_cases hk : k = s
    · subst hk; simp [idxK, List.findIdx?_cons]
    · simp only [hk, decide_false]
      rw [findNow_mkE s (i + 1) (m + 1) (by simpa using h)]
      have e1 : idxK (k :: ks) s = (idxK ks s).map (· + 1) := by simp [idxK, List.findIdx?_cons, hk]
      rw [e1]
      cases idxK ks s with
      | none => rfl
      | some j =>
        simp only [Option.map_some, Option.bind_some, List.getElem?_cons_succ]
        cases vs[j]? with
        | none => rfl
        | some v => simp; omega

theorem idxK_some {ks : List (List UInt8)} {k : List UInt8} {j : Nat} (h : idxK ks k = some j) : ks[j]? = some k := by
  unfold idxK at h
  rw [List.findIdx?_eq_some_iff_getElem] at h
  obtain ⟨h1, h2, _⟩ := h
  have : ks[j] = k := by simpa using h2
  rw [← this]; simp

theorem DRs_cut {S w} : ∀ {xs : List D} {vs F}, DRs S w xs vs F → ∀ {j : Nat} {y : D}, xs[j]? = some y →
    ∃ v Fj F', vs[j]? = some v ∧ DR S w y v Fj ∧ (∀ z u Fu, DR S w z u Fu → ∃ F2, DRs S w (xs.set j z) (vs.set j u) F2 ∧ F2.Perm (Fu ++ F')) ∧ (∀ z Fu, DR S w z v Fu → ∃ F2, DRs S w (xs.set j z) vs F2 ∧ F2.Perm (Fu ++ F')) ∧ F.Perm (Fj ++ F')
  | [], _, _, h, j, y, hj => by simp at hj
  | x :: xs, vs, F, h, j, y, hj => by
    rw [DRs] at h
    obtain ⟨v, vs', F1, F2, rfl, rfl, h1, h2⟩ := h
    cases j with
    | zero =>
      simp at hj; subst hj
      refine ⟨v, F1, F2, rfl, h1, fun z u Fu hz => ⟨Fu ++ F2, ?_, .refl _⟩, fun z Fu hz => ⟨Fu ++ F2, ?_, .refl _⟩, .refl _⟩
      · rw [List.set_cons_zero, List.set_cons_zero, DRs]; exact ⟨u, vs', Fu, F2, rfl, rfl, hz, h2⟩
      · rw [List.set_cons_zero, DRs]; exact ⟨v, vs', Fu, F2, rfl, rfl, hz, h2⟩
    | succ j =>
      obtain ⟨u0, Fj, F', g1, g2, g3, g4, g5⟩ := DRs_cut h2 (j := j) (y := y) (by simpa using hj)
      have pm : ∀ (A B C : List Nat), (A ++ (B ++ C)).Perm (B ++ (A ++ C)) := fun A B C => by
        rw [← List.append_assoc, ← List.append_assoc]; exact List.perm_append_comm.append_right C
      refine ⟨u0, Fj, F1 ++ F', by simpa using g1, g2, fun z u Fu hz => ?_, fun z Fu hz => ?_, (g5.append_left F1).trans (pm _ _ _)⟩
      · obtain ⟨F3, k1, k2⟩ := g3 z u Fu hz
        exact ⟨F1 ++ F3, by rw [List.set_cons_succ, List.set_cons_succ, DRs]; exact ⟨v, _, F1, F3, rfl, rfl, h1, k1⟩, (k2.append_left F1).trans (pm _ _ _)⟩
      · obtain ⟨F3, k1, k2⟩ := g4 z Fu hz
        exact ⟨F1 ++ F3, by rw [List.set_cons_succ, DRs]; exact ⟨v, vs', F1, F3, rfl, rfl, h1, k1⟩, (k2.append_left F1).trans (pm _ _ _)⟩

theorem DRs_snoc {S w} : ∀ {xs : List D} {vs F}, DRs S w xs vs F → ∀ {z : D} {u Fu}, DR S w z u Fu → DRs S w (xs ++ [z]) (vs ++ [u]) (F ++ Fu)
  | [], vs, F, h, z, u, Fu, hz => by
    rw [DRs] at h
    obtain ⟨rfl, rfl⟩ := h
    rw [List.nil_append, List.nil_append, List.nil_append, DRs]
    exact ⟨u, [], Fu, [], rfl, by simp, hz, by rw [DRs]; exact ⟨rfl, rfl⟩⟩
  | x :: xs, vs, F, h, z, u, Fu, hz => by
    rw [DRs] at h
    obtain ⟨v, vs', F1, F2, rfl, rfl, h1, h2⟩ := h
    rw [List.cons_append, List.cons_append, DRs]
    exact ⟨v, _, F1, F2 ++ Fu, rfl, by rw [List.append_assoc], h1, DRs_snoc h2 hz⟩

theorem noUs_at : ∀ {xs : List D}, noUs xs = true → ∀ {j : Nat} {y : D}, xs[j]? = some y → y.noU = true
  | [], _, j, y, h => by simp at h
  | x :: xs, hn, j, y, h => by
    rw [noUs, Bool.and_eq_true] at hn
    cases j with
    | zero => simp at h; subst h; exact hn.1
    | succ j => exact noUs_at hn.2 (by simpa using h)

def MapTy (P : Program) (t e : TypeId) : Prop := ∃ k, P.underlying t = some (.map k e) ∧ P.underlying k = some .string

section
variable {P : Program} {c : Ctx} {α : St} {a : Act} {w : World} {β : Nat → Value} {φ : Nat → List Nat} {ρ : Operand → V} {h : Nat → Option Ob} {o : Oper}

theorem goes_makeMap (H : Rel c α a w β φ) (hd : ∀ d, o.dst = some d → d < α.n) {n : Nat} {t : TypeId} (ho : o.op = .makeMap t none) (hn : n ∉ α.ids) :
    Goes P c o a w (α.app o.dst (.mp n) { set := [(n, .mapo [] [])], new := [n] }) := by
  have hr : (execOp a.eval o).run P w = .ok (.value (.map (some w.heap.size))) (w.alloc (.map #[] 0)) := by
    simp [execOp, ho, Instr.makeMap]
  refine goes_value hr (H.new o.dst hd n hn (.mapo [] []) (w.alloc (.map #[] 0)) (.map (some w.heap.size)) [w.heap.size] rfl rfl rfl (by simp) (fun b hb => heap_old w _ b hb) (by simp) (by simp) ?_ _ _ ?_)
  · intro S' hS β' hβ
    rw [OR, DR]
    exact ⟨w.heap.size, [], [], rfl, by rw [heap_new]; rfl, rfl, rfl, by rw [DRs]; exact ⟨rfl, rfl⟩⟩
  · intro S' hS β' hβ hβn
    rw [VR]; exact hβn.symm

theorem Rel.map_at (H : Rel c α a w β φ) {id : Nat} {ks : List (List UInt8)} {xs : List D} (hob : α.ob id = some (.mapo ks xs)) :
    ∃ g vs F1, β id = .map (some g) ∧ w.heap[g]? = some (.map (List.toArray (mkE 0 ks vs)) ks.length) ∧ ks.length = xs.length ∧ φ id = g :: F1 ∧ DRs (Sof c α φ) w xs vs F1 ∧ vs.length = ks.length := by
  have := H.objs _ _ hob
  rw [OR, DR] at this
  obtain ⟨g, vs, F1, h1, h2, h3, h4, h5⟩ := this
  exact ⟨g, vs, F1, h1, h2, h3, h4, h5, by rw [DRs_length h5, h3]⟩

theorem goes_range (H : Rel c α a w β φ) (E : Env (Sof c α φ) w β φ ρ h a.eval) (hh : ∀ id ob, h id = some ob → α.ob id = some ob) (hd : ∀ d, o.dst = some d → d < α.n) {n : Nat} {t e : TypeId} {x : Operand} {id : Nat} {ks : List (List UInt8)} {xs : List D}
    (ho : o.op = .range t x) (ht : MapTy P t e) (hx : ρ x = .mp id) (hob : h id = some (.mapo ks xs)) (hn : n ∉ α.ids) :
    Goes P c o a w (α.app o.dst (.ptr n 0) { set := [(n, .iter id ks.length (List.range ks.length) none)], new := [n] }) := by
  obtain ⟨kt, ht, _⟩ := ht
  obtain ⟨g, vs, F1, h1, h2, h3, h4, h5, h6⟩ := H.map_at (hh _ _ hob)
  have hxv := E.slots x
  rw [hx, VR, h1] at hxv
  have hid := (α.ob_ids (hh _ _ hob)).1
  have hr : (execOp a.eval o).run P w = .ok (.value (.pointer (some ⟨w.heap.size, 0, none⟩))) (w.alloc (.mapIter (some g) ks.length #[] ks.length)) := by
    simp [execOp, ho, Instr.range, run_underlying ht, hxv, getObj, Sem.run, h2, newObj]
  refine goes_value hr (H.new o.dst hd n hn _ (w.alloc (.mapIter (some g) ks.length #[] ks.length)) (.pointer (some ⟨w.heap.size, 0, none⟩)) [w.heap.size] rfl rfl rfl (by simp) (fun b hb => heap_old w _ b hb) (by simp) (by simp) ?_ _ _ ?_)
  · intro S' hS β' hβ
    exact ⟨w.heap.size, g, #[], rfl, by rw [hβ id hid]; exact h1, by rw [heap_new], ⟨by rw [List.filter_eq_self.2 (by simp)], rfl⟩, rfl⟩
  · intro S' hS β' hβ hβn
    rw [VR]
    exact ⟨w.heap.size, hβn, rfl⟩

def TakeK (ks : List (List UInt8)) (xs : List D) (s : List UInt8) (sz : Nat) (ys : List D) (xs' : List D) : Prop :=
  (∃ j, idxK ks s = some j ∧ xs[j]? = some (.slice true sz ys) ∧ xs' = xs.set j .any) ∨ (idxK ks s = none ∧ ys = [] ∧ xs' = xs)

theorem sliceHd_one {S w sz ys v F} (h : DR S w (.slice true sz ys) v F) : ∃ a n c, v = .slice a n c := by
  rw [DR] at h
  obtain ⟨vs, F1, F2, _, h1, _⟩ := h
  rcases h1 with ⟨⟨a0, rfl⟩, _⟩ | ⟨g, c, cur, e, fr, rfl, _⟩
  · exact ⟨_, _, _, rfl⟩
  · exact ⟨_, _, _, rfl⟩

theorem goes_lookup (H : Rel c α a w β φ) (E : Env (Sof c α φ) w β φ ρ h a.eval) (hh : ∀ id ob, h id = some ob → α.ob id = some ob) (hd : ∀ d, o.dst = some d → d < α.n) {n : Nat} {t e : TypeId} {x k : Operand} {id : Nat} {ks : List (List UInt8)} {xs xs' ys : List D} {s : List UInt8} {sz : Nat}
    (ho : o.op = .lookup t x k false) (ht : MapTy P t e) (hz : ∀ w, (zeroValue e).run P w = .ok (.slice none 0 0) w) (hx : ρ x = .mp id) (hob : h id = some (.mapo ks xs)) (hk : ρ k = .d (.str s)) (hy : TakeK ks xs s sz ys xs') (hn : n ∉ α.ids) :
    Goes P c o a w (α.app o.dst (.row n) { set := [(id, .mapo ks xs'), (n, .row sz ys)], new := [n] }) := by
  obtain ⟨kt, ht, hkt⟩ := ht
  have hob' := hh _ _ hob
  obtain ⟨g, vs, F1, h1, h2, h3, h4, h5, h6⟩ := H.map_at hob'
  have hxv := E.slots x
  rw [hx, VR, h1] at hxv
  have hkv := E.str hk
  have hid := (α.ob_ids hob').1
  have hne : id ≠ n := fun e => hn (e ▸ hid)
  have hfind := findNow_mkE s 0 0 h6
  have hchk : ∀ em, (Instr.checkKey em 10000 kt (.string ⟨s.toArray⟩)).run P w = .ok () w := fun em => run_checkKey hkt (by trivial) em 9999
  have hnd := H.nodup id _ hob'
  rw [h4] at hnd
  have key : ∃ v Fj F2, (execOp a.eval o).run P w = .ok (.value v) w ∧ DR (Sof c α φ) w (.slice true sz ys) v Fj ∧ DRs (Sof c α φ) w xs' vs F2 ∧ (Fj ++ F2).Perm F1 ∧ xs'.length = xs.length := by
    rcases hy with ⟨j, hj, hxj, rfl⟩ | ⟨hj, rfl, rfl⟩
    · obtain ⟨v, Fj, F', g1, g2, _, g4, g5⟩ := DRs_cut h5 hxj
      obtain ⟨F2, k1, k2⟩ := g4 .any [] (by rw [DR])
      refine ⟨v, Fj, F2, ?_, g2, k1, ((k2.append_left Fj).trans (by simp)).trans g5.symm, by simp⟩
      rw [hj, Option.bind_some, g1, Option.map_some] at hfind
      simp [execOp, ho, Instr.lookup, run_underlying ht, hxv, hkv, getObj, Sem.run, h2, hchk, run_findKey hkt hfind]
    · refine ⟨.slice none 0 0, [], F1, ?_, ?_, h5, by simp, rfl⟩
      · rw [hj, Option.bind_none] at hfind
        simp [execOp, ho, Instr.lookup, run_underlying ht, hxv, hkv, getObj, Sem.run, h2, hchk, run_findKey hkt hfind, hz]
      · exact nil_reads true sz
  obtain ⟨v, Fj, F2, hr, hv, hxs, hp, hlen⟩ := key
  obtain ⟨va, vn, vc, hve⟩ := sliceHd_one hv
  have hnd2 : (g :: (Fj ++ F2)).Nodup := by
    rw [List.nodup_cons] at hnd ⊢
    exact ⟨fun hm => hnd.1 (hp.subset hm), hp.nodup_iff.2 hnd.2⟩
  rw [List.nodup_cons, List.nodup_append] at hnd2
  obtain ⟨hg, hn1, hn2, hdj⟩ := hnd2
  refine goes_value hr (H.gen o.dst hd _ w (fun i => if i = n then v else β i) (fun i => if i = n then Fj else g :: F2) rfl rfl rfl (Nat.le_refl _) (fun _ _ _ => rfl) ?_ ?_ ?_ ?_ ?_ _ v ?_)
  · intro i oi hi him
    have : i ≠ n := fun e => hn (e ▸ him)
    simp [this]
  · intro i oi hi
    simp at hi
    rcases hi with ⟨rfl, _⟩ | ⟨rfl, _⟩
    · simp only [if_neg hne, List.nodup_cons]
      exact ⟨fun hm => hg (List.mem_append_right _ hm), hn2⟩
    · simpa using hn1
  · intro i j oi oj hi hj hij b hb hb'
    simp at hi hj
    rcases hi with ⟨rfl, _⟩ | ⟨rfl, _⟩ <;> rcases hj with ⟨rfl, _⟩ | ⟨rfl, _⟩
    · exact hij rfl
    · simp only [if_neg hne, if_true] at hb hb'
      rcases List.mem_cons.1 hb with rfl | hb
      · exact hg (List.mem_append_left _ hb')
      · exact hdj b hb' b hb rfl
    · simp only [if_neg hne, if_true] at hb hb'
      rcases List.mem_cons.1 hb' with rfl | hb'
      · exact hg (List.mem_append_left _ hb)
      · exact hdj b hb b hb' rfl
    · exact hij rfl
  · intro i oi hi b hb
    refine .inr ⟨id, _, hob', ?_, .inr ⟨.mapo ks xs', by simp⟩⟩
    rw [h4]
    simp at hi
    rcases hi with ⟨rfl, _⟩ | ⟨rfl, _⟩
    · simp only [if_neg hne] at hb
      rcases List.mem_cons.1 hb with rfl | hb
      · simp
      · exact List.mem_cons_of_mem _ (hp.subset (List.mem_append_right _ hb))
    · simp only [if_true] at hb
      exact List.mem_cons_of_mem _ (hp.subset (List.mem_append_left _ hb))
  · intro S' β' hS hβ hβ2 i oi hi
    have hag : ∀ F, Agree (Sof c α φ) F w w := fun F => ⟨fun _ _ _ => rfl, Nat.le_refl _⟩
    simp at hi
    rcases hi with ⟨rfl, rfl⟩ | ⟨rfl, rfl⟩
    · simp only [if_neg hne]
      rw [OR, DR]
      exact ⟨g, vs, F2, h1, h2, by rw [hlen]; exact h3, rfl, DRs.move (hag _) hS hxs⟩
    · simp only [if_true]
      exact DR.move (hag _) hS hv
  · intro S' β' hS hβ hβ2
    have := hβ2 n (.row sz ys) (by simp)
    simp only [if_true] at this
    rw [VR]
    exact ⟨this.symm, va, vn, vc, hve⟩

def PutK (ks : List (List UInt8)) (xs : List D) (s : List UInt8) (d : D) (ks' : List (List UInt8)) (xs' : List D) : Prop :=
  (∃ j y, idxK ks s = some j ∧ xs[j]? = some y ∧ y.noU = true ∧ ks' = ks ∧ xs' = xs.set j d) ∨ (idxK ks s = none ∧ ks' = ks ++ [s] ∧ xs' = xs ++ [d])

theorem goes_mapUpdate (H : Rel c α a w β φ) (E : Env (Sof c α φ) w β φ ρ h a.eval) (hh : ∀ id ob, h id = some ob → α.ob id = some ob) (hd : ∀ d, o.dst = some d → d < α.n) {t e : TypeId} {x k z : Operand} {id : Nat} {ks ks' : List (List UInt8)} {xs xs' : List D} {s : List UInt8} {d : D} {kk : List Nat}
    (ho : o.op = .mapUpdate t x k z ∨ o.op = .insert t x k z) (ht : MapTy P t e) (hx : ρ x = .mp id) (hob : h id = some (.mapo ks xs)) (hk : ρ k = .d (.str s)) (hz : Exp h (fun _ => none) (ρ z) d kk) (hkn : kk.Nodup) (hkid : id ∉ kk) (hy : PutK ks xs s d ks' xs') :
    Goes P c o a w (α.app o.dst .junk { kill := kk, set := [(id, .mapo ks' xs')] }) := by
  obtain ⟨kt, ht, hkt⟩ := ht
  have hob' := hh _ _ hob
  obtain ⟨g, vs, F1, h1, h2, h3, h4, h5, h6⟩ := H.map_at hob'
  have hxv := E.slots x
  rw [hx, VR, h1] at hxv
  have hkv := E.str hk
  have hid := (α.ob_ids hob').1
  have hfind := findNow_mkE s 0 0 h6
  have hchk : ∀ em, (Instr.checkKey em 10000 kt (.string ⟨s.toArray⟩)).run P w = .ok () w := fun em => run_checkKey hkt (by trivial) em 9999
  have hnd := H.nodup id _ hob'
  rw [h4, List.nodup_cons] at hnd
  have hks : ∀ k ∈ kk, ∃ ok, α.ob k = some ok := fun k hk' => by
    obtain ⟨ok, h1⟩ := Exp.ids hz k hk'
    exact ⟨ok, hh _ _ h1⟩
  have hdz : DR (Sof c α φ) w d (a.eval z) (kk.flatMap φ) := Exp.sound (S' := Sof c α φ) (fun _ _ h => h) E.objs (open_none (fun _ _ h => h)) hz (E.slots z)
  have hkf : (kk.flatMap φ).Nodup := flatMap_nodup H hkn hks
  have hkf2 : ∀ b ∈ kk.flatMap φ, b ∉ φ id := by
    intro b hb hb2
    obtain ⟨k, hk1, hm⟩ := List.mem_flatMap.1 hb
    obtain ⟨ok, hok⟩ := hks k hk1
    exact H.apart k id ok _ hok hob' (fun e => hkid (e ▸ hk1)) b hm hb2
  have key : ∃ vs' F2, (execOp a.eval o).run P w = .ok .skip (setBlock w g (.map (List.toArray (mkE 0 ks' vs')) ks'.length)) ∧ DRs (Sof c α φ) w xs' vs' F2 ∧ F2.Subset (kk.flatMap φ ++ F1) ∧ F2.Nodup ∧ ks'.length = xs'.length := by
    have hnd3 : (kk.flatMap φ ++ F1).Nodup := by
      rw [List.nodup_append]
      exact ⟨hkf, hnd.2, fun a ha b hb e => hkf2 a ha (by rw [h4, e]; exact List.mem_cons_of_mem _ hb)⟩
    rcases hy with ⟨j, y, hj, hxj, hyn, rfl, rfl⟩ | ⟨hj, rfl, rfl⟩
    · obtain ⟨v, Fj, F', g1, g2, g3, _, g5⟩ := DRs_cut h5 hxj
      obtain ⟨F2, k1, k2⟩ := g3 d (a.eval z) _ hdz
      have hFj := DR.noU hyn g2
      subst hFj
      rw [List.nil_append] at g5
      have hpp : F2.Perm (kk.flatMap φ ++ F1) := k2.trans (g5.symm.append_left _)
      have hks0 := idxK_some hj
      refine ⟨vs.set j (a.eval z), F2, ?_, k1, hpp.subset, hpp.nodup_iff.2 hnd3, by simpa using h3⟩
      rw [hj, Option.bind_some, g1, Option.map_some] at hfind
      have hstay : ∀ w : World, (Instr.keyThatStays (.string ⟨s.toArray⟩) (.string ⟨s.toArray⟩)).run P w = .ok (.string ⟨s.toArray⟩) w := fun w => run_keyThatStays (d := .string) (by trivial)
      have hge : (mkE 0 ks' vs)[j]? = some ⟨.string ⟨s.toArray⟩, v, 0 + j⟩ := mkE_get hks0 g1
      have hmod := mkE_mod (i := 0) s (a.eval z) hks0 h6
      rcases ho with ho | ho <;>
      · simp [execOp, ho, Instr.mapUpdate, run_underlying ht, hxv, hkv, getObj, Sem.run, h2, hchk, run_findKey hkt hfind, hge, hstay, setObj, hmod, setBlock]
    · refine ⟨vs ++ [a.eval z], F1 ++ kk.flatMap φ, ?_, DRs_snoc h5 hdz, ?_, List.perm_append_comm.nodup_iff.2 hnd3, by simp [h3]⟩
      · rw [hj, Option.bind_none] at hfind
        have hpush : (List.toArray (mkE 0 ks vs)).push ⟨.string ⟨s.toArray⟩, a.eval z, ks.length⟩ = List.toArray (mkE 0 (ks ++ [s]) (vs ++ [a.eval z])) := by
          rw [mkE_snoc s (a.eval z) h6]; simp
        rcases ho with ho | ho <;>
        · simp [execOp, ho, Instr.mapUpdate, run_underlying ht, hxv, hkv, getObj, Sem.run, h2, hchk, run_findKey hkt hfind, setObj, hpush, setBlock]
      · intro b hb
        rcases List.mem_append.1 hb with hb | hb
        · exact List.mem_append_right _ hb
        · exact List.mem_append_left _ hb
  obtain ⟨vs', F2, hr, hxs, hsub, hF2, hlen⟩ := key
  have hset := heap_set (o' := .map (List.toArray (mkE 0 ks' vs')) ks'.length) h2
  have hgF2 : g ∉ F2 := by
    intro hm
    rcases List.mem_append.1 (hsub hm) with hm | hm
    · exact hkf2 g hm (by rw [h4]; simp)
    · exact hnd.1 hm
  have hgS : Sof c α φ g := .inr ⟨id, _, hob', by rw [h4]; simp⟩
  refine goes_skip hr (H.gen o.dst hd _ (setBlock w g (.map (List.toArray (mkE 0 ks' vs')) ks'.length)) β (fun _ => g :: F2) rfl rfl rfl (by simp [setBlock]) ?_ (fun _ _ _ _ => rfl) ?_ ?_ ?_ ?_ _ _ ?_)
  · intro b hb hx
    refine hset.2 b fun e => ?_
    subst e
    exact hx id _ hob' (.inr ⟨.mapo ks' xs', by simp⟩) (by rw [h4]; simp)
  · intro i oi hi
    rw [List.nodup_cons]; exact ⟨hgF2, hF2⟩
  · intro i j oi oj hi hj hij
    simp at hi hj
    exact absurd (hi.1.trans hj.1.symm) hij
  · intro i oi hi b hb
    rcases List.mem_cons.1 hb with rfl | hb
    · exact .inr ⟨id, _, hob', by rw [h4]; simp, .inr ⟨.mapo ks' xs', by simp⟩⟩
    · rcases List.mem_append.1 (hsub hb) with hm | hm
      · obtain ⟨k, hk1, hm⟩ := List.mem_flatMap.1 hm
        obtain ⟨ok, hok⟩ := hks k hk1
        exact .inr ⟨k, ok, hok, hm, .inl hk1⟩
      · exact .inr ⟨id, _, hob', by rw [h4]; exact List.mem_cons_of_mem _ hm, .inr ⟨.mapo ks' xs', by simp⟩⟩
  · intro S' β' hS hβ hβ2 i oi hi
    simp at hi
    obtain ⟨rfl, rfl⟩ := hi
    rw [OR, DR]
    refine ⟨g, vs', F2, h1, hset.1, hlen, rfl, ?_⟩
    refine DRs.move (w := w) ⟨fun b hb hx => ?_, by simp [setBlock]⟩ hS hxs
    refine hset.2 b fun e => ?_
    subst e
    rcases hx with hx | hx
    · exact hx hgS
    · exact hgF2 hx
  · intro S' β' hS hβ hβ2
    rw [VR]; trivial

def lessJ (left : List Nat) (j : Nat) : List Nat := left.filter fun i => !(i == j)

theorem lessJ_lt {left : List Nat} {j : Nat} (h : j ∈ left) : (lessJ left j).length < left.length := by
  unfold lessJ
  rw [List.length_filter_lt_length_iff_exists]
  exact ⟨j, h, by simp⟩
theorem mem_lessJ {left : List Nat} {i j : Nat} : i ∈ lessJ left j ↔ i ∈ left ∧ i ≠ j := by simp [lessJ]

theorem Rel.it_at (H : Rel c α a w β φ) {it id nn : Nat} {left : List Nat} {cur : Option Nat} (hob : α.ob it = some (.iter id nn left cur)) :
    ∃ g r seen, β it = .pointer (some ⟨g, 0, none⟩) ∧ β id = .map (some r) ∧ w.heap[g]? = some (.mapIter (some r) nn seen nn) ∧ (left = (List.range nn).filter (fun i => !seen.contains i) ∧ seen.back? = cur) ∧ φ it = [g] := H.objs _ _ hob

theorem next_run (H : Rel c α a w β φ) (E : Env (Sof c α φ) w β φ ρ h a.eval) (hh : ∀ id ob, h id = some ob → α.ob id = some ob) {x : Operand} {it id nn : Nat} {left : List Nat} {ks : List (List UInt8)} {xs : List D} {cur : Option Nat}
    (ho : o.op = .next x false) (hx : ρ x = .ptr it 0) (hit : h it = some (.iter id nn left cur)) (hob : h id = some (.mapo ks xs)) (hn : nn = ks.length) :
    (left = [] ∧ (execOp a.eval o).run P w = .ok (.value (.tuple #[.bool false])) w) ∨
    ∃ j k v w1 g r seen vs F1, j ∈ left ∧ ks[j]? = some k ∧ vs[j]? = some v ∧ (w1 = w ∨ w1 = w.drew) ∧ β it = .pointer (some ⟨g, 0, none⟩) ∧ β id = .map (some r) ∧ φ it = [g] ∧ φ id = r :: F1 ∧ DRs (Sof c α φ) w xs vs F1 ∧ w.heap[g]? = some (.mapIter (some r) nn seen nn) ∧
      w.heap[r]? = some (.map (List.toArray (mkE 0 ks vs)) ks.length) ∧ vs.length = ks.length ∧ ks.length = xs.length ∧ lessJ left j = (List.range nn).filter (fun i => !(seen.push j).contains i) ∧
      (execOp a.eval o).run P w = .ok (.value (.tuple #[.bool true, .string ⟨k.toArray⟩, v])) (setBlock w1 g (.mapIter (some r) nn (seen.push j) nn)) := by
  obtain ⟨g, r, seen, b1, b2, b3, ⟨b4, _⟩, b5⟩ := H.it_at (hh _ _ hit)
  obtain ⟨g', vs, F1, h1, h2, h3, h4, h5, h6⟩ := H.map_at (hh _ _ hob)
  rw [b2] at h1
  obtain rfl : r = g' := by simpa using h1
  have hxv := E.slots x
  rw [hx, VR] at hxv
  obtain ⟨g2, e1, e2⟩ := hxv
  rw [b1] at e1
  obtain rfl : g = g2 := by simpa using e1
  have hborn : ∀ e ∈ (List.toArray (mkE 0 ks vs)).toList, e.born < nn := by
    intro e he
    obtain ⟨j, k, v, hj, _, _, rfl⟩ := mkE_mem h6 he
    simp; omega
  subst hn
  have hop : ∀ (w : World), (execOp a.eval o).run P w = ((Instr.next (.pointer (some ⟨g, 0, none⟩)) false o.type).run P w).andThen fun v w => .ok (.value v) w := by
    intro w
    simp [execOp, ho, e2]
  rcases run_next_at (P := P) w o.type g r ks.length ks.length seen _ ks.length b3 h2 hborn (Nat.le_refl _) with ⟨k1, k2⟩ | ⟨e, he, w1, hw1, k2⟩
  · refine .inl ⟨?_, by rw [hop, k2]; rfl⟩
    rw [b4, List.filter_eq_nil_iff]
    intro i hi
    have hil : i < ks.length := by simpa using hi
    have hL : leftOf (List.toArray (mkE 0 ks vs)) seen = #[] := Array.eq_empty_of_size_eq_zero k1
    unfold leftOf at hL
    rw [Array.filter_eq_empty_iff] at hL
    have := hL ⟨.string ⟨ks[i].toArray⟩, vs[i], 0 + i⟩ (by
      have := mkE_get (i := 0) (by simp : ks[i]? = some ks[i]) (by simp : vs[i]? = some vs[i])
      simpa using List.mem_of_getElem? this)
    simpa using this
  · unfold leftOf at he
    simp only [Array.toList_filter, List.mem_filter] at he
    obtain ⟨j, k, v, hj, hk, hv, rfl⟩ := mkE_mem h6 (by simpa using he.1)
    have hsn : (!seen.contains (0 + j)) = true := he.2
    rw [Nat.zero_add] at hsn k2
    refine .inr ⟨j, k, v, w1, g, r, seen, vs, F1, by rw [b4, List.mem_filter]; exact ⟨by simpa using hj, hsn⟩, hk, hv, hw1, b1, b2, b5, h4, h5, b3, h2, h6, h3, ?_, by rw [hop, k2]; rfl⟩
    rw [b4, lessJ, List.filter_filter]
    congr 1
    funext i
    cases hq : seen.contains i <;> cases hr : (i == j) <;> simp_all

theorem Rel.drew' (H : Rel c α a w β φ) {w1 : World} (hw : w1 = w ∨ w1 = w.drew) : Rel c α a w1 β φ := by
  rcases hw with rfl | rfl
  · exact H
  · exact H.drew _

theorem drew_heap {w w1 : World} (hw : w1 = w ∨ w1 = w.drew) : w1.heap = w.heap ∧ w1.os = w.os ∧ w1.tape = w.tape ∧ w1.output = w.output := by
  rcases hw with rfl | rfl <;> exact ⟨rfl, rfl, rfl, rfl⟩

theorem goes_next (H : Rel c α a w β φ) (E : Env (Sof c α φ) w β φ ρ h a.eval) (hh : ∀ id ob, h id = some ob → α.ob id = some ob) (hd : ∀ d, o.dst = some d → d < α.n) {x : Operand} {it id nn : Nat} {left : List Nat} {ks : List (List UInt8)} {xs : List D} {cur : Option Nat}
    (ho : o.op = .next x false) (hx : ρ x = .ptr it 0) (hit : h it = some (.iter id nn left cur)) (hob : h id = some (.mapo ks xs)) (hn : nn = ks.length) :
    (left = [] ∧ Goes P c o a w (α.put o.dst (.tup [.d (.bool false)]))) ∨
    ∃ j, j ∈ left ∧ j < ks.length ∧ Goes P c o a w (α.app o.dst (.tup [.d (.bool true), .junk, .junk]) { set := [(it, .iter id nn (lessJ left j) (some j))] }) := by
  rcases next_run (P := P) H E hh ho hx hit hob hn with ⟨h0, hr⟩ | ⟨j, k, v, w1, g, r, seen, vs, F1, hj, hk, hv, hw1, b1, b2, b5, h4, h5, b3, h2, h6, h3, hle, hr⟩
  · refine .inl ⟨h0, goes_value hr ⟨β, φ, H.pure o.dst hd _ _ ?_⟩⟩
    rw [VR]
    exact ⟨[.bool false], rfl, by rw [VRs]; exact ⟨_, _, rfl, by rw [VR, DR]; exact ⟨rfl, rfl⟩, by rw [VRs]⟩⟩
  · refine .inr ⟨j, hj, (List.getElem?_eq_some_iff.1 hk).1, ?_⟩
    obtain ⟨q1, q2, q3, q4⟩ := drew_heap hw1
    have hset := heap_set (o' := .mapIter (some r) nn (seen.push j) nn) b3
    refine goes_value hr (H.gen o.dst hd _ (setBlock w1 g (.mapIter (some r) nn (seen.push j) nn)) β (fun _ => [g]) q2 q3 q4 (by simp [setBlock, q1]) ?_ (fun _ _ _ _ => rfl) ?_ ?_ ?_ ?_ _ _ ?_)
    · intro b hb hx
      show (w1.heap.setIfInBounds g _)[b]? = _
      rw [q1]
      refine hset.2 b fun e => ?_
      subst e
      exact hx it _ (hh _ _ hit) (.inr ⟨.iter id nn (lessJ left j) (some j), by simp⟩) (by rw [b5]; simp)
    · intro i oi hi; simp
    · intro i i' oi oi' hi hi' hii
      simp at hi hi'
      exact absurd (hi.1.trans hi'.1.symm) hii
    · intro i oi hi b hb
      simp at hi hb
      obtain ⟨rfl, rfl⟩ := hi
      exact .inr ⟨i, _, hh _ _ hit, by rw [b5]; simpa using hb, .inr ⟨.iter id nn (lessJ left j) (some j), by simp⟩⟩
    · intro S' β' hS' hβ hβ2 i oi hi
      simp at hi
      obtain ⟨rfl, rfl⟩ := hi
      refine ⟨g, r, seen.push j, b1, ?_, ?_, ⟨hle, by simp⟩, rfl⟩
      · rw [hβ id (α.ob_ids (hh _ _ hob)).1]; exact b2
      · show (w1.heap.setIfInBounds g _)[g]? = _
        rw [q1]; exact hset.1
    · intro S' β' hS' hβ hβ2
      rw [VR]
      refine ⟨[.bool true, .string ⟨k.toArray⟩, v], rfl, ?_⟩
      rw [VRs]
      refine ⟨_, _, rfl, by rw [VR, DR]; exact ⟨rfl, rfl⟩, ?_⟩
      rw [VRs]
      refine ⟨_, _, rfl, by rw [VR]; trivial, ?_⟩
      rw [VRs]
      exact ⟨_, _, rfl, by rw [VR]; trivial, by rw [VRs]⟩

theorem mkE_born {ks : List (List UInt8)} {vs : List Value} (hl : vs.length = ks.length) : ((mkE 0 ks vs).map (·.born)).Nodup := by
  have gen : ∀ {ks : List (List UInt8)} {vs : List Value} (i : Nat), vs.length = ks.length → (mkE i ks vs).map (·.born) = List.range' i ks.length := by
    intro ks
    induction ks with
    | nil => intro vs i h; cases vs <;> simp [mkE]
    | cons k ks ih =>
      intro vs i h
      cases vs with
      | nil => simp at h
      | cons v vs => rw [mkE, List.map_cons, ih (i + 1) (by simpa using h), List.length_cons, List.range'_succ]
  rw [gen 0 hl]
  exact List.nodup_range'

theorem entry_run (H : Rel c α a w β φ) (E : Env (Sof c α φ) w β φ ρ h a.eval) (hh : ∀ id ob, h id = some ob → α.ob id = some ob) {x : Operand} {it id nn j : Nat} {left : List Nat} {ks : List (List UInt8)} {xs : List D} {k : List UInt8}
    (ho : o.op = .entry x) (hx : ρ x = .ptr it 0) (hit : h it = some (.iter id nn left (some j))) (hob : h id = some (.mapo ks xs)) (hn : nn = ks.length) (hk : ks[j]? = some k) :
    ∃ r v vs F1, β id = .map (some r) ∧ vs[j]? = some v ∧ φ id = r :: F1 ∧ DRs (Sof c α φ) w xs vs F1 ∧ w.heap[r]? = some (.map (List.toArray (mkE 0 ks vs)) ks.length) ∧ ks.length = xs.length ∧
      (execOp a.eval o).run P w = .ok (.value (.tuple #[.string ⟨k.toArray⟩, v])) w := by
  obtain ⟨g, r, seen, b1, b2, b3, ⟨b4, b6⟩, b5⟩ := H.it_at (hh _ _ hit)
  obtain ⟨g', vs, F1, h1, h2, h3, h4, h5, h6⟩ := H.map_at (hh _ _ hob)
  rw [b2] at h1
  obtain rfl : r = g' := by simpa using h1
  have hxv := E.slots x
  rw [hx, VR] at hxv
  obtain ⟨g2, e1, e2⟩ := hxv
  rw [b1] at e1
  obtain rfl : g = g2 := by simpa using e1
  subst hn
  have hj : j < vs.length := by rw [h6]; exact (List.getElem?_eq_some_iff.1 hk).1
  have hge : (mkE 0 ks vs)[j]? = some ⟨.string ⟨k.toArray⟩, vs[j], 0 + j⟩ := mkE_get hk (by simp)
  have hsn : seen = seen.pop.push j := by
    have hne : 0 < seen.size := by
      by_cases h0 : seen.size = 0
      · have : seen = #[] := Array.eq_empty_of_size_eq_zero h0
        rw [this] at b6; simp at b6
      · omega
    have hb : seen.back? = some j := b6
    apply Array.ext'
    rw [Array.toList_push, Array.toList_pop]
    have : seen.toList.getLast? = some j := by rw [← hb]; simp
    rw [List.getLast?_eq_some_iff] at this
    obtain ⟨ys, hys⟩ := this
    rw [hys]; simp
  refine ⟨r, vs[j], vs, F1, b2, by simp, h4, h5, h2, h3, ?_⟩
  rw [hsn] at b3
  have := run_entry_at (P := P) w g r ks.length seen.pop (List.toArray (mkE 0 ks vs)) ks.length ⟨.string ⟨k.toArray⟩, vs[j], j⟩ b3 h2 (by have := List.mem_of_getElem? hge; simpa using this) (mkE_born h6)
  simp [execOp, ho, e2, this]

theorem goes_entry (H : Rel c α a w β φ) (E : Env (Sof c α φ) w β φ ρ h a.eval) (hh : ∀ id ob, h id = some ob → α.ob id = some ob) (hd : ∀ d, o.dst = some d → d < α.n) {x : Operand} {it id nn j : Nat} {left : List Nat} {ks : List (List UInt8)} {xs : List D} {k : List UInt8} {y : D}
    (ho : o.op = .entry x) (hx : ρ x = .ptr it 0) (hit : h it = some (.iter id nn left (some j))) (hob : h id = some (.mapo ks xs)) (hn : nn = ks.length) (hk : ks[j]? = some k) (hy : xs[j]? = some y) (hnu : y.noU = true) :
    Goes P c o a w (α.app o.dst (.tup [.d (.str k), .d y]) {}) := by
  obtain ⟨r, v, vs, F1, b2, hv, h4, h5, h2, h3, hr⟩ := entry_run (P := P) H E hh ho hx hit hob hn hk
  obtain ⟨v', F', g1, g2, g3⟩ := DRs_get h5 hy
  rw [hv] at g1
  cases g1
  have hF' : F' = [] := DR.noU hnu g2
  subst hF'
  refine goes_value hr ⟨β, φ, H.pure o.dst hd _ _ ?_⟩
  rw [VR]
  refine ⟨[.string ⟨k.toArray⟩, v], rfl, ?_⟩
  rw [VRs]
  refine ⟨_, _, rfl, by rw [VR, DR]; exact ⟨rfl, rfl⟩, ?_⟩
  rw [VRs]
  exact ⟨_, _, rfl, by rw [VR]; exact g2, by rw [VRs]⟩

theorem goes_entryT (H : Rel c α a w β φ) (E : Env (Sof c α φ) w β φ ρ h a.eval) (hh : ∀ id ob, h id = some ob → α.ob id = some ob) (hd : ∀ d, o.dst = some d → d < α.n) {n : Nat} {x : Operand} {it id nn j sz : Nat} {left : List Nat} {ks : List (List UInt8)} {xs ys : List D} {k : List UInt8}
    (ho : o.op = .entry x) (hx : ρ x = .ptr it 0) (hit : h it = some (.iter id nn left (some j))) (hob : h id = some (.mapo ks xs)) (hn : nn = ks.length) (hk : ks[j]? = some k) (hy : xs[j]? = some (.slice true sz ys)) (hnew : n ∉ α.ids) :
    Goes P c o a w (α.app o.dst (.tup [.d (.str k), .row n]) { set := [(id, .mapo ks (xs.set j .any)), (n, .row sz ys)], new := [n] }) := by
  obtain ⟨r, v, vs, F1, b2, hv, h4, h5, h2, h3, hr⟩ := entry_run (P := P) H E hh ho hx hit hob hn hk
  have hob' := hh _ _ hob
  obtain ⟨v', Fj, F', g1, g2, _, g4, g5⟩ := DRs_cut h5 hy
  rw [hv] at g1
  cases g1
  obtain ⟨F2, k1, k2⟩ := g4 .any [] (by rw [DR])
  have hp : (Fj ++ F2).Perm F1 := ((k2.append_left Fj).trans (by simp)).trans g5.symm
  have hid := (α.ob_ids hob').1
  have hne : id ≠ n := fun e => hnew (e ▸ hid)
  have hnd := H.nodup id _ hob'
  rw [h4] at hnd
  have hnd2 : (r :: (Fj ++ F2)).Nodup := by
    rw [List.nodup_cons] at hnd ⊢
    exact ⟨fun hm => hnd.1 (hp.subset hm), hp.nodup_iff.2 hnd.2⟩
  rw [List.nodup_cons, List.nodup_append] at hnd2
  obtain ⟨hg, hn1, hn2, hdj⟩ := hnd2
  obtain ⟨va, vn, vc, hve⟩ := sliceHd_one g2
  have hag : ∀ F, Agree (Sof c α φ) F w w := fun F => ⟨fun _ _ _ => rfl, Nat.le_refl _⟩
  refine goes_value hr (H.gen o.dst hd _ w (fun i => if i = n then v else β i) (fun i => if i = n then Fj else r :: F2) rfl rfl rfl (Nat.le_refl _) (fun _ _ _ => rfl) ?_ ?_ ?_ ?_ ?_ _ _ ?_)
  · intro i oi hi him
    have : i ≠ n := fun e => hnew (e ▸ him)
    simp [this]
  · intro i oi hi
    simp at hi
    rcases hi with ⟨rfl, _⟩ | ⟨rfl, _⟩
    · simp only [if_neg hne, List.nodup_cons]
      exact ⟨fun hm => hg (List.mem_append_right _ hm), hn2⟩
    · simpa using hn1
  · intro i i' oi oj hi hj hij b hb hb'
    simp at hi hj
    rcases hi with ⟨rfl, _⟩ | ⟨rfl, _⟩ <;> rcases hj with ⟨rfl, _⟩ | ⟨rfl, _⟩
    · exact hij rfl
    · simp only [if_neg hne, if_true] at hb hb'
      rcases List.mem_cons.1 hb with rfl | hb
      · exact hg (List.mem_append_left _ hb')
      · exact hdj b hb' b hb rfl
    · simp only [if_neg hne, if_true] at hb hb'
      rcases List.mem_cons.1 hb' with rfl | hb'
      · exact hg (List.mem_append_left _ hb)
      · exact hdj b hb b hb' rfl
    · exact hij rfl
  · intro i oi hi b hb
    refine .inr ⟨id, _, hob', ?_, .inr ⟨.mapo ks (xs.set j .any), by simp⟩⟩
    rw [h4]
    simp at hi
    rcases hi with ⟨rfl, _⟩ | ⟨rfl, _⟩
    · simp only [if_neg hne] at hb
      rcases List.mem_cons.1 hb with rfl | hb
      · simp
      · exact List.mem_cons_of_mem _ (hp.subset (List.mem_append_right _ hb))
    · simp only [if_true] at hb
      exact List.mem_cons_of_mem _ (hp.subset (List.mem_append_left _ hb))
  · intro S' β' hS hβ hβ2 i oi hi
    simp at hi
    rcases hi with ⟨rfl, rfl⟩ | ⟨rfl, rfl⟩
    · simp only [if_neg hne]
      rw [OR, DR]
      exact ⟨r, vs, F2, b2, h2, by rw [List.length_set]; exact h3, rfl, DRs.move (hag _) hS k1⟩
    · simp only [if_true]
      exact DR.move (hag _) hS g2
  · intro S' β' hS hβ hβ2
    have := hβ2 n (.row sz ys) (by simp)
    simp only [if_true] at this
    rw [VR]
    refine ⟨[.string ⟨k.toArray⟩, v], rfl, ?_⟩
    rw [VRs]
    refine ⟨_, _, rfl, by rw [VR, DR]; exact ⟨rfl, rfl⟩, ?_⟩
    rw [VRs]
    refine ⟨_, _, rfl, ?_, by rw [VRs]⟩
    rw [VR]
    exact ⟨this.symm, va, vn, vc, hve⟩
end

end Go.AM
