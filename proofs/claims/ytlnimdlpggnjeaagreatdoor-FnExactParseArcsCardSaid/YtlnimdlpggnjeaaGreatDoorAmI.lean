/-
  The abstract machine, part I: slices that are made anew: append to a slice without room, literals, make, conversions between strings and bytes; a slice cut off at its length.
-/
import Derived.Test.YtlnimdlpggnjeaaGreatDoorAmH
namespace Go.AM

section
variable {P : Program} {c : Ctx} {α : St} {a : Act} {w : World} {β : Nat → Value} {φ : Nat → List Nat} {ρ : Operand → V} {h : Nat → Option Ob} {o : Oper}

theorem flatMap_nodup (H : Rel c α a w β φ) : ∀ {ks : List Nat}, ks.Nodup → (∀ k ∈ ks, ∃ ok, α.ob k = some ok) → (ks.flatMap φ).Nodup
  | [], _, _ => by simp
  | k :: ks, hn, hk => by
    rw [List.flatMap_cons, List.nodup_append]
    obtain ⟨ok, hok⟩ := hk k (by simp)
    have hn' := List.nodup_cons.1 hn
    refine ⟨H.nodup k ok hok, flatMap_nodup H hn'.2 (fun j hj => hk j (by simp [hj])), ?_⟩
    intro b hb b' hb' e
    subst e
    obtain ⟨j, hj, hm⟩ := List.mem_flatMap.1 hb'
    obtain ⟨oj, hoj⟩ := hk j (by simp [hj])
    exact H.apart k j ok oj hok hoj (fun e => hn'.1 (e ▸ hj)) b hb hm

theorem goes_appendT (H : Rel c α a w β φ) (E : Env (Sof c α φ) w β φ ρ h a.eval) (hh : ∀ id ob, h id = some ob → α.ob id = some ob) (hd : ∀ d, o.dst = some d → d < α.n) {s x : Operand} {t e : TypeId} {n sz bytes : Nat} {xs ys : List D} {k2 : List Nat}
    (ho : o.op = .call { callee := .builtin .append, args := #[s, x], argTypes := #[t, t] }) (hty : SlotTy P t e sz bytes) (hb0 : 0 < bytes) (hs : ρ s = .tight sz xs) (hx : Src h (ρ x) sz ys k2) (hne : ys ≠ [])
    (hbytes : (xs.length + ys.length) * bytes ≤ 140737488355328) (hn : n ∉ α.ids) :
    Goes P c o a w (α.app o.dst (.row n) { kill := k2, set := [(n, .row sz (xs ++ ys))], new := [n] }) := by
  obtain ⟨ad, cap, us, F', h1, h2, h3, h4, h5, h6, h7⟩ := hx.sound H E hh
  have hyl : (flat us).length = ys.length * sz := by rw [flat_length h5, DRs_length h2]
  have hv := E.slots s
  rw [hs, VR] at hv
  obtain ⟨⟨a0, e0⟩, hv2⟩ := hv
  have hv3 := hv2
  rw [DR] at hv3
  obtain ⟨_, a1, c1, e1, _, hx1⟩ := hv3
  have hvs : ∃ vs, DRs (Sof c α φ) w xs vs [] ∧ (∀ y ∈ vs, y.cells.size = sz) ∧ (∀ y ∈ xs, y.mem = true) ∧ (xs = [] ∨ ∃ b off, a0 = some ⟨b, off, none⟩ ∧ CellsAt w b off (flat vs)) := by
    rcases hx1 with rfl | ⟨b, off, vs, rfl, g1, g2, g3, g4, g5, g6⟩
    · exact ⟨[], by rw [DRs]; exact ⟨rfl, rfl⟩, by simp, by simp, .inl rfl⟩
    · rw [e0] at e1
      have : a0 = some ⟨b, off, none⟩ := by simpa using (Value.slice.inj e1).1
      exact ⟨vs, g2, g3, g6, .inr ⟨b, off, this, g4⟩⟩
  obtain ⟨vs, g1, g2, g3, g4⟩ := hvs
  obtain ⟨i, z, ht, hi, hz, rfl, rfl, hzs, hsz⟩ := hty
  have hsmall : xs.length + ys.length ≤ 140737488355328 := by
    have : (xs.length + ys.length) * 1 ≤ (xs.length + ys.length) * i.bytes := Nat.mul_le_mul_left _ hb0
    omega
  have hyp : 0 < ys.length := List.length_pos_iff.2 hne
  have hnews : flat us ≠ [] := by
    intro hf
    rw [hf] at hyl
    have : 0 < ys.length * i.size := Nat.mul_pos hyp hsz
    simp at hyl; omega
  obtain ⟨b, rfl, hc⟩ := h7.resolve_left hnews
  have hcs : (flat vs).length = xs.length * i.size := by rw [flat_length g2, DRs_length g1]
  have hrun : ∃ w' cap', (Builtin.append_ #[t, t] o.type #[.slice a0 xs.length xs.length, .slice (some b) ys.length cap]).run P w = .ok (.slice (some ⟨w.heap.size, 0, none⟩) (xs.length + ys.length) cap') w' ∧
      OwnHead w' i.size (xs.length + ys.length) (flat vs ++ flat us) (.slice (some ⟨w.heap.size, 0, none⟩) (xs.length + ys.length) cap') [w.heap.size] ∧ w'.os = w.os ∧ w'.tape = w.tape ∧ w'.output = w.output ∧ w.heap.size ≤ w'.heap.size ∧ ∀ b, b < w.heap.size → w'.heap[b]? = w.heap[b]? := by
    have hnew : OwnHead (w.drew.alloc (.cells ((flat vs).toArray ++ (flat us).toArray ++ Builtin.zeroCells z.cells (grownCap w (xs.length + ys.length) xs.length e - (xs.length + ys.length))) e)) i.size (xs.length + ys.length) (flat vs ++ flat us)
        (.slice (some ⟨w.heap.size, 0, none⟩) (xs.length + ys.length) (grownCap w (xs.length + ys.length) xs.length e)) [w.heap.size] := by
      have hge := grownCap_ge w (xs.length + ys.length) xs.length e
      have := OwnHead.new (w := w.drew) (e := e) (n := xs.length + ys.length) (cap := grownCap w (xs.length + ys.length) xs.length e) (sz := i.size) (cs := flat vs ++ flat us) (rest := (Builtin.zeroCells z.cells (grownCap w (xs.length + ys.length) xs.length e - (xs.length + ys.length))).toList)
        (by rw [List.length_append, hcs, hyl, Nat.add_mul]) hge (grownCap_le_maxLen w _ _ e (by have := Nat.le_mul_of_pos_right (xs.length + ys.length) hb0; unfold maxLen; omega)) (by
          simp only [List.length_append, hcs, hyl, Array.length_toList, zeros_len, hzs]
          rw [← Nat.add_mul, ← Nat.add_mul]
          congr 1; omega)
      have he : (flat vs ++ flat us ++ (Builtin.zeroCells z.cells (grownCap w (xs.length + ys.length) xs.length e - (xs.length + ys.length))).toList).toArray = (flat vs).toArray ++ (flat us).toArray ++ Builtin.zeroCells z.cells (grownCap w (xs.length + ys.length) xs.length e - (xs.length + ys.length)) := by
        apply Array.ext'; simp
      rw [he] at this
      exact this
    have hblk : ∀ (O : Obj) b, b < w.heap.size → (w.drew.alloc O).heap[b]? = w.heap[b]? := fun O b hb => RowKit.Below.heap_alloc w.drew O b hb
    cases a0 with
    | some ad0 =>
      have holds : ∀ j u, (flat vs)[j]? = some u → w.cell? (ad0.add j) = some u := by
        intro j u hj
        rcases g4 with rfl | ⟨b', off, e2, hc'⟩
        · rw [DRs] at g1; rw [g1.1] at hj; simp [flat] at hj
        · cases e2; exact cell_at w b' off _ hc' j u hj
      have hr := run_append_grow (P := P) w t o.type e i z ht hi hz ad0 xs.length xs.length (flat vs) hcs holds b ys.length cap (flat us) hyl hc (by omega) (by omega) (growslice_fits (by omega) hbytes)
      exact ⟨_, _, hr, hnew, rfl, rfl, rfl, by simp, hblk _⟩
    | none =>
      have hx0 : xs = [] := by
        rcases g4 with h | ⟨_, _, h, _⟩
        · exact h
        · cases h
      subst hx0
      rw [DRs] at g1
      obtain ⟨rfl, _⟩ := g1
      have hr := run_append_nil (P := P) w t o.type e i z ht hi hz b ys.length cap (flat us) hyl hc hyp (by simp at hsmall; omega) (by simp only [List.length_nil, Nat.zero_add] at hbytes; omega)
      have hf0 : flat ([] : List Value) = [] := rfl
      simp only [List.length_nil, Nat.zero_add, hf0, List.nil_append, Array.empty_append] at hnew ⊢
      exact ⟨_, _, hr, hnew, rfl, rfl, rfl, by simp, hblk _⟩
  obtain ⟨w', cap', r1, r2, r5, r6, r7, r8, r9⟩ := hrun
  have hr : (execOp a.eval o).run P w = .ok (.value (.slice (some ⟨w.heap.size, 0, none⟩) (xs.length + ys.length) cap')) w' := by
    simp only [execOp, ho, resolve, invoke, builtin, Sem.run_bind, Sem.run_pure, Result.andThen_ok, List.map_toArray, List.map_cons, List.map_nil, h1, e0, r1]
  refine goes_value hr (H.turn o.dst hd k2 n hn (.row i.size (xs ++ ys)) w' (.slice (some ⟨w.heap.size, 0, none⟩) (xs.length + ys.length) cap') ([w.heap.size] ++ F') r5 r6 r7 r8 (fun b hb _ => r9 b hb) ?_ ?_ ?_ _ _ ?_)
  · intro b hb
    rcases List.mem_append.1 hb with hb | hb
    · simp at hb; exact .inl (by omega)
    · exact .inr (h3 b hb)
  · rw [List.nodup_append]
    refine ⟨by simp, h4, fun b hb b' hb' e => ?_⟩
    simp at hb
    have := DRs.lt h2 b' hb'
    omega
  · intro S' hS β' _
    rw [OR, DR]
    refine ⟨vs ++ us, [w.heap.size], F', rfl, by rw [flat_append, List.length_append]; exact r2, ?_, ?_, ?_⟩
    · exact DRs_append (F := []) (DRs.move (w := w) ⟨fun b hb _ => r9 b hb, r8⟩ hS g1) (DRs.move (w := w) ⟨fun b hb _ => r9 b hb, r8⟩ hS h2)
    · intro y hy
      rcases List.mem_append.1 hy with hy | hy
      · exact g2 y hy
      · exact h5 y hy
    · intro y hy
      rcases List.mem_append.1 hy with hy | hy
      · exact g3 y hy
      · exact h6 y hy
  · intro S' hS β' hβ hβn
    rw [VR]
    exact ⟨hβn.symm, _, _, _, rfl⟩

theorem goes_tight (H : Rel c α a w β φ) (E : Env (Sof c α φ) w β φ ρ h a.eval) (hd : ∀ d, o.dst = some d → d < α.n) {t e : TypeId} {x mx : Operand} {lo hi : Option Operand} {sz : Nat} {xs : List D} (l r : Nat)
    (ho : o.op = .slice t x lo hi (some mx)) (ht : P.underlying t = some (.slice e)) (hsz : SizeIs P e sz) (hx : (ρ x = .d (.slice false sz xs)) ∨ ρ x = .tight sz xs ∨ (ρ x = .c (.slice none 0 0) ∧ xs = [])) (hl : bnd ρ lo 0 l) (hr : ∃ y, hi = some y ∧ bnd ρ hi 0 r) (hm : bnd ρ (some mx) 0 r) (h1 : l ≤ r) (h2 : r ≤ xs.length) :
    Goes P c o a w (α.app o.dst (.tight sz ((xs.take r).drop l)) {}) := by
  have hd0 : DR (Sof c α φ) w (.slice false sz xs) (a.eval x) [] := by
    have := E.slots x
    rcases hx with hq | hq | ⟨hq, rfl⟩
    · rw [hq, VR] at this; exact this
    · rw [hq, VR] at this; exact this.2
    · rw [hq, VR] at this; rw [this]; exact nil_reads false sz
  rw [DR] at hd0
  obtain ⟨_, ad, cp, g1, g2, g3⟩ := hd0
  obtain ⟨y, rfl, hr⟩ := hr
  have hb : (Instr.sliceBounds true xs.length cp (lo.map a.eval) (some (a.eval y)) (some (a.eval mx))).run P w = .ok (l, r, r) w := by
    obtain ⟨k2, m2, q2, rfl⟩ := hr
    obtain ⟨k3, m3, q3, rfl⟩ := hm
    have e2 := E.int q2
    have e3 := E.int q3
    have hrc : r ≤ cp := by omega
    rcases bnd_run (P := P) E hl h1 .slice3C with ⟨rfl, rfl⟩ | ⟨k, z, rfl, e1, r1⟩
    · simp [Instr.sliceBounds, Instr.sliceBound, e2, e3, asIntOf, hrc]
    · simp [Instr.sliceBounds, e2, e3]
      simp [Instr.sliceBound, asIntOf, hrc]
      rw [e1]; simp [h1]
  have hl' : ((xs.take r).drop l).length = r - l := by simp; omega
  have hrn : (execOp a.eval o).run P w = .ok (.value (.slice (if r = l then ad else ad.map (·.add (l * sz))) (r - l) (r - l))) w := by
    simp [execOp, ho, Instr.sliceAt, Instr.slice, run_underlying ht, g1, hb, run_sizeOf w hsz]
  refine goes_value hrn ⟨β, φ, H.pure o.dst hd _ _ ?_⟩
  rw [VR]
  refine ⟨⟨_, by rw [hl']⟩, ?_⟩
  rw [DR]
  refine ⟨rfl, _, r - l, by rw [hl'], by omega, ?_⟩
  rcases g3 with rfl | ⟨b, off, vs, rfl, k1, k2, k3, k4, k5, k6⟩
  · exact .inl (by simp)
  · by_cases hc : r = l
    · exact .inl (List.eq_nil_of_length_eq_zero (by omega))
    · refine .inr ⟨b, off + l * sz, (vs.take r).drop l, by simp [hc, add_block], k1, ?_, fun y hy => k3 y (List.mem_of_mem_take (List.mem_of_mem_drop hy)), ?_, k5, fun y hy => k6 y (List.mem_of_mem_take (List.mem_of_mem_drop hy))⟩
      · have := DRs_take_drop k2 l (r - l)
        rwa [← List.drop_take, ← List.drop_take] at this
      · intro j v hj
        have he : flat vs = flat (vs.take l) ++ flat (vs.drop l) := by rw [← flat_append, List.take_append_drop]
        have hlen : (flat (vs.take l)).length = l * sz := by
          have hle : l ≤ vs.length := by rw [DRs_length k2]; omega
          rw [flat_length (fun y hy => k3 y (List.mem_of_mem_take hy)), List.length_take, Nat.min_eq_left hle]
        have he2 : vs.drop l = (vs.take r).drop l ++ vs.drop r := by
          rw [List.drop_take]
          have : vs.drop r = (vs.drop l).drop (r - l) := by rw [List.drop_drop]; congr 1; omega
          rw [this, List.take_append_drop]
        have hj2 : (flat (vs.drop l))[j]? = some v := by
          rw [he2, flat_append, List.getElem?_append_left (by exact (List.getElem?_eq_some_iff.1 hj).1)]
          exact hj
        have := k4 (l * sz + j) v (by rw [he, List.getElem?_append_right (by omega), hlen]; rw [show l * sz + j - l * sz = j by omega]; exact hj2)
        rw [← this]; congr 2; omega

theorem fill_seq {sz : Nat} (place : Nat → Option (Nat × Nat)) (hp : ∀ i, place i = some (i * sz, sz)) (ev : Operand → Value) : ∀ (xs : List Operand) (k : Nat) (done rest : List Value), (∀ x ∈ xs, (ev x).cells.size = sz) →
    done.length = k * sz → rest.length = xs.length * sz → Instr.fill place (done ++ rest).toArray ((zipOps k xs).map fun p => (p.1, ev p.2)) = some (done ++ flat (xs.map ev)).toArray
  | [], k, done, rest, _, _, hr => by
    have : rest = [] := List.eq_nil_of_length_eq_zero (by simpa using hr)
    subst this
    simp [zipOps, Instr.fill, flat]
  | x :: xs, k, done, rest, hs, hd, hr => by
    have hx : (ev x).cells.size = sz := hs x (by simp)
    have hrl : rest.length = sz + xs.length * sz := by rw [hr, List.length_cons, Nat.succ_mul]; omega
    simp only [zipOps, List.map_cons, Instr.fill, hp]
    rw [if_neg (by simp [hx]; omega)]
    have he := foldl_set_splice (k * sz) (ev x).cells.toList 0 (done ++ rest).toArray (by simp; omega)
    have he2 : (Array.foldl (fun cs (x : Value × Nat) => cs.setIfInBounds (k * sz + x.2) x.1) (done ++ rest).toArray (ev x).cells.zipIdx) = (splice (done ++ rest) (k * sz) (ev x).cells.toList).toArray := by
      rw [← Array.foldl_toList, Array.toList_zipIdx]
      exact he
    have hsp : splice (done ++ rest) (k * sz) (ev x).cells.toList = (done ++ (ev x).cells.toList) ++ rest.drop sz := by
      unfold splice
      rw [← hd, List.take_left, List.drop_length_add_append]
      simp [hx]
    have ih := fill_seq place hp ev xs (k + 1) (done ++ (ev x).cells.toList) (rest.drop sz) (fun y hy => hs y (by simp [hy])) (by simp [hd, hx, Nat.succ_mul]) (by rw [List.length_drop, hrl]; omega)
    have hgoal : (Array.foldl (fun cs (x : Value × Nat) => cs.setIfInBounds (k * sz + x.2) x.1) (done ++ rest).toArray (ev x).cells.zipIdx) = (done ++ (ev x).cells.toList ++ rest.drop sz).toArray := by rw [he2, hsp]
    have hfl : flat ((x :: xs).map ev) = (ev x).cells.toList ++ flat (xs.map ev) := rfl
    rw [show flat (ev x :: List.map ev xs) = (ev x).cells.toList ++ flat (xs.map ev) from rfl, ← List.append_assoc, ← ih]
    congr 1

theorem zeros_list (z : Array Value) (n : Nat) : ((Array.range n).map (z[· % z.size]!)).toList.length = n := by simp

theorem goes_buildSlice (H : Rel c α a w β φ) (E : Env (Sof c α φ) w β φ ρ h a.eval) (hh : ∀ id ob, h id = some ob → α.ob id = some ob) (hd : ∀ d, o.dst = some d → d < α.n) {t e : TypeId} {len n sz bytes : Nat} {parts : Array (Nat × Operand)} {xs : List Operand} {ds : List D} {ks : List Nat}
    (ho : o.op = .buildSlice t len parts) (hty : SlotTy P t e sz bytes) (hp : parts.toList = zipOps 0 xs) (hlen : len = xs.length) (hx : Exps h (fun _ => none) (xs.map ρ) ds ks) (hk : ks.Nodup)
    (hds : (ds.all fun d => d.mem && Nat.beq (cellsD d).length sz) = true) (hsm : len * sz ≤ 16777216) (hn : n ∉ α.ids) :
    Goes P c o a w (α.app o.dst (.row n) { kill := ks, set := [(n, .row sz ds)], new := [n] }) := by
  obtain ⟨i, z, ht, hi, hz, rfl, rfl, hzs, hsz⟩ := hty
  have hvs : VRs (Sof c α φ) w β (xs.map ρ) (xs.map a.eval) := by
    clear hx hp hlen hsm
    induction xs with
    | nil => rw [List.map_nil, List.map_nil, VRs]
    | cons x xs ih => rw [List.map_cons, List.map_cons, VRs]; exact ⟨_, _, rfl, E.slots x, ih⟩
  have hdr := Exps.sound (S' := Sof c α φ) (fun _ _ h => h) E.objs (open_none (fun _ _ h => h)) hx hvs
  have hmem : ∀ y ∈ ds, y.mem = true := fun y hy => by have := List.all_eq_true.1 hds y hy; simp at this; exact this.1
  have hcl : ∀ y ∈ ds, (cellsD y).length = i.size := fun y hy => by have := List.all_eq_true.1 hds y hy; simp at this; exact this.2
  have hsizes : ∀ y ∈ xs.map a.eval, y.cells.size = i.size := by
    have aux : ∀ {ds : List D} {vs F}, DRs (Sof c α φ) w ds vs F → (∀ y ∈ ds, y.mem = true) → (∀ y ∈ ds, (cellsD y).length = i.size) → ∀ y ∈ vs, y.cells.size = i.size := by
      intro ds
      induction ds with
      | nil => intro vs F hd; rw [DRs] at hd; rw [hd.1]; simp
      | cons d ds ih =>
        intro vs F hd hm hc
        rw [DRs] at hd
        obtain ⟨v, ws, F1, F2, rfl, _, h1, h2⟩ := hd
        intro y hy
        rcases List.mem_cons.1 hy with rfl | hy
        · have := DRs_length (DR_cells h1 (hm d (by simp)))
          rw [← hc d (by simp)]; simpa using this
        · exact ih h2 (fun y hy => hm y (by simp [hy])) (fun y hy => hc y (by simp [hy])) y hy
    exact aux hdr hmem hcl
  have hdl : ds.length = xs.length := by have := DRs_length hdr; simpa using this.symm
  have hfl : (flat (xs.map a.eval)).length = xs.length * i.size := by rw [flat_length hsizes]; simp
  have hfill : ∀ (zero : Array Value), Instr.fill (fun j => some (j * i.size, i.size)) ((Array.range (len * i.size)).map (zero[· % zero.size]!)) (parts.toList.map fun p => (p.1, a.eval p.2)) = some (flat (xs.map a.eval)).toArray := by
    intro zero
    rw [hp]
    have := fill_seq (sz := i.size) (fun j => some (j * i.size, i.size)) (fun _ => rfl) a.eval xs 0 [] ((Array.range (len * i.size)).map (zero[· % zero.size]!)).toList (fun x hx => hsizes _ (List.mem_map.2 ⟨x, hx, rfl⟩)) (by simp) (by simp [hlen])
    rw [List.nil_append, Array.toArray_toList, List.nil_append] at this
    exact this
  have hr : (execOp a.eval o).run P w = .ok (.value (.slice (some ⟨w.heap.size, 0, none⟩) len len)) (w.alloc (.cells (flat (xs.map a.eval)).toArray e)) := by
    have hparts : (parts.map fun (x : Nat × Operand) => (x.1, a.eval x.2)).toList = parts.toList.map fun p => (p.1, a.eval p.2) := by simp
    by_cases h0 : len * i.size = 0
    · have := hfill #[]
      simp [execOp, ho, Instr.buildSlice, run_underlying ht, sizeOf, typeInfo, hi, h0, newRow]
      rw [h0] at this
      simp at this
      simp [this]
    · have := hfill z.cells
      have hs2 : ¬ (16777216 < len * i.size) := by omega
      simp [execOp, ho, Instr.buildSlice, run_underlying ht, sizeOf, typeInfo, zeroValue, hi, hz, h0, newRow, hs2]
      simp [this]
  have hks : ∀ k ∈ ks, ∃ ok, α.ob k = some ok := fun k hk' => by
    obtain ⟨ok, h1⟩ := Exps.ids hx k hk'
    exact ⟨ok, hh _ _ h1⟩
  have hFin : ∀ b ∈ ks.flatMap φ, ∃ k ∈ ks, ∃ ok, α.ob k = some ok ∧ b ∈ φ k := by
    intro b hb
    obtain ⟨k, hk1, hm⟩ := List.mem_flatMap.1 hb
    obtain ⟨ok, hok⟩ := hks k hk1
    exact ⟨k, hk1, ok, hok, hm⟩
  have hFn : (ks.flatMap φ).Nodup := flatMap_nodup H hk hks
  refine goes_value hr (H.turn o.dst hd ks n hn (.row i.size ds) (w.alloc (.cells (flat (xs.map a.eval)).toArray e)) (.slice (some ⟨w.heap.size, 0, none⟩) len len) ([w.heap.size] ++ ks.flatMap φ) rfl rfl rfl (by simp) (fun b hb _ => heap_old w _ b hb) ?_ ?_ ?_ _ _ ?_)
  · intro b hb
    rcases List.mem_append.1 hb with hb | hb
    · simp at hb; exact .inl (by omega)
    · exact .inr (hFin b hb)
  · rw [List.nodup_append]
    refine ⟨by simp, hFn, fun b hb b' hb' e => ?_⟩
    simp at hb
    have := DRs.lt hdr b' hb'
    omega
  · intro S' hS β' _
    rw [OR, DR]
    refine ⟨xs.map a.eval, [w.heap.size], _, rfl, ?_, ?_, hsizes, hmem⟩
    · have := OwnHead.new (w := w) (e := e) (n := len) (cap := len) (sz := i.size) (cs := flat (xs.map a.eval)) (rest := []) (by rw [hfl, hlen]) (Nat.le_refl _) (by have := Nat.le_mul_of_pos_right len hsz; omega) (by simp [hfl, hlen])
      simp only [List.append_nil] at this
      rw [hdl, ← hlen]
      exact this
    · exact DRs.move (w := w) ⟨fun b hb _ => heap_old w _ b hb, by simp⟩ hS hdr
  · intro S' hS β' hβ hβn
    rw [VR]
    exact ⟨hβn.symm, _, _, _, rfl⟩

end

end Go.AM
