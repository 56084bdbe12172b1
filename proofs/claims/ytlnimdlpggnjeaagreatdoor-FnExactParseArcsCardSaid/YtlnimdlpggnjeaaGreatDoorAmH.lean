/-
  The abstract machine, part H: slices that are made, appended to, converted.
-/
import Derived.Test.YtlnimdlpggnjeaaGreatDoorAmG
namespace Go.AM

section
variable {P : Program} {c : Ctx} {α : St} {a : Act} {w : World} {β : Nat → Value} {φ : Nat → List Nat} {ρ : Operand → V} {h : Nat → Option Ob} {o : Oper}

theorem OwnHead.new {sz n : Nat} {cs rest : List Value} {e : TypeId} {w : World} {cap : Nat} (hl : cs.length = n * sz) (hn : n ≤ cap) (hcm : cap ≤ 9223372036854775807) (hr : (cs ++ rest).length = cap * sz) :
    OwnHead (w.alloc (.cells (cs ++ rest).toArray e)) sz n cs (.slice (some ⟨w.heap.size, 0, none⟩) n cap) [w.heap.size] := by
  refine .inr ⟨w.heap.size, cap, _, e, (0, 0), rfl, ⟨hn, hcm⟩, heap_new w _, ?_, by simpa using hr, hl, ?_, rfl⟩
  · intro j _; omega
  · rw [← hl]; simp

theorem zeros_len (z : Array Value) (n : Nat) : (Builtin.zeroCells z n).size = n * z.size := by simp [Builtin.zeroCells]

theorem run_append_any {t e ty : TypeId} {sz bytes : Nat} (hty : SlotTy P t e sz bytes) (hb0 : 0 < bytes) {v : Value} {n : Nat} {cs : List Value} {F : List Nat} (hv : OwnHead w sz n cs v F)
    {ad : Option Addr} {m cap : Nat} {news : List Value} (hl : news.length = m * sz) (hsrc : news = [] ∨ ∃ b, ad = some b ∧ ∀ j u, news[j]? = some u → w.cell? (b.add j) = some u) (h1 : ∀ u ∈ news, u.oneCell' = true)
    (hbytes : (n + m) * bytes ≤ 140737488355328) :
    ∃ v' w' F', (Builtin.append_ #[t, t] ty #[v, .slice ad m cap]).run P w = .ok v' w' ∧ OwnHead w' sz (n + m) (cs ++ news) v' F' ∧ (∀ b ∈ F', b ∈ F ∨ w.heap.size ≤ b) ∧ F'.Nodup ∧
      w'.os = w.os ∧ w'.tape = w.tape ∧ w'.output = w.output ∧ w.heap.size ≤ w'.heap.size ∧ ∀ b, b < w.heap.size → b ∉ F → w'.heap[b]? = w.heap[b]? := by
  obtain ⟨i, z, ht, hi, hz, rfl, rfl, hzs, hsz⟩ := hty
  have hsmall : n + m ≤ 140737488355328 := by
    have : (n + m) * 1 ≤ (n + m) * i.bytes := Nat.mul_le_mul_left _ hb0
    omega
  have hm0 : news = [] → m = 0 := by
    intro hh
    have hl' : m * i.size = 0 := by rw [← hl, hh]; rfl
    rcases Nat.mul_eq_zero.1 hl' with h | h
    · exact h
    · omega
  have hfirst : ∀ w' : World, (∀ a, w'.cell? a = w.cell? a) → (Builtin.firstCells i.size m (.slice ad m cap)).run P w' = .ok news.toArray w' := by
    intro w' hw'
    rcases hsrc with rfl | ⟨b, rfl, hc⟩
    · have := hm0 rfl; subst this
      cases ad <;> simp [Builtin.firstCells, loadCells, loadCellsFrom]
    · exact run_firstCells_some (P := P) w' i.size m b m cap news hl (fun j u hj => by rw [hw']; exact hc j u hj)
  have hcs : cs.length = n * i.size := by
    rcases hv with ⟨_, rfl, rfl, _⟩ | ⟨g, c, cur, e', fr, _, _, _, _, _, h5, _⟩
    · simp
    · exact h5
  have hnew : ∀ (old : Nat), old < n + m → OwnHead (w.drew.alloc (.cells (cs.toArray ++ news.toArray ++ Builtin.zeroCells z.cells (grownCap w (n + m) old e - (n + m))) e)) i.size (n + m) (cs ++ news)
      (.slice (some ⟨w.heap.size, 0, none⟩) (n + m) (grownCap w (n + m) old e)) [w.heap.size] := by
    intro old ho
    have hge := grownCap_ge w (n + m) old e
    have := OwnHead.new (w := w.drew) (e := e) (n := n + m) (cap := grownCap w (n + m) old e) (sz := i.size) (cs := cs ++ news) (rest := (Builtin.zeroCells z.cells (grownCap w (n + m) old e - (n + m))).toList)
      (by rw [List.length_append, hcs, hl, Nat.add_mul]) hge (grownCap_le_maxLen w (n + m) old e (by unfold maxLen; omega)) (by
        rw [List.length_append, List.length_append, hcs, hl, Array.length_toList, zeros_len, hzs, ← Nat.add_mul, ← Nat.add_mul]
        congr 1; omega)
    have he : (cs ++ news ++ (Builtin.zeroCells z.cells (grownCap w (n + m) old e - (n + m))).toList).toArray = cs.toArray ++ news.toArray ++ Builtin.zeroCells z.cells (grownCap w (n + m) old e - (n + m)) := by
      apply Array.ext'; simp
    rw [he] at this
    exact this
  rcases hv with ⟨⟨a0, rfl⟩, rfl, rfl, rfl⟩ | ⟨g, cp, cur, e', fr, rfl, ⟨hnc, hncb⟩, hg, hfr, hcur, h5, h6, rfl⟩
  · cases a0 with
    | some a1 =>
      by_cases hm : m = 0
      · subst hm
        have hn : news = [] := List.eq_nil_of_length_eq_zero (by simpa using hl)
        subst hn
        refine ⟨.slice (some a1) 0 0, w, [], ?_, .inl ⟨⟨_, rfl⟩, rfl, rfl, rfl⟩, by simp, by simp, rfl, rfl, rfl, Nat.le_refl _, fun _ _ _ => rfl⟩
        have := hfirst w (fun _ => rfl)
        simp [Builtin.append_, run_underlying ht, sizeOf, typeInfo, hi, Builtin.lenOf, this, storeCells]
      · obtain ⟨b, rfl, hc⟩ := hsrc.resolve_left (fun hh => hm (hm0 hh))
        have hr := run_append_grow (P := P) w t ty e i z ht hi hz a1 0 0 [] (by simp) (fun j u hj => by simp at hj) b m cap news hl hc (by omega) (by omega) (growslice_fits (by omega) hbytes)
        exact ⟨_, _, [w.heap.size], hr, hnew 0 (by omega), by simp, by simp, rfl, rfl, rfl, by simp, fun b hb _ => RowKit.Below.heap_alloc w.drew _ b hb⟩
    | none =>
    by_cases hm : m = 0
    · subst hm
      have hn : news = [] := List.eq_nil_of_length_eq_zero (by simpa using hl)
      subst hn
      refine ⟨.slice none 0 0, w, [], ?_, .inl ⟨⟨none, rfl⟩, rfl, rfl, rfl⟩, by simp, by simp, rfl, rfl, rfl, Nat.le_refl _, fun _ _ _ => rfl⟩
      have := hfirst w (fun _ => rfl)
      simp [Builtin.append_, run_underlying ht, sizeOf, typeInfo, hi, Builtin.lenOf, this]
    · obtain ⟨b, rfl, hc⟩ := hsrc.resolve_left (fun hh => hm (hm0 hh))
      have hr := run_append_nil (P := P) w t ty e i z ht hi hz b m cap news hl hc (by omega) (by omega) (by have hb := hbytes; simp only [Nat.zero_add] at hb; omega)
      have := hnew 0 (by omega)
      simp only [Nat.zero_add, List.nil_append] at this hr ⊢
      refine ⟨_, _, [w.heap.size], hr, by simpa using this, by simp, by simp, rfl, rfl, rfl, by simp, fun b hb _ => by exact RowKit.Below.heap_alloc w.drew _ b hb⟩
  · by_cases hroom : n + m ≤ cp
    · have hfit : n * i.size + news.length ≤ cur.size := by rw [hl, hcur, ← Nat.add_mul]; exact Nat.mul_le_mul_right _ hroom
      have hst := run_storeCells_fr (P := P) g (n * i.size) e' fr news 0 cur w hg hfr (by simpa using hfit) h1
      simp only [Nat.add_zero] at hst
      have hf := hfirst w (fun _ => rfl)
      refine ⟨.slice (some ⟨g, 0, none⟩) (n + m) cp, w.setRow g (splice cur.toList (n * i.size) news).toArray, [g], ?_, ?_, by simp, by simp, rfl, rfl, rfl, by simp, ?_⟩
      · simp [Builtin.append_, run_underlying ht, sizeOf, typeInfo, hi, Builtin.lenOf, hroom, hf, add_block, hst, splice]
      · refine .inr ⟨g, cp, _, e', fr, rfl, ⟨hroom, hncb⟩, setRow_heap w g cur _ e' fr hg, ?_, ?_, by rw [List.length_append, hcs, hl, Nat.add_mul], ?_, rfl⟩
        · have : (splice cur.toList (n * i.size) news).toArray.size = cur.size := by simp [splice]; omega
          rw [this]; exact hfr
        · rw [← hcur]; simp [splice]; omega
        · simp only [splice]
          rw [h6, Nat.add_mul, ← hl, List.take_append_of_le_length (by simp [hcs]), List.take_of_length_le (by simp [hcs])]
      · intro b hb hx
        rw [setRow_other]
        intro e''; exact hx (by simp [e''])
    · have holds : ∀ j u, cs[j]? = some u → w.cell? ((⟨g, 0, none⟩ : Addr).add j) = some u := by
        intro j u hj
        rw [add_block, Nat.zero_add]
        rw [← h6, List.getElem?_take] at hj
        split at hj
        · simp [World.cell?, hg]; simpa using hj
        · cases hj
      have hm : m ≠ 0 := by omega
      obtain ⟨b, rfl, hc⟩ := hsrc.resolve_left (fun hh => hm (hm0 hh))
      have hr := run_append_grow (P := P) w t ty e i z ht hi hz ⟨g, 0, none⟩ n cp cs hcs holds b m cap news hl hc (by omega) (by omega) (growslice_fits (by omega) hbytes)
      exact ⟨_, _, [w.heap.size], hr, hnew cp (by omega), by simp, by simp, rfl, rfl, rfl, by simp, fun b hb _ => RowKit.Below.heap_alloc w.drew _ b hb⟩

theorem Src.sound (H : Rel c α a w β φ) (E : Env (Sof c α φ) w β φ ρ h a.eval) (hh : ∀ id ob, h id = some ob → α.ob id = some ob) {x : Operand} {sz : Nat} {ys : List D} {ks : List Nat} (hs : Src h (ρ x) sz ys ks) :
    ∃ ad cap us F, a.eval x = .slice ad ys.length cap ∧ DRs (Sof c α φ) w ys us F ∧ (∀ b ∈ F, ∃ k ∈ ks, ∃ ok, α.ob k = some ok ∧ b ∈ φ k) ∧ F.Nodup ∧ (∀ y ∈ us, y.cells.size = sz) ∧ (∀ y ∈ ys, y.mem = true) ∧
      (flat us = [] ∨ ∃ b, ad = some b ∧ ∀ j u, (flat us)[j]? = some u → w.cell? (b.add j) = some u) := by
  have hv := E.slots x
  have shared : ∀ {v}, DR (Sof c α φ) w (.slice false sz ys) v [] → ∃ ad cap us F, v = .slice ad ys.length cap ∧ DRs (Sof c α φ) w ys us F ∧ (∀ b ∈ F, ∃ k ∈ ([] : List Nat), ∃ ok, α.ob k = some ok ∧ b ∈ φ k) ∧ F.Nodup ∧ (∀ y ∈ us, y.cells.size = sz) ∧ (∀ y ∈ ys, y.mem = true) ∧
      (flat us = [] ∨ ∃ b, ad = some b ∧ ∀ j u, (flat us)[j]? = some u → w.cell? (b.add j) = some u) := by
    intro v hd
    rw [DR] at hd
    obtain ⟨_, ad, cp, h1, h2, h3⟩ := hd
    rcases h3 with rfl | ⟨b, off, vs, rfl, g1, g2, g3, g4, g5, g6⟩
    · exact ⟨ad, cp, [], [], h1, by rw [DRs]; exact ⟨rfl, rfl⟩, by simp, by simp, by simp, by simp, .inl rfl⟩
    · exact ⟨_, cp, vs, [], h1, g2, by simp, by simp, g3, g6, .inr ⟨_, rfl, fun j u hj => cell_at w b off _ g4 j u hj⟩⟩
  have own : ∀ {id xs'}, ρ x = .row id → h id = some (.row sz xs') → xs' = ys → ∃ ad cap us F1 F2, a.eval x = .slice ad ys.length cap ∧ φ id = F1 ++ F2 ∧ DRs (Sof c α φ) w ys us F2 ∧ (∀ y ∈ us, y.cells.size = sz) ∧ (∀ y ∈ ys, y.mem = true) ∧
      (flat us = [] ∨ ∃ b, ad = some b ∧ ∀ j u, (flat us)[j]? = some u → w.cell? (b.add j) = some u) := by
    rintro id xs' hr ho rfl
    rw [hr, VR] at hv
    have hrow := E.objs _ _ ho
    rw [OR, DR] at hrow
    obtain ⟨vs, F1, F2, hF, h3, h4, h5, h6⟩ := hrow
    rw [hv.1]
    rcases h3.cellsAt with ⟨e1, e2, a0, e3⟩ | ⟨g, cp, e1, e2, e3, e4, e5⟩
    · exact ⟨a0, 0, vs, F1, F2, by rw [e3, e2], hF, h4, h5, h6, .inl e1⟩
    · exact ⟨_, cp, vs, F1, F2, e1, hF, h4, h5, h6, .inr ⟨_, rfl, fun j u hj => cell_at w g 0 _ e3 j u hj⟩⟩
  generalize hq : ρ x = q at hs hv
  cases hs with
  | sh sz ys => rw [VR] at hv; exact shared hv
  | tight sz ys => rw [VR] at hv; exact shared hv.2
  | @row id _ _ ho hn =>
    obtain ⟨ad, cap, us, F1, F2, h1, h2, h3, h4, h5, h6⟩ := own hq ho rfl
    have := h3.noU hn
    subst this
    exact ⟨ad, cap, us, [], h1, h3, by simp, by simp, h4, h5, h6⟩
  | @rowK id _ _ ho =>
    obtain ⟨ad, cap, us, F1, F2, h1, h2, h3, h4, h5, h6⟩ := own hq ho rfl
    refine ⟨ad, cap, us, F2, h1, h3, fun b hb => ⟨id, by simp, _, hh _ _ ho, by rw [h2]; simp [hb]⟩, ?_, h4, h5, h6⟩
    have := H.nodup id _ (hh _ _ ho)
    rw [h2] at this
    exact (List.nodup_append.1 this).2.1
  | nil sz => rw [VR] at hv; exact ⟨none, 0, [], [], hv, by rw [DRs]; exact ⟨rfl, rfl⟩, by simp, by simp, by simp, by simp, .inl rfl⟩
  | @sub id _ l r xs ys ho hn h1 h2 hy =>
    subst hy
    rw [VR] at hv
    obtain ⟨ad, n, cq, e1, _, _, e2⟩ := hv
    have hrow := E.objs _ _ ho
    rw [OR, DR] at hrow
    obtain ⟨vs, F1, F2, hF, h3, h4, h5, h6⟩ := hrow
    have hl' : ((xs.take r).drop l).length = r - l := by simp; omega
    have := h4.noU hn
    subst this
    have hd : DRs (Sof c α φ) w ((xs.take r).drop l) ((vs.take r).drop l) [] := by
      have := DRs_take_drop h4 l (r - l)
      rwa [← List.drop_take, ← List.drop_take] at this
    refine ⟨_, cq - l, (vs.take r).drop l, [], by rw [hl']; exact e2, hd, by simp, by simp, fun y hy => h5 y (List.mem_of_mem_take (List.mem_of_mem_drop hy)), fun y hy => h6 y (List.mem_of_mem_take (List.mem_of_mem_drop hy)), ?_⟩
    rcases h3.cellsAt with ⟨g1, g2, _⟩ | ⟨g, cp, g1, g2, g3, g4, g5⟩
    · have : xs = [] := List.eq_nil_of_length_eq_zero g2
      subst this
      have : vs = [] := by have := DRs_length h4; exact List.eq_nil_of_length_eq_zero (by simpa using this)
      subst this
      exact .inl (by simp [flat])
    · rw [g1] at e1
      obtain ⟨rfl, rfl, rfl⟩ : some (⟨g, 0, none⟩ : Addr) = ad ∧ xs.length = n ∧ cp = cq := by simpa using e1
      by_cases hlr : l = r
      · subst hlr; exact .inl (by simp [flat])
      · have hc : ¬ cp = l := by omega
        refine .inr ⟨⟨g, l * sz, none⟩, by simp [hc, add_block], fun j u hj => ?_⟩
        have := cells_sub h5 h1 (by rw [DRs_length h4]; exact h2) g3
        rw [Nat.zero_add] at this
        exact cell_at w g (l * sz) _ this j u hj

theorem DRs_cells_one {S w} : ∀ {ds : List D} {vs F}, DRs S w ds vs F → (∀ y ∈ ds, y.mem = true) → ∀ u ∈ flat vs, u.oneCell' = true
  | [], vs, F, hd, _ => by rw [DRs] at hd; rw [hd.1]; simp [flat]
  | d :: ds, vs, F, hd, hm => by
    rw [DRs] at hd
    obtain ⟨v, ws, F1, F2, rfl, _, h1, h2⟩ := hd
    intro u hu
    rw [show flat (v :: ws) = v.cells.toList ++ flat ws from rfl] at hu
    rcases List.mem_append.1 hu with hu | hu
    · have hmd := hm d (by simp)
      have hone : ∀ x ∈ cellsD d, x.one = true := by
        intro x hx
        cases d with
        | agg cs => rw [DR] at h1; exact h1.1 x hx
        | tup => simp [D.mem] at hmd
        | map => simp [D.mem] at hmd
        | any => simp [D.mem] at hmd
        | _ => simp [cellsD] at hx; subst hx; rfl
      have hc := DR_cells h1 hmd
      obtain ⟨i, hi⟩ := List.mem_iff_getElem?.1 hu
      have hil : i < (cellsD d).length := by rw [← DRs_length hc]; exact (List.getElem?_eq_some_iff.1 hi).1
      obtain ⟨q', F3, g1, g2, _⟩ := DRs_get hc (List.getElem?_eq_getElem hil)
      rw [hi] at g1; cases g1
      exact (cells_of_one (hone _ (List.getElem_mem hil)) g2).2
    · exact DRs_cells_one h2 (fun y hy => hm y (by simp [hy])) u hu

theorem OwnHead.slice {w sz n cs v F} (h : OwnHead w sz n cs v F) : ∃ a n c, v = .slice a n c := by
  rcases h with ⟨⟨a0, h⟩, _⟩ | ⟨g, c, cur, e, fr, h, _⟩
  · exact ⟨_, _, _, h⟩
  · exact ⟨_, _, _, h⟩

theorem goes_append (H : Rel c α a w β φ) (E : Env (Sof c α φ) w β φ ρ h a.eval) (hh : ∀ id ob, h id = some ob → α.ob id = some ob) (hd : ∀ d, o.dst = some d → d < α.n) {s x : Operand} {t e : TypeId} {n sz bytes : Nat} {xs ys : List D} {k1 k2 : List Nat}
    (ho : o.op = .call { callee := .builtin .append, args := #[s, x], argTypes := #[t, t] }) (hty : SlotTy P t e sz bytes) (hb0 : 0 < bytes) (hs : Src h (ρ s) sz xs k1) (hs' : ρ s = .c (.slice none 0 0) ∨ ∃ id, ρ s = .row id ∧ k1 = [id]) (hx : Src h (ρ x) sz ys k2)
    (hk : ∀ k ∈ k1, k ∉ k2) (hbytes : (xs.length + ys.length) * bytes ≤ 140737488355328) (hn : n ∉ α.ids) :
    Goes P c o a w (α.app o.dst (.row n) { kill := k1 ++ k2, set := [(n, .row sz (xs ++ ys))], new := [n] }) := by
  obtain ⟨ad, cap, us, F', h1, h2, h3, h4, h5, h6, h7⟩ := hx.sound H E hh
  have hy1 := DRs_cells_one h2 h6
  have hyl : (flat us).length = ys.length * sz := by rw [flat_length h5, DRs_length h2]
  have hsv : ∃ vs F1 F2, OwnHead w sz xs.length (flat vs) (a.eval s) F1 ∧ DRs (Sof c α φ) w xs vs F2 ∧ (∀ y ∈ vs, y.cells.size = sz) ∧ (∀ y ∈ xs, y.mem = true) ∧ (∀ b ∈ F1 ++ F2, ∃ k ∈ k1, ∃ ok, α.ob k = some ok ∧ b ∈ φ k) ∧ (F1 ++ F2).Nodup := by
    have hv := E.slots s
    rcases hs' with hq | ⟨id, hq, rfl⟩
    · rw [hq] at hs hv
      cases hs
      rw [VR] at hv
      exact ⟨[], [], [], .inl ⟨⟨none, hv⟩, rfl, rfl, rfl⟩, by rw [DRs]; exact ⟨rfl, rfl⟩, by simp, by simp, by simp, by simp⟩
    · rw [hq] at hs hv
      cases hs
      rename_i hob
      rw [VR] at hv
      have hrow := E.objs _ _ hob
      rw [OR, DR] at hrow
      obtain ⟨vs, F1, F2, hF, g3, g4, g5, g6⟩ := hrow
      refine ⟨vs, F1, F2, by rw [hv.1]; exact g3, g4, g5, g6, fun b hb => ⟨id, by simp, _, hh _ _ hob, by rw [hF]; exact hb⟩, ?_⟩
      rw [← hF]; exact H.nodup id _ (hh _ _ hob)
  obtain ⟨vs, F1, F2, g1, g2, g3, g4, g5, g6⟩ := hsv
  obtain ⟨v', w', F3, r1, r2, r3, r4, r5, r6, r7, r8, r9⟩ := run_append_any (P := P) (ty := o.type) hty hb0 g1 hyl h7 hy1 hbytes (cap := cap)
  have hr : (execOp a.eval o).run P w = .ok (.value v') w' := by
    simp only [execOp, ho, resolve, invoke, builtin, Sem.run_bind, Sem.run_pure, Result.andThen_ok, List.map_toArray, List.map_cons, List.map_nil, h1, r1]
  have hF12 : ∀ b ∈ F1, b ∉ F2 := fun b hb hb' => (List.nodup_append.1 g6).2.2 b hb b hb' rfl
  have hF3lt : ∀ b, b ∈ F2 ++ F' → b < w.heap.size := fun b hb => by
    rcases List.mem_append.1 hb with hb | hb
    · exact DRs.lt g2 b hb
    · exact DRs.lt h2 b hb
  have hdis2 : ∀ b ∈ F1 ++ F2, b ∉ F' := fun b hb hb' => by
    obtain ⟨k, hk1, ok, hok, hm⟩ := g5 b hb
    obtain ⟨k', hk2, ok', hok', hm'⟩ := h3 b hb'
    exact H.apart k k' ok ok' hok hok' (fun e => hk k hk1 (e ▸ hk2)) b hm hm'
  have hnod : (F3 ++ (F2 ++ F')).Nodup := by
    rw [List.nodup_append]
    refine ⟨r4, ?_, ?_⟩
    · rw [List.nodup_append]
      exact ⟨(List.nodup_append.1 g6).2.1, h4, fun b hb b' hb' e => hdis2 b (List.mem_append_right _ hb) (e ▸ hb')⟩
    · intro b hb b' hb' e
      subst e
      rcases r3 b hb with hb1 | hb1
      · rcases List.mem_append.1 hb' with hb2 | hb2
        · exact hF12 b hb1 hb2
        · exact hdis2 b (List.mem_append_left _ hb1) hb2
      · have := hF3lt b hb'; omega
  refine goes_value hr (H.turn o.dst hd (k1 ++ k2) n hn (.row sz (xs ++ ys)) w' v' (F3 ++ (F2 ++ F')) r5 r6 r7 r8 ?_ ?_ hnod ?_ _ _ ?_)
  · intro b hb hx
    refine r9 b hb fun hm => ?_
    obtain ⟨k, hk1, ok, hok, hm'⟩ := g5 b (List.mem_append_left _ hm)
    exact hx k (List.mem_append_left _ hk1) ok hok hm'
  · intro b hb
    rcases List.mem_append.1 hb with hb | hb
    · rcases r3 b hb with hb1 | hb1
      · obtain ⟨k, hk1, ok, hok, hm'⟩ := g5 b (List.mem_append_left _ hb1)
        exact .inr ⟨k, List.mem_append_left _ hk1, ok, hok, hm'⟩
      · exact .inl hb1
    · rcases List.mem_append.1 hb with hb | hb
      · obtain ⟨k, hk1, ok, hok, hm'⟩ := g5 b (List.mem_append_right _ hb)
        exact .inr ⟨k, List.mem_append_left _ hk1, ok, hok, hm'⟩
      · obtain ⟨k, hk1, ok, hok, hm'⟩ := h3 b hb
        exact .inr ⟨k, List.mem_append_right _ hk1, ok, hok, hm'⟩
  · intro S' hS β' _
    rw [OR, DR]
    refine ⟨vs ++ us, F3, F2 ++ F', rfl, by rw [flat_append, List.length_append]; exact r2, ?_, ?_, ?_⟩
    · refine DRs_append (DRs.move (w := w) ⟨fun b hb hx => r9 b hb ?_, r8⟩ hS g2) (DRs.move (w := w) ⟨fun b hb hx => r9 b hb ?_, r8⟩ hS h2)
      · intro hm
        rcases hx with hx | hx
        · obtain ⟨k, _, ok, hok, hm'⟩ := g5 b (List.mem_append_left _ hm)
          exact hx (.inr ⟨k, ok, hok, hm'⟩)
        · exact hF12 b hm hx
      · intro hm
        rcases hx with hx | hx
        · obtain ⟨k, _, ok, hok, hm'⟩ := g5 b (List.mem_append_left _ hm)
          exact hx (.inr ⟨k, ok, hok, hm'⟩)
        · exact hdis2 b (List.mem_append_left _ hm) hx
    · intro y hy
      rcases List.mem_append.1 hy with hy | hy
      · exact g3 y hy
      · exact h5 y hy
    · intro y hy
      rcases List.mem_append.1 hy with hy | hy
      · exact g4 y hy
      · exact h6 y hy
  · intro S' hS β' hβ hβn
    rw [VR]
    exact ⟨hβn.symm, r2.slice⟩

end

end Go.AM
