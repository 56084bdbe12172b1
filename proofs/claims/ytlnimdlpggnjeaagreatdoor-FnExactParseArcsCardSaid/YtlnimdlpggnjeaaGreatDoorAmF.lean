/-
  The abstract machine, part F: operations that make or write memory.
-/
import Derived.Test.YtlnimdlpggnjeaaGreatDoorAmE
namespace Go.AM

def V.one : V → Bool
  | .d x => x.one
  | .c v => v.oneCell'
  | .tight _ _ | .ptr _ _ | .row _ | .el _ _ _ _ | .fn _ _ => true
  | .agg _ | .tup _ | .junk | .sub _ _ _ _ | .mp _ => false

inductive CellsV : V → List V → Prop
  | agg (vs : List V) (h1 : vs.all V.one = true) : CellsV (.agg vs) vs
  | aggD (ds : List D) : CellsV (.d (.agg ds)) (ds.map V.d)
  | one (v : V) (h1 : v.one = true) : CellsV v [v]

theorem VR_one {S w β v x} (h1 : v.one = true) (h : VR S w β v x) : x.cells = #[x] ∧ x.oneCell' = true := by
  cases v with
  | d y => rw [VR] at h; exact cells_of_one (by simpa [V.one] using h1) h
  | c u => rw [VR] at h; subst h; cases x <;> first | exact ⟨rfl, rfl⟩ | simp [V.one, Value.oneCell'] at h1
  | tight sz xs => rw [VR] at h; exact cells_of_one (d := .slice false sz xs) rfl h.2
  | ptr id off => rw [VR] at h; obtain ⟨g, _, rfl⟩ := h; exact ⟨rfl, rfl⟩
  | el id sz j off => rw [VR] at h; obtain ⟨g, _, _, _, rfl⟩ := h; exact ⟨rfl, rfl⟩
  | fn f cs => rw [VR] at h; obtain ⟨vs, rfl, _⟩ := h; exact ⟨rfl, rfl⟩
  | row id => rw [VR] at h; obtain ⟨_, a, n, c, rfl⟩ := h; exact ⟨rfl, rfl⟩
  | agg => simp [V.one] at h1
  | tup => simp [V.one] at h1
  | sub => simp [V.one] at h1
  | mp => simp [V.one] at h1
  | junk => simp [V.one] at h1

theorem VRs_one {S w β} : ∀ {cs ys}, (cs.all V.one) = true → VRs S w β cs ys → ∀ y ∈ ys, y.oneCell' = true
  | [], ys, _, h => by rw [VRs] at h; subst h; simp
  | c :: cs, ys, h1, h => by
    rw [VRs] at h
    obtain ⟨v, vs', rfl, h2, h3⟩ := h
    simp only [List.all_cons, Bool.and_eq_true] at h1
    intro y hy
    rcases List.mem_cons.1 hy with rfl | hy
    · exact (VR_one h1.1 h2).2
    · exact VRs_one h1.2 h3 y hy

theorem DRs_VRs {S w β} : ∀ {ds vs}, DRs S w ds vs [] → VRs S w β (ds.map V.d) vs
  | [], vs, h => by rw [DRs] at h; rw [List.map_nil, VRs]; exact h.1
  | d :: ds, vs, h => by
    rw [DRs] at h
    obtain ⟨v, vs', F1, F2, rfl, hF, h1, h2⟩ := h
    obtain ⟨rfl, rfl⟩ : F1 = [] ∧ F2 = [] := by simpa using hF.symm
    rw [List.map_cons, VRs]
    exact ⟨v, vs', rfl, by rw [VR]; exact h1, DRs_VRs h2⟩

theorem CellsV.sound {S w β v cs x} (hc : CellsV v cs) (h : VR S w β v x) : VRs S w β cs x.cells.toList ∧ cs.all V.one = true := by
  cases hc with
  | agg vs h1 => rw [VR] at h; obtain ⟨ys, rfl, h2⟩ := h; exact ⟨h2, h1⟩
  | aggD ds =>
    rw [VR, DR] at h
    obtain ⟨h1, ys, rfl, h2⟩ := h
    refine ⟨DRs_VRs h2, ?_⟩
    rw [List.all_eq_true]
    intro c hc
    obtain ⟨d, hd, rfl⟩ := List.mem_map.1 hc
    exact h1 d hd
  | one v h1 =>
    rw [(VR_one h1 h).1]
    refine ⟨?_, by simpa using h1⟩
    show VRs S w β [v] [x]
    rw [VRs]
    exact ⟨x, [], rfl, h, by rw [VRs]⟩

theorem heap_new (w : World) (o : Obj) : (w.alloc o).heap[w.heap.size]? = some o := heap_alloc_new w o
theorem heap_old (w : World) (o : Obj) (b : Nat) (hb : b < w.heap.size) : (w.alloc o).heap[b]? = w.heap[b]? := RowKit.Below.heap_alloc w o b hb

theorem Rel.set {c α a w β φ} (h : Rel c α a w β φ) (dst : Option Nat) (hd : ∀ d, dst = some d → d < α.n) (id : Nat) (o : Ob) (ho : α.ob id = some o) (o' : Ob) (w' : World)
    (hos : w'.os = w.os) (htape : w'.tape = w.tape) (hout : w'.output = w.output) (hsize : w.heap.size ≤ w'.heap.size)
    (hblock : ∀ b, b < w.heap.size → b ∉ φ id → w'.heap[b]? = w.heap[b]?)
    (hob : ∀ S', (∀ b, S' b → Sof c α φ b ∨ w.heap.size ≤ b) → OR S' w' β o' (β id) (φ id))
    (v : V) (val : Value) (hv : ∀ S', (∀ b, S' b → Sof c α φ b ∨ w.heap.size ≤ b) → VR S' w' β v val) :
    R c (α.app dst v { set := [(id, o')] }) (a.put dst val) w' := by
  have hsok : StepOK c α w β φ { set := [(id, o')] } w' β φ := by
    refine ⟨hos, htape, hout, hsize, ?_, ?_, fun _ _ => rfl, fun _ _ _ _ => rfl, ?_, ?_, ?_, ?_⟩
    · intro b hb hx
      refine hblock b hb fun hm => ?_
      rcases hx with hx | ⟨j, oj, hj, _, hns, hbj⟩
      · exact hx (.inr ⟨id, o, ho, hm⟩)
      · have hne : j ≠ id := fun e => hns o' (by simp [e])
        exact h.apart j id oj o hj ho hne b hbj hm
    · intro b hb hx
      refine hblock b (Nat.lt_of_lt_of_le hb h.keep.size) fun hm => ?_
      rcases h.mine id o ho b hm with h1 | h1
      · omega
      · exact hx h1
    · intro i oi hi _
      simp at hi
      obtain ⟨rfl, rfl⟩ := hi
      refine hob _ ?_
      rintro b (hb | ⟨j, oj, hj, hb⟩)
      · exact .inl (.inl hb)
      · rcases Upd.ob_cases hj with hset | ⟨hj', _, hns⟩
        · simp at hset
          obtain ⟨rfl, rfl⟩ := hset
          exact .inl (.inr ⟨j, o, ho, hb⟩)
        · exact .inl (.inr ⟨j, oj, hj', hb⟩)
    · intro i oi hi
      simp at hi
      obtain ⟨rfl, rfl⟩ := hi
      exact h.nodup i o ho
    · intro i j oi oj hi hj hij
      simp at hi hj
      exact absurd (hi.1.trans hj.1.symm) hij
    · intro i oi hi b hb
      simp at hi
      obtain ⟨rfl, rfl⟩ := hi
      exact .inr ⟨i, o, ho, hb, .inr ⟨oi, by simp⟩⟩
  exact ⟨β, φ, h.step hsok dst hd v val (hv _ (h.sof_sub hsok))⟩

theorem Rel.turn {c α a w β φ} (h : Rel c α a w β φ) (dst : Option Nat) (hd : ∀ d, dst = some d → d < α.n) (ks : List Nat) (id : Nat) (hid : id ∉ α.ids) (o : Ob) (w' : World) (hdr : Value) (F : List Nat)
    (hos : w'.os = w.os) (htape : w'.tape = w.tape) (hout : w'.output = w.output) (hsize : w.heap.size ≤ w'.heap.size)
    (hblock : ∀ b, b < w.heap.size → (∀ k ∈ ks, ∀ ok, α.ob k = some ok → b ∉ φ k) → w'.heap[b]? = w.heap[b]?)
    (hF : ∀ b ∈ F, w.heap.size ≤ b ∨ ∃ k ∈ ks, ∃ ok, α.ob k = some ok ∧ b ∈ φ k) (hn : F.Nodup)
    (ho : ∀ S', (∀ b, S' b → Sof c α φ b ∨ w.heap.size ≤ b) → ∀ β', (∀ i ∈ α.ids, β' i = β i) → OR S' w' β' o hdr F)
    (v : V) (val : Value) (hv : ∀ S', (∀ b, S' b → Sof c α φ b ∨ w.heap.size ≤ b) → ∀ β', (∀ i ∈ α.ids, β' i = β i) → β' id = hdr → VR S' w' β' v val) :
    R c (α.app dst v { kill := ks, set := [(id, o)], new := [id] }) (a.put dst val) w' := by
  have hob : α.ob id = none := by
    cases hx : α.ob id with
    | none => rfl
    | some o' => exact absurd (α.ob_ids hx).1 hid
  let β' : Nat → Value := fun i => if i = id then hdr else β i
  let φ' : Nat → List Nat := fun i => if i = id then F else φ i
  have hb1 : β' id = hdr := by simp [β']
  have hf1 : φ' id = F := by simp [φ']
  have hb2 : ∀ i ∈ α.ids, β' i = β i := fun i hi => by
    have : i ≠ id := fun e => hid (e ▸ hi)
    simp [β', this]
  have hsok : StepOK c α w β φ { kill := ks, set := [(id, o)], new := [id] } w' β' φ' := by
    refine ⟨hos, htape, hout, hsize, ?_, ?_, hb2, ?_, ?_, ?_, ?_, ?_⟩
    · intro b hb hx
      refine hblock b hb fun k hk ok hok hm => ?_
      rcases hx with hx | ⟨j, oj, hj, hnk, hns, hbj⟩
      · exact hx (.inr ⟨k, ok, hok, hm⟩)
      · have hne : j ≠ k := fun e => hnk (e ▸ hk)
        exact h.apart j k oj ok hj hok hne b hbj hm
    · intro b hb hx
      refine hblock b (Nat.lt_of_lt_of_le hb h.keep.size) fun k hk ok hok hm => ?_
      rcases h.mine k ok hok b hm with h1 | h1
      · omega
      · exact hx h1
    · intro i oi hi hns
      have : i ≠ id := fun e => by subst e; rw [hob] at hi; cases hi
      simp [φ', this]
    · intro i oi hi _
      simp at hi
      obtain ⟨rfl, rfl⟩ := hi
      rw [hb1, hf1]
      refine ho _ ?_ β' hb2
      rintro b (hb | ⟨j, oj, hj, hb⟩)
      · exact .inl (.inl hb)
      · rcases Upd.ob_cases hj with hset | ⟨hj', _, hns⟩
        · simp at hset
          obtain ⟨rfl, rfl⟩ := hset
          rw [hf1] at hb
          rcases hF b hb with h1 | ⟨k, _, ok, hok, hm⟩
          · exact .inr h1
          · exact .inl (.inr ⟨k, ok, hok, hm⟩)
        · have : j ≠ i := fun e => hns oi (by simp [e])
          simp [φ', this] at hb
          exact .inl (.inr ⟨j, oj, hj', hb⟩)
    · intro i oi hi
      simp at hi
      obtain ⟨rfl, rfl⟩ := hi
      rw [hf1]; exact hn
    · intro i j oi oj hi hj hij
      simp at hi hj
      exact absurd (hi.1.trans hj.1.symm) hij
    · intro i oi hi b hb
      simp at hi
      obtain ⟨rfl, rfl⟩ := hi
      rw [hf1] at hb
      rcases hF b hb with h1 | ⟨k, hk, ok, hok, hm⟩
      · exact .inl h1
      · exact .inr ⟨k, ok, hok, hm, .inl hk⟩
  exact ⟨β', φ', h.step hsok dst hd v val (hv _ (h.sof_sub hsok) β' hb2 hb1)⟩

theorem run_storeCells_fr {P : Program} (g o : Nat) (t : TypeId) (fr : Nat × Nat) : ∀ (vs : List Value) (i : Nat) (cur : Array Value) (w : World), w.heap[g]? = some (.cells cur t fr) → (∀ j, j < cur.size → ¬ (fr.1 ≤ j ∧ j < fr.2)) →
    o + i + vs.length ≤ cur.size → (∀ v ∈ vs, v.oneCell' = true) →
    (storeCells ⟨g, o, none⟩ vs i).run P w = .ok () (w.setRow g (cur.toList.take (o + i) ++ vs ++ cur.toList.drop (o + i + vs.length)).toArray)
  | [], i, cur, w, hg, _, _, _ => by
    simp only [storeCells, List.append_nil, List.length_nil, Nat.add_zero, List.take_append_drop, Array.toArray_toList]
    rw [setRow_self w g cur t fr hg]
    rfl
  | v :: rest, i, cur, w, hg, hfr, hl, h1 => by
    have hi : o + i < cur.size := by simp at hl; omega
    have hadd : (⟨g, o, none⟩ : Addr).add i = ⟨g, o + i, none⟩ := by unfold Addr.add; split <;> simp_all
    have hcell : w.cell? ⟨g, o + i, none⟩ = some cur[o + i] := by simp [World.cell?, hg, hi]
    have hfro : w.frozen? ⟨g, o + i, none⟩ = false := by
      have := hfr (o + i) hi
      simp only [World.frozen?, hg]
      rw [Bool.and_eq_false_iff]
      by_cases h1 : fr.1 ≤ o + i
      · exact .inr (by simp; omega)
      · exact .inl (by simp; omega)
    have hst : (store ((⟨g, o, none⟩ : Addr).add i) v).run P w = .ok () (w.setRow g (cur.setIfInBounds (o + i) v)) := by
      rw [hadd, run_store P w _ v _ (h1 v (by simp)), hcell]
      simp [hfro, setCell_eq_setRow w g (o + i) cur t fr v hg]
    have ih := run_storeCells_fr (P := P) g o t fr rest (i + 1) (cur.setIfInBounds (o + i) v) (w.setRow g (cur.setIfInBounds (o + i) v)) (setRow_heap w g cur _ t _ hg) (by simpa using hfr) (by simp at hl ⊢; omega) (fun x hx => h1 x (by simp [hx]))
    simp only [storeCells, Sem.run_bind, hst, Result.andThen_ok, ih, setRow_setRow]
    congr 3
    have e := list_seg_step cur.toList (o + i) v rest (by simp at hl ⊢; omega)
    simpa [Array.toList_setIfInBounds, Nat.add_assoc] using e

def zipOps (k : Nat) : List Operand → List (Nat × Operand)
  | [] => []
  | x :: xs => (k, x) :: zipOps (k + 1) xs

def splice {β : Type} (cs : List β) (off : Nat) (vs : List β) : List β := cs.take off ++ vs ++ cs.drop (off + vs.length)

def fillV (place : Nat → Option (Nat × Nat)) : List V → List (Nat × List V) → Option (List V)
  | cs, [] => some cs
  | cs, (i, vs) :: rest =>
    match place i with
    | none => none
    | some (off, size) => if vs.length = size ∧ off + vs.length ≤ cs.length then fillV place (splice cs off vs) rest else none

theorem VRs_append {S w β} : ∀ {cs cs' : List V} {vs vs'}, VRs S w β cs vs → VRs S w β cs' vs' → VRs S w β (cs ++ cs') (vs ++ vs')
  | [], cs', vs, vs', h, h' => by rw [VRs] at h; subst h; exact h'
  | c :: cs, cs', vs, vs', h, h' => by
    rw [VRs] at h
    obtain ⟨v, ws, rfl, h1, h2⟩ := h
    rw [List.cons_append, VRs]
    exact ⟨v, ws ++ vs', rfl, h1, VRs_append h2 h'⟩

theorem VRs_take {S w β} {cs : List V} {vs} (h : VRs S w β cs vs) (n : Nat) : VRs S w β (cs.take n) (vs.take n) := by
  have := VRs_take_drop h 0 n
  simpa using this
theorem VRs_drop {S w β} {cs : List V} {vs} (h : VRs S w β cs vs) (n : Nat) : VRs S w β (cs.drop n) (vs.drop n) := by
  have := VRs_take_drop h n cs.length
  rwa [List.take_of_length_le (by simp), List.take_of_length_le (by simp [VRs_length h])] at this

theorem VRs_splice {S w β} {cs us : List V} {vs ys} (h : VRs S w β cs vs) (h' : VRs S w β us ys) (off : Nat) : VRs S w β (splice cs off us) (splice vs off ys) := by
  unfold splice
  rw [VRs_length h']
  exact VRs_append (VRs_append (VRs_take h off) h') (VRs_drop h _)

theorem foldl_set_splice (off : Nat) : ∀ (us : List Value) (j : Nat) (cs : Array Value), off + j + us.length ≤ cs.size →
    (us.zipIdx j).foldl (fun cs p => cs.setIfInBounds (off + p.2) p.1) cs = (splice cs.toList (off + j) us).toArray
  | [], j, cs, _ => by simp [splice]
  | u :: us, j, cs, hl => by
    simp only [List.zipIdx_cons, List.foldl_cons]
    rw [foldl_set_splice off us (j + 1) _ (by simp at hl ⊢; omega)]
    congr 1
    have e := list_seg_step cs.toList (off + j) u us (by simp at hl ⊢; omega)
    unfold splice
    simpa [Array.toList_setIfInBounds, Nat.add_assoc] using e

inductive PartsV (ρ : Operand → V) : List (Nat × Operand) → List (Nat × List V) → Prop
  | nil : PartsV ρ [] []
  | cons {i x cs l l'} (h : CellsV (ρ x) cs) (r : PartsV ρ l l') : PartsV ρ ((i, x) :: l) ((i, cs) :: l')

theorem fill_sound {S w β ρ} {ev : Operand → Value} (hs : ∀ x, VR S w β (ρ x) (ev x)) (place : Nat → Option (Nat × Nat)) :
    ∀ {parts : List (Nat × Operand)} {pl : List (Nat × List V)}, PartsV ρ parts pl → ∀ {cs : List V} {zs : Array Value}, VRs S w β cs zs.toList → ∀ {res : List V}, fillV place cs pl = some res →
    ∃ ys, Instr.fill place zs (parts.map fun p => (p.1, ev p.2)) = some ys ∧ VRs S w β res ys.toList
  | _, _, .nil, cs, zs, hc, res, hf => by
    simp only [fillV, Option.some.injEq] at hf
    subst hf
    exact ⟨zs, rfl, hc⟩
  | _, _, .cons (i := i) (x := x) (cs := us) h r, cs, zs, hc, res, hf => by
    simp only [fillV] at hf
    simp only [List.map_cons, Instr.fill]
    cases hp : place i with
    | none => simp [hp] at hf
    | some q =>
      obtain ⟨off, size⟩ := q
      simp only [hp] at hf ⊢
      split at hf
      · rename_i hle
        obtain ⟨h1, _⟩ := h.sound (hs x)
        have hu : (ev x).cells.size = us.length := by have := VRs_length h1; simpa using this
        have hz : zs.size = cs.length := by have := VRs_length hc; simpa using this
        have hcond : (decide ((ev x).cells.size ≠ size) || decide (off + (ev x).cells.size > zs.size)) = false := by
          rw [Bool.or_eq_false_iff]
          exact ⟨by simp; omega, by simp; omega⟩
        rw [if_neg (by simpa [Bool.or_eq_false_iff] using hcond)]
        have he := foldl_set_splice off (ev x).cells.toList 0 zs (by simp; omega)
        have he2 : (Array.foldl (fun cs (x : Value × Nat) => cs.setIfInBounds (off + x.2) x.1) zs (ev x).cells.zipIdx) = (splice zs.toList off (ev x).cells.toList).toArray := by
          rw [← Array.foldl_toList, Array.toList_zipIdx]
          exact he
        have := fill_sound hs place r (cs := splice cs off us) (zs := (splice zs.toList off (ev x).cells.toList).toArray) (by simpa using VRs_splice hc h1 off) hf
        obtain ⟨ys, h2, h3⟩ := this
        refine ⟨ys, ?_, h3⟩
        rw [← h2]
        congr 1
      · cases hf

def StructIs (P : Program) (t : TypeId) (zs : List Value) (places : List (Nat × Nat)) : Prop :=
  ∃ it z fs, P.info? t = some it ∧ it.zero = some z ∧ P.underlying t = some (.struct fs) ∧
    fs.toList.mapM (fun f => (P.info? f.type).map fun i => (f.offset, i.size)) = some places ∧ z.cells = zs.toArray

theorem VRs_constV {S w β} : ∀ (zs : List Value), VRs S w β (zs.map constV0) zs := VRs_const0

inductive Src (h : Nat → Option Ob) : V → Nat → List D → List Nat → Prop
  | sh (sz : Nat) (xs : List D) : Src h (.d (.slice false sz xs)) sz xs []
  | tight (sz : Nat) (xs : List D) : Src h (.tight sz xs) sz xs []
  | row {id sz xs} (ho : h id = some (.row sz xs)) (hn : noUs xs = true) : Src h (.row id) sz xs []
  | rowK {id sz xs} (ho : h id = some (.row sz xs)) : Src h (.row id) sz xs [id]
  | nil (sz : Nat) : Src h (.c (.slice none 0 0)) sz [] []
  | sub {id sz l r xs ys} (ho : h id = some (.row sz xs)) (hn : noUs xs = true) (h1 : l ≤ r) (h2 : r ≤ xs.length) (hy : (xs.take r).drop l = ys) : Src h (.sub id sz l r) sz ys []

inductive Dst (h : Nat → Option Ob) : V → Nat → List D → List Nat → Prop
  | row {id sz xs} (ho : h id = some (.row sz xs)) : Dst h (.row id) sz xs [id]
  | nil (sz : Nat) : Dst h (.c (.slice none 0 0)) sz [] []
  | tight (sz : Nat) (xs : List D) : Dst h (.tight sz xs) sz xs []

def SlotTy (P : Program) (t e : TypeId) (sz bytes : Nat) : Prop :=
  ∃ i z, P.underlying t = some (.slice e) ∧ P.info? e = some i ∧ i.zero = some z ∧ i.size = sz ∧ i.bytes = bytes ∧ z.cells.size = sz ∧ 0 < sz

end Go.AM
