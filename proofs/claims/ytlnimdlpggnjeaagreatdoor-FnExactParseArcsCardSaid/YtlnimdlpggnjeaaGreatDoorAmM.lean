/-
  The abstract machine, part M: objects renumbered; an own slice taken as shared from then on; small lemmas for what the generator writes.
-/
import Derived.Test.YtlnimdlpggnjeaaGreatDoorAmL
namespace Go.AM

def rn (l : List (Nat × Nat)) (i : Nat) : Nat := look i l i

mutual
def V.ren (l : List (Nat × Nat)) : V → V
  | .ptr id off => .ptr (rn l id) off
  | .row id => .row (rn l id)
  | .el id sz j off => .el (rn l id) sz j off
  | .sub id sz a b => .sub (rn l id) sz a b
  | .mp id => .mp (rn l id)
  | .agg vs => .agg (rens l vs)
  | .tup vs => .tup (rens l vs)
  | .fn f vs => .fn f (rens l vs)
  | .d x => .d x
  | .c v => .c v
  | .tight sz xs => .tight sz xs
  | .junk => .junk
def rens (l : List (Nat × Nat)) : List V → List V
  | [] => []
  | v :: vs => v.ren l :: rens l vs
end

def Ob.ren (l : List (Nat × Nat)) : Ob → Ob
  | .box cs => .box (rens l cs)
  | .row sz xs => .row sz xs
  | .boxd cs => .boxd cs
  | .ghost d u => .ghost d u
  | .head id u => .head (rn l id) u
  | .mapo ks xs => .mapo ks xs
  | .iter id n left k => .iter (rn l id) n left k

mutual
theorem VR.ren {S w β} (l : List (Nat × Nat)) : ∀ {x v}, VR S w β (x.ren l) v → VR S w (fun i => β (rn l i)) x v
  | .d x, v, h => by rw [V.ren, VR] at h; rw [VR]; exact h
  | .c u, v, h => by rw [V.ren, VR] at h; rw [VR]; exact h
  | .tight sz xs, v, h => by rw [V.ren, VR] at h; rw [VR]; exact h
  | .junk, v, h => by rw [VR]; trivial
  | .ptr id off, v, h => by rw [V.ren, VR] at h; rw [VR]; exact h
  | .row id, v, h => by rw [V.ren, VR] at h; rw [VR]; exact h
  | .el id sz j off, v, h => by rw [V.ren, VR] at h; rw [VR]; exact h
  | .sub id sz a b, v, h => by rw [V.ren, VR] at h; rw [VR]; exact h
  | .mp id, v, h => by rw [V.ren, VR] at h; rw [VR]; exact h
  | .agg vs, v, h => by rw [V.ren, VR] at h; rw [VR]; obtain ⟨ys, h1, h2⟩ := h; exact ⟨ys, h1, VRs.ren l h2⟩
  | .tup vs, v, h => by rw [V.ren, VR] at h; rw [VR]; obtain ⟨ys, h1, h2⟩ := h; exact ⟨ys, h1, VRs.ren l h2⟩
  | .fn f vs, v, h => by rw [V.ren, VR] at h; rw [VR]; obtain ⟨ys, h1, h2⟩ := h; exact ⟨ys, h1, VRs.ren l h2⟩
theorem VRs.ren {S w β} (l : List (Nat × Nat)) : ∀ {xs vs}, VRs S w β (rens l xs) vs → VRs S w (fun i => β (rn l i)) xs vs
  | [], vs, h => by rw [rens, VRs] at h; rw [VRs]; exact h
  | x :: xs, vs, h => by
    rw [rens, VRs] at h; rw [VRs]
    obtain ⟨v, vs', h1, h2, h3⟩ := h
    exact ⟨v, vs', h1, VR.ren l h2, VRs.ren l h3⟩
end

def slotsR (l : List (Nat × Nat)) (α : St) : List (Nat × V) → Prop
  | [] => True
  | (s, v) :: r => α.get s = v.ren l ∧ slotsR l α r
def obsR (l : List (Nat × Nat)) (α : St) : List (Nat × Option Ob) → Prop
  | [] => True
  | (i, some o) :: r => α.ob (rn l i) = some (o.ren l) ∧ obsR l α r
  | (_, none) :: r => obsR l α r

theorem slotsR_look {l α} : ∀ {sl : List (Nat × V)}, slotsR l α sl → ∀ s, look .junk sl s = .junk ∨ (look .junk sl s).ren l = α.get s
  | [], _, s => .inl rfl
  | (i, v) :: r, h, s => by
    rw [look_cons]
    by_cases hi : i = s
    · subst hi; rw [if_pos rfl]; exact .inr h.1.symm
    · rw [if_neg hi]; exact slotsR_look h.2 s

theorem obsR_look {l α} : ∀ {hp : List (Nat × Option Ob)}, obsR l α hp → ∀ i o, look none hp i = some o → α.ob (rn l i) = some (o.ren l)
  | [], _, i, o, h => by cases h
  | (j, some o') :: r, h, i, o, hl => by
    rw [look_cons] at hl
    by_cases hi : j = i
    · subst hi; rw [if_pos rfl] at hl; cases hl; exact h.1
    · rw [if_neg hi] at hl; exact obsR_look h.2 i o hl
  | (j, none) :: r, h, i, o, hl => by
    rw [look_cons] at hl
    by_cases hi : j = i
    · subst hi; rw [if_pos rfl] at hl; cases hl
    · rw [if_neg hi] at hl; exact obsR_look (show obsR l α r from h) i o hl

theorem Wk.ren {c : Ctx} {α α' : St} (l : List (Nat × Nat)) (hn : α'.n = α.n) (hp : α'.pin = α.pin) (hpin : (α.pin.all fun i => Nat.beq (rn l i) i) = true) (hi : nodupB (α'.hp.map fun p => rn l p.1) = true)
    (hs : slotsR l α α'.sl) (ho : obsR l α α'.hp) : Wk c α α' := by
  rintro a w ⟨β, φ, H⟩
  have hob : ∀ id o, α'.ob id = some o → α.ob (rn l id) = some (o.ren l) := fun id o h => obsR_look ho id o h
  have hinj : ∀ i j oi oj, α'.ob i = some oi → α'.ob j = some oj → i ≠ j → rn l i ≠ rn l j := by
    intro i j oi oj h1 h2 hij he
    have hmem : ∀ i o, α'.ob i = some o → (i, some o) ∈ α'.hp := by
      intro i o h
      rcases look_mem none α'.hp i with h' | h'
      · unfold St.ob at h; rw [h'] at h; cases h
      · unfold St.ob at h; rw [h] at h'; exact h'
    have m1 := hmem i oi h1
    have m2 := hmem j oj h2
    have hnd := nodupB_spec hi
    have key : ∀ (hp : List (Nat × Option Ob)), (hp.map fun p => rn l p.1).Nodup → ∀ {p q}, p ∈ hp → q ∈ hp → rn l p.1 = rn l q.1 → p = q := by
      intro hp
      induction hp with
      | nil => intro _ p q hp; cases hp
      | cons x hp ih =>
        intro hnd p q h1 h2 he
        rw [List.map_cons, List.nodup_cons] at hnd
        rcases List.mem_cons.1 h1 with e1 | e1
        · rcases List.mem_cons.1 h2 with e2 | e2
          · rw [e1, e2]
          · exact (hnd.1 (List.mem_map.2 ⟨q, e2, by rw [← he, e1]⟩)).elim
        · rcases List.mem_cons.1 h2 with e2 | e2
          · exact (hnd.1 (List.mem_map.2 ⟨p, e1, by rw [he, e2]⟩)).elim
          · exact ih hnd.2 e1 e2 he
    have := key _ hnd m1 m2 he
    exact hij (Prod.mk.inj this).1
  have hless : ∀ b, Sof c α' (fun i => φ (rn l i)) b → Sof c α φ b ∨ w.heap.size ≤ b := by
    rintro b (hb | ⟨id, o, h, hb⟩)
    · exact .inl (.inl hb)
    · exact .inl (.inr ⟨rn l id, _, hob id o h, hb⟩)
  have hag : ∀ F, Agree (Sof c α φ) F w w := fun F => ⟨fun _ _ _ => rfl, Nat.le_refl _⟩
  refine ⟨fun i => β (rn l i), fun i => φ (rn l i), H.defers, by rw [hn]; exact H.size, ?_, ?_, fun id o h => H.nodup _ _ (hob id o h), fun i j oi oj hi hj hij => H.apart _ _ _ _ (hob i oi hi) (hob j oj hj) (hinj i j oi oj hi hj hij), fun id o h => H.mine _ _ (hob id o h), H.keep, ?_⟩
  · intro s
    rcases slotsR_look hs s with h | h
    · rw [St.get, h, VR]; trivial
    · have h1 := H.slots s
      rw [← h] at h1
      exact VR.move (hag _) hless (fun _ _ => rfl) (VR.ren l h1)
  · intro id o h
    have h1 := H.objs _ _ (hob id o h)
    cases o with
    | box cs =>
      obtain ⟨g, e, ys, g1, g2, g3, g4⟩ := h1
      exact ⟨g, e, ys, g1, g2, VRs.move (hag _) hless (fun _ _ => rfl) (VRs.ren l g3), g4⟩
    | row sz xs => exact DR.move (hag _) hless h1
    | boxd cs => exact DR.move (hag _) hless h1
    | ghost d u => exact ⟨DR.move (hag _) hless h1.1, h1.2⟩
    | head i u => exact h1
    | mapo ks xs => exact DR.move (hag _) hless h1
    | iter i n l k => exact h1
  · intro id hid
    rw [hp] at hid
    have := List.all_eq_true.1 hpin id hid
    rw [Nat.eq_of_beq_eq_true this]
    exact H.heads id hid

theorem Wk.trans {c : Ctx} {α β γ : St} (h : Wk c α β) (k : Wk c β γ) : Wk c α γ := fun a w hR => k a w (h a w hR)

theorem intV_add {a b : Int} (h1 : -9223372036854775808 ≤ a + b) (h2 : a + b ≤ 9223372036854775807) : intV .add .i64 a b = some (.int .i64 (a + b)) := by
  rw [intV, IntWalk.i64_in _ ⟨h1, h2⟩]
theorem intV_sub {a b : Int} (h1 : -9223372036854775808 ≤ a - b) (h2 : a - b ≤ 9223372036854775807) : intV .sub .i64 a b = some (.int .i64 (a - b)) := by
  rw [intV, IntWalk.i64_in _ ⟨h1, h2⟩]
theorem intV_mul {a b : Int} (h1 : -9223372036854775808 ≤ a * b) (h2 : a * b ≤ 9223372036854775807) : intV .mul .i64 a b = some (.int .i64 (a * b)) := by
  rw [intV, IntWalk.i64_in _ ⟨h1, h2⟩]

theorem get_map {τ : Type} [Inhabited τ] (f : τ → D) {l : List τ} {j : Nat} (h : j < l.length) : (l.map f)[j]? = some (f (l.getD j default)) := by
  simp [h]
theorem get_str {s : List UInt8} {j : Nat} (h : j < s.length) : s[j]? = some (s.getD j 0) := by simp [h]

theorem vI {k : IntKind} {a b : Int} (h : a = b) : V.d (.int k a) = V.d (.int k b) := by rw [h]
theorem vB {a b : Bool} (h : a = b) : V.d (.bool a) = V.d (.bool b) := by rw [h]
theorem vS {a b : List UInt8} (h : a = b) : V.d (.str a) = V.d (.str b) := by rw [h]
theorem vL {u : Bool} {sz : Nat} {a b : List D} (h : a = b) : V.d (.slice u sz a) = V.d (.slice u sz b) := by rw [h]
theorem oR {sz : Nat} {a b : List D} (h : a = b) : some (Ob.row sz a) = some (Ob.row sz b) := by rw [h]

theorem strV_add {a b : List UInt8} (h : a.length + b.length ≤ 9223372036854775807) : strV .add a b = some (.str (a ++ b)) := by rw [strV, if_pos h]

def slotTyB (P : Program) (t e sz bytes : Nat) : Bool :=
  match P.underlying t, P.info? e with
  | some (.slice e'), some i => Nat.beq e' e && Nat.beq i.size sz && Nat.beq i.bytes bytes && (match i.zero with | some z => Nat.beq z.cells.size sz | none => false) && Nat.blt 0 sz
  | _, _ => false

theorem slotTy_mk {P : Program} {t e sz bytes : Nat} (h : slotTyB P t e sz bytes = true) : SlotTy P t e sz bytes := by
  unfold slotTyB at h
  split at h
  · rename_i e' i hu hi
    cases hz : i.zero with
    | none => simp [hz] at h
    | some z =>
      rw [hz] at h
      simp only [Bool.and_eq_true] at h
      obtain ⟨⟨⟨⟨h1, h2⟩, h3⟩, h4⟩, h5⟩ := h
      have e1 := Nat.eq_of_beq_eq_true h1
      subst e1
      exact ⟨i, z, hu, hi, hz, Nat.eq_of_beq_eq_true h2, Nat.eq_of_beq_eq_true h3, Nat.eq_of_beq_eq_true h4, Nat.le_of_ble_eq_true h5⟩
  · cases h

theorem structIs_mk {P : Program} {t : Nat} {zs : List Value} {places : List (Nat × Nat)} {fs : Array Field} (h1 : (P.info? t).bind (·.zero) = some (.agg zs.toArray)) (h2 : P.underlying t = some (.struct fs))
    (h3 : fs.toList.mapM (fun f => (P.info? f.type).map fun i => (f.offset, i.size)) = some places) : StructIs P t zs places := by
  cases hi : P.info? t with
  | none => rw [hi] at h1; cases h1
  | some i => rw [hi] at h1; exact ⟨i, _, fs, hi, h1, h2, h3, rfl⟩

theorem zero_mk {P : Program} {t : Nat} {z : Value} (h1 : (P.info? t).bind (·.zero) = some z) {zs : List Value} (h2 : z.cells = zs.toArray) : ∃ i z, P.info? t = some i ∧ i.zero = some z ∧ z.cells = List.toArray zs := by
  cases hi : P.info? t with
  | none => rw [hi] at h1; cases h1
  | some i => rw [hi] at h1; exact ⟨i, z, rfl, h1, h2⟩

theorem zeroD_mk {P : Program} {e : Nat} {z : Value} {zd : D} (h1 : (P.info? e).bind (·.zero) = some z) (h2 : ∀ S w, DR S w zd z []) (h3 : zd.mem = true) : ∀ i z, P.info? e = some i → i.zero = some z → (∀ S w, DR S w zd z []) ∧ zd.mem = true := by
  intro i z' hi hz
  rw [hi] at h1
  have h1' : i.zero = some z := h1
  rw [hz] at h1'
  cases h1'
  exact ⟨h2, h3⟩

theorem Exp.of {h hb : Nat → Option Ob} {v : V} {x y : D} {ks : List Nat} (e : x = y) (he : Exp h hb v x ks) : Exp h hb v y ks := e ▸ he

theorem FieldIs.mk {P : Program} {t f off n : Nat} {agg : Bool} {fs : Array Field} {fd : Field} (h1 : P.underlying t = some (.struct fs)) (h2 : fs[f]? = some fd) (h3 : fd.offset = off) (h4 : SizeIs P fd.type n) (h5 : AggIs P fd.type agg) (h6 : Nat.blt 0 n = true) :
    FieldIs P t f off n agg := ⟨fs, fd, h1, h2, h3, h4, h5, Nat.le_of_ble_eq_true h6⟩

end Go.AM
