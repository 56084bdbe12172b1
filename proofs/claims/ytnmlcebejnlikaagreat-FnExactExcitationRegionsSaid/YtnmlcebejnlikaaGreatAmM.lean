/-
  The abstract machine, part M: objects renumbered; an own slice taken as shared from then on; small lemmas for what the generator writes.
-/
import Derived.Test.YtnmlcebejnlikaaGreatAmL
namespace Go.AM

def rn (l : List (Nat × Nat)) (i : Nat) : Nat := look i l i

mutual
def V.ren (l : List (Nat × Nat)) : V → V
  | .ptr id off => .ptr (rn l id) off
  | .row id => .row (rn l id)
  | .el id sz j off => .el (rn l id) sz j off
  | .sub id sz a b => .sub (rn l id) sz a b
  | .agg vs => .agg (rens l vs)
  | .tup vs => .tup (rens l vs)
  | .fn f vs => .fn f (rens l vs)
  | .d x => .d x
  | .c v => .c v
  | .tight sz xs => .tight sz xs
  | .junk => .junk
def rens (l : List (Nat × Nat)) : List V → List V
  | [] => []
  | v :: vs => v.ren l :: rens l vs
end

def Ob.ren (l : List (Nat × Nat)) : Ob → Ob
  | .box cs => .box (rens l cs)
  | .row sz xs => .row sz xs
  | .boxd cs => .boxd cs
  | .ghost d u => .ghost d u
  | .head id u => .head (rn l id) u

mutual
theorem VR.ren {S w β} (l : List (Nat × Nat)) : ∀ {x v}, VR S w β (x.ren l) v → VR S w (fun i => β (rn l i)) x v
  | .d x, v, h => by rw [V.ren, VR] at h; rw [VR]; exact h
  | .c u, v, h => by rw [V.ren, VR] at h; rw [VR]; exact h
  | .tight sz xs, v, h => by rw [V.ren, VR] at h; rw [VR]; exact h
  | .junk, v, h => by rw [VR]; trivial
  | .ptr id off, v, h => by rw [V.ren, VR] at h; rw [VR]; exact h
  | .row id, v, h => by rw [V.ren, VR] at h; rw [VR]; exact h
  | .el id sz j off, v, h => by rw [V.ren, VR] at h; rw [VR]; exact h
  | .sub id sz a b, v, h => by rw [V.ren, VR] at h; rw [VR]; exact h
  | .agg vs, v, h => by rw [V.ren, VR] at h; rw [VR]; obtain ⟨ys, h1, h2⟩ := h; exact ⟨ys, h1, VRs.ren l h2⟩
  | .tup vs, v, h => by rw [V.ren, VR] at h; rw [VR]; obtain ⟨ys, h1, h2⟩ := h; exact ⟨ys, h1, VRs.ren l h2⟩
  | .fn f vs, v, h => by rw [V.ren, VR] at h; rw [VR]; obtain ⟨ys, h1, h2⟩ := h; exact ⟨ys, h1, VRs.ren l h2⟩
theorem VRs.ren {S w β} (l : List (Nat × Nat)) : ∀ {xs vs}, VRs S w β (rens l xs) vs → VRs S w (fun i => β (rn l i)) xs vs
  | [], vs, h => by rw [rens, VRs] at h; rw [VRs]; exact h
  | x :: xs, vs, h => by
    rw [rens, VRs] at h; rw [VRs]
    obtain ⟨v, vs', h1, h2, h3⟩ := h
    exact ⟨v, vs', h1, VR.ren l h2, VRs.ren l h3⟩
end

def slotsR (l : List (Nat × Nat)) (α : St) : List (Nat × V) → Prop
  | [] => True
  | (s, v) :: r => α.get s = v.ren l ∧ slotsR l α r
def obsR (l : List (Nat × Nat)) (α : St) : List (Nat × Option Ob) → Prop
  | [] => True
  | (i, some o) :: r => α.ob (rn l i) = some (o.ren l) ∧ obsR l α r
  | (_, none) :: r => obsR l α r

theorem slotsR_look {l α} : ∀ {sl : List (Nat × V)}, slotsR l α sl → ∀ s, look .junk sl s = .junk ∨ (look .junk sl s).ren l = α.get s
  | [], _, s => .inl rfl
  | (i, v) :: r, h, s => by
    rw [look_cons]
    by_cases hi : i = s
    · subst hi; rw [if_pos rfl]; exact .inr h.1.symm
    · rw [if_neg hi]; exact slotsR_look h.2 s

theorem obsR_look {l α} : ∀ {hp : List (Nat × Option Ob)}, obsR l α hp → ∀ i o, look none hp i = some o → α.ob (rn l i) = some (o.ren l)
  | [], _, i, o, h => by cases h
  | (j, some o') :: r, h, i, o, hl => by
    rw [look_cons] at hl
    by_cases hi : j = i
    · subst hi; rw [if_pos rfl] at hl; cases hl; exact h.1
    · rw [if_neg hi] at hl; exact obsR_look h.2 i o hl
  | (j, none) :: r, h, i, o, hl => by
    rw [look_cons] at hl
    by_cases hi : j = i
    · subst hi; rw [if_pos rfl] at hl; cases hl
    · rw [if_neg hi] at hl; exact obsR_look (show obsR l α r from h) i o hl

theorem Wk.ren {c : Ctx} {α α' : St} (l : List (Nat × Nat)) (hn : α'.n = α.n) (hp : α'.pin = α.pin) (hpin : (α.pin.all fun i => Nat.beq (rn l i) i) = true) (hi : nodupB (α'.hp.map fun p => rn l p.1) = true)
    (hs : slotsR l α α'.sl) (ho : obsR l α α'.hp) : Wk c α α' := by
  rintro a w ⟨β, φ, H⟩
  have hob : ∀ id o, α'.ob id = some o → α.ob (rn l id) = some (o.ren l) := fun id o h => obsR_look ho id o h
  have hinj : ∀ i j oi oj, α'.ob i = some oi → α'.ob j = some oj → i ≠ j → rn l i ≠ rn l j := by
    intro i j oi oj h1 h2 hij he
    have hmem : ∀ i o, α'.ob i = some o → (i, some o) ∈ α'.hp := by
      intro i o h
      rcases look_mem none α'.hp i with h' | h'
      · unfold St.ob at h; rw [h'] at h; cases h
      · unfold St.ob at h; rw [h] at h'; exact h'
    have m1 := hmem i oi h1
    have m2 := hmem j oj h2
    have hnd := nodupB_spec hi
    have key : ∀ (hp : List (Nat × Option Ob)), (hp.map fun p => rn l p.1).Nodup → ∀ {p q}, p ∈ hp → q ∈ hp → rn l p.1 = rn l q.1 → p = q := by
      intro hp
      induction hp with
      | nil => intro _ p q hp; cases hp
      | cons x hp ih =>
        intro hnd p q h1 h2 he
        rw [List.map_cons, List.nodup_cons] at hnd
        rcases List.mem_cons.1 h1 with e1 | e1
        · rcases List.mem_cons.1 h2 with e2 | e2
          · rw [e1, e2]
          · exact (hnd.1 (List.mem_map.2 ⟨q, e2, by rw [← he, e1]⟩)).elim
        · rcases List.mem_cons.1 h2 with e2 | e2
          · exact (hnd.1 (List.mem_map.2 ⟨p, e1, by rw [he, e2]⟩)).elim
          · exact ih hnd.2 e1 e2 he
    have := key _ hnd m1 m2 he
    exact hij (Prod.mk.inj this).1
  have hless : ∀ b, Sof c α' (fun i => φ (rn l i)) b → Sof c α φ b ∨ w.heap.size ≤ b := by
    rintro b (hb | ⟨id, o, h, hb⟩)
    · exact .inl (.inl hb)
    · exact .inl (.inr ⟨rn l id, _, hob id o h, hb⟩)
  have hag : ∀ F, Agree (Sof c α φ) F w w := fun F => ⟨fun _ _ _ => rfl, Nat.le_refl _⟩
  refine ⟨fun i => β (rn l i), fun i => φ (rn l i), H.defers, by rw [hn]; exact H.size, ?_, ?_, fun id o h => H.nodup _ _ (hob id o h), fun i j oi oj hi hj hij => H.apart _ _ _ _ (hob i oi hi) (hob j oj hj) (hinj i j oi oj hi hj hij), fun id o h => H.mine _ _ (hob id o h), H.keep, ?_⟩
  · intro s
    rcases slotsR_look hs s with h | h
    · rw [St.get, h, VR]; trivial
    · have h1 := H.slots s
      rw [← h] at h1
      exact VR.move (hag _) hless (fun _ _ => rfl) (VR.ren l h1)
  · intro id o h
    have h1 := H.objs _ _ (hob id o h)
    cases o with
    | box cs =>
      obtain ⟨g, e, ys, g1, g2, g3, g4⟩ := h1
      exact ⟨g, e, ys, g1, g2, VRs.move (hag _) hless (fun _ _ => rfl) (VRs.ren l g3), g4⟩
    | row sz xs => exact DR.move (hag _) hless h1
    | boxd cs => exact DR.move (hag _) hless h1
    | ghost d u => exact ⟨DR.move (hag _) hless h1.1, h1.2⟩
    | head i u => exact h1
  · intro id hid
    rw [hp] at hid
    have := List.all_eq_true.1 hpin id hid
    rw [Nat.eq_of_beq_eq_true this]
    exact H.heads id hid

mutual
def V.frz (i sz : Nat) (xs : List D) : V → V
  | .row id => bif Nat.beq id i then .d (.slice false sz xs) else .row id
  | .el id a b k => bif Nat.beq id i then .junk else .el id a b k
  | .sub id a b k => bif Nat.beq id i then .junk else .sub id a b k
  | .ptr id off => bif Nat.beq id i then .junk else .ptr id off
  | .agg vs => .agg (frzs i sz xs vs)
  | .tup vs => .tup (frzs i sz xs vs)
  | .fn f vs => .fn f (frzs i sz xs vs)
  | .d x => .d x
  | .c v => .c v
  | .tight sz xs => .tight sz xs
  | .junk => .junk
def frzs (i sz : Nat) (xs : List D) : List V → List V
  | [] => []
  | v :: vs => v.frz i sz xs :: frzs i sz xs vs
end

mutual
theorem VR.frz {S S' w β} {i sz xs} (hl : ∀ b, S' b → S b) (hd : ∀ v, v = β i → DR S' w (.slice false sz xs) v []) : ∀ {x v}, VR S w β x v → VR S' w β (x.frz i sz xs) v
  | .d x, v, h => by rw [VR] at h; rw [V.frz, VR]; exact h.less (fun b _ => hl b)
  | .c u, v, h => by rw [VR] at h; rw [V.frz, VR]; exact h
  | .tight sz xs, v, h => by rw [VR] at h; rw [V.frz, VR]; exact ⟨h.1, h.2.less (fun b _ => hl b)⟩
  | .junk, v, h => by rw [V.frz, VR]; trivial
  | .ptr id off, v, h => by
    rw [V.frz]
    cases Nat.beq id i with
    | true => rw [cond_true, VR]; trivial
    | false => rw [cond_false, VR]; rw [VR] at h; exact h
  | .row id, v, h => by
    rw [V.frz]
    rw [VR] at h
    cases hb : Nat.beq id i with
    | true =>
      obtain rfl := Nat.eq_of_beq_eq_true hb
      rw [cond_true, VR]; exact hd v h.1
    | false => rw [cond_false, VR]; exact h
  | .el id a b k, v, h => by
    rw [V.frz]
    cases Nat.beq id i with
    | true => rw [cond_true, VR]; trivial
    | false => rw [cond_false, VR]; rw [VR] at h; exact h
  | .sub id a b k, v, h => by
    rw [V.frz]
    cases Nat.beq id i with
    | true => rw [cond_true, VR]; trivial
    | false => rw [cond_false, VR]; rw [VR] at h; exact h
  | .agg vs, v, h => by rw [VR] at h; rw [V.frz, VR]; obtain ⟨ys, h1, h2⟩ := h; exact ⟨ys, h1, VRs.frz hl hd h2⟩
  | .tup vs, v, h => by rw [VR] at h; rw [V.frz, VR]; obtain ⟨ys, h1, h2⟩ := h; exact ⟨ys, h1, VRs.frz hl hd h2⟩
  | .fn f vs, v, h => by rw [VR] at h; rw [V.frz, VR]; obtain ⟨ys, h1, h2⟩ := h; exact ⟨ys, h1, VRs.frz hl hd h2⟩
theorem VRs.frz {S S' w β} {i sz xs} (hl : ∀ b, S' b → S b) (hd : ∀ v, v = β i → DR S' w (.slice false sz xs) v []) : ∀ {ys vs}, VRs S w β ys vs → VRs S' w β (frzs i sz xs ys) vs
  | [], vs, h => by rw [VRs] at h; rw [frzs, VRs]; exact h
  | y :: ys, vs, h => by
    rw [VRs] at h; rw [frzs, VRs]
    obtain ⟨v, vs', h1, h2, h3⟩ := h
    exact ⟨v, vs', h1, VR.frz hl hd h2, VRs.frz hl hd h3⟩
end

def slotsF (i sz : Nat) (xs : List D) (α : St) : List (Nat × V) → Prop
  | [] => True
  | (s, v) :: r => (α.get s).frz i sz xs = v ∧ slotsF i sz xs α r
def obsF (i sz : Nat) (xs : List D) (α : St) : List (Nat × Option Ob) → Prop
  | [] => True
  | (j, some (.box cs)) :: r => (∃ cs', α.ob j = some (.box cs') ∧ frzs i sz xs cs' = cs) ∧ Nat.beq j i = false ∧ obsF i sz xs α r
  | (j, some (.row sz' xs')) :: r => α.ob j = some (.row sz' xs') ∧ Nat.beq j i = false ∧ obsF i sz xs α r
  | (_, some (.boxd _)) :: _ => False
  | (_, some (.ghost _ _)) :: _ => False
  | (_, some (.head _ _)) :: _ => False
  | (_, none) :: r => obsF i sz xs α r

theorem slotsF_look {i sz xs α} : ∀ {sl : List (Nat × V)}, slotsF i sz xs α sl → ∀ s, look .junk sl s = .junk ∨ look .junk sl s = (α.get s).frz i sz xs
  | [], _, s => .inl rfl
  | (j, v) :: r, h, s => by
    rw [look_cons]
    by_cases hi : j = s
    · subst hi; rw [if_pos rfl]; exact .inr h.1.symm
    · rw [if_neg hi]; exact slotsF_look h.2 s

theorem obsF_look {i sz xs α} : ∀ {hp : List (Nat × Option Ob)}, obsF i sz xs α hp → ∀ j o, look none hp j = some o → j ≠ i ∧ ((∃ cs cs', o = .box cs ∧ α.ob j = some (.box cs') ∧ frzs i sz xs cs' = cs) ∨ (∃ sz' xs', o = .row sz' xs' ∧ α.ob j = some o))
  | [], _, j, o, h => by cases h
  | (k, some (.box cs)) :: r, h, j, o, hl => by
    rw [look_cons] at hl
    by_cases hi : k = j
    · subst hi; rw [if_pos rfl] at hl; cases hl
      obtain ⟨⟨cs', h1, h2⟩, h3, _⟩ := h
      exact ⟨fun e => by subst e; simp at h3, .inl ⟨cs, cs', rfl, h1, h2⟩⟩
    · rw [if_neg hi] at hl; exact obsF_look h.2.2 j o hl
  | (k, some (.row sz' xs')) :: r, h, j, o, hl => by
    rw [look_cons] at hl
    by_cases hi : k = j
    · subst hi; rw [if_pos rfl] at hl; cases hl
      obtain ⟨h1, h3, _⟩ := h
      exact ⟨fun e => by subst e; simp at h3, .inr ⟨sz', xs', rfl, h1⟩⟩
    · rw [if_neg hi] at hl; exact obsF_look h.2.2 j o hl
  | (k, some (.boxd _)) :: r, h, j, o, hl => h.elim
  | (k, some (.ghost _ _)) :: r, h, j, o, hl => h.elim
  | (k, some (.head _ _)) :: r, h, j, o, hl => h.elim
  | (k, none) :: r, h, j, o, hl => by
    rw [look_cons] at hl
    by_cases hi : k = j
    · subst hi; rw [if_pos rfl] at hl; cases hl
    · rw [if_neg hi] at hl; exact obsF_look (show obsF i sz xs α r from h) j o hl

theorem Wk.freeze {c : Ctx} (hc : CtxOK c) (hX : c.X = []) {α α' : St} (i : Nat) {sz : Nat} {ys xs : List D} (hn : α'.n = α.n) (hp : α'.pin = α.pin) (hob : α.ob i = some (.row sz ys)) (hxs : frozs ys = xs)
    (hs : slotsF i sz xs α α'.sl) (ho : obsF i sz xs α α'.hp) : Wk c α α' := by
  subst hxs
  rintro a w ⟨β, φ, H⟩
  have hold : ∀ j o, α'.ob j = some o → j ≠ i ∧ ∃ o', α.ob j = some o' := by
    intro j o h
    obtain ⟨h1, h2⟩ := obsF_look ho j o h
    refine ⟨h1, ?_⟩
    rcases h2 with ⟨cs, cs', _, h3, _⟩ | ⟨_, _, _, h3⟩
    · exact ⟨_, h3⟩
    · exact ⟨_, h3⟩
  have hless : ∀ b, Sof c α' φ b → Sof c α φ b := by
    rintro b (hb | ⟨id, o, h, hb⟩)
    · exact .inl hb
    · obtain ⟨_, o', h'⟩ := hold id o h
      exact .inr ⟨id, o', h', hb⟩
  have hfree : ∀ b ∈ φ i, ¬ Sof c α' φ b := by
    rintro b hb (hs' | ⟨id, o, h, hb'⟩)
    · have := hc b hs'
      rcases H.mine i _ hob b hb with h1 | h1
      · omega
      · rw [hX] at h1; simp at h1
    · obtain ⟨hne, o', h'⟩ := hold id o h
      exact H.apart id i o' _ h' hob hne b hb' hb
  have hd : ∀ v, v = β i → DR (Sof c α' φ) w (.slice false sz (frozs ys)) v [] := by
    rintro v rfl
    have := H.objs i _ hob
    exact DR.froz (d := .slice true sz ys) (fun b _ hb => ⟨hless b hb, fun hm => hfree b hm hb⟩) this
  have hag : ∀ F, Agree (Sof c α φ) F w w := fun F => ⟨fun _ _ _ => rfl, Nat.le_refl _⟩
  refine ⟨β, φ, H.defers, by rw [hn]; exact H.size, ?_, ?_, ?_, ?_, ?_, H.keep, by rw [hp]; exact H.heads⟩
  · intro s
    rcases slotsF_look hs s with h | h
    · rw [St.get, h, VR]; trivial
    · rw [St.get, h]; exact VR.frz hless hd (H.slots s)
  · intro id o h
    obtain ⟨_, h2⟩ := obsF_look ho id o h
    rcases h2 with ⟨cs, cs', rfl, h3, rfl⟩ | ⟨sz', xs', rfl, h3⟩
    · obtain ⟨g, e, ys, g1, g2, g3, g4⟩ := H.objs _ _ h3
      exact ⟨g, e, ys, g1, g2, VRs.frz hless hd g3, g4⟩
    · exact DR.less (fun b _ hb => hless b hb) (H.objs _ _ h3)
  · intro id o h; obtain ⟨_, o', h'⟩ := hold id o h; exact H.nodup id o' h'
  · intro i j oi oj hi hj
    obtain ⟨_, o1, h1⟩ := hold i oi hi
    obtain ⟨_, o2, h2⟩ := hold j oj hj
    exact H.apart i j o1 o2 h1 h2
  · intro id o h; obtain ⟨_, o', h'⟩ := hold id o h; exact H.mine id o' h'

theorem Wk.trans {c : Ctx} {α β γ : St} (h : Wk c α β) (k : Wk c β γ) : Wk c α γ := fun a w hR => k a w (h a w hR)

theorem intV_add {a b : Int} (h1 : -9223372036854775808 ≤ a + b) (h2 : a + b ≤ 9223372036854775807) : intV .add .i64 a b = some (.int .i64 (a + b)) := by
  rw [intV, IntWalk.i64_in _ ⟨h1, h2⟩]
theorem intV_sub {a b : Int} (h1 : -9223372036854775808 ≤ a - b) (h2 : a - b ≤ 9223372036854775807) : intV .sub .i64 a b = some (.int .i64 (a - b)) := by
  rw [intV, IntWalk.i64_in _ ⟨h1, h2⟩]
theorem intV_mul {a b : Int} (h1 : -9223372036854775808 ≤ a * b) (h2 : a * b ≤ 9223372036854775807) : intV .mul .i64 a b = some (.int .i64 (a * b)) := by
  rw [intV, IntWalk.i64_in _ ⟨h1, h2⟩]

theorem get_map {τ : Type} [Inhabited τ] (f : τ → D) {l : List τ} {j : Nat} (h : j < l.length) : (l.map f)[j]? = some (f (l.getD j default)) := by
  simp [h]
theorem get_str {s : List UInt8} {j : Nat} (h : j < s.length) : s[j]? = some (s.getD j 0) := by simp [h]

theorem vI {k : IntKind} {a b : Int} (h : a = b) : V.d (.int k a) = V.d (.int k b) := by rw [h]
theorem vB {a b : Bool} (h : a = b) : V.d (.bool a) = V.d (.bool b) := by rw [h]
theorem vS {a b : List UInt8} (h : a = b) : V.d (.str a) = V.d (.str b) := by rw [h]
theorem vL {u : Bool} {sz : Nat} {a b : List D} (h : a = b) : V.d (.slice u sz a) = V.d (.slice u sz b) := by rw [h]
theorem oR {sz : Nat} {a b : List D} (h : a = b) : some (Ob.row sz a) = some (Ob.row sz b) := by rw [h]

theorem strV_add {a b : List UInt8} (h : a.length + b.length ≤ 9223372036854775807) : strV .add a b = some (.str (a ++ b)) := by rw [strV, if_pos h]

def slotTyB (P : Program) (t e sz bytes : Nat) : Bool :=
  match P.underlying t, P.info? e with
  | some (.slice e'), some i => Nat.beq e' e && Nat.beq i.size sz && Nat.beq i.bytes bytes && (match i.zero with | some z => Nat.beq z.cells.size sz | none => false) && Nat.blt 0 sz
  | _, _ => false

theorem slotTy_mk {P : Program} {t e sz bytes : Nat} (h : slotTyB P t e sz bytes = true) : SlotTy P t e sz bytes := by
  unfold slotTyB at h
  split at h
  · rename_i e' i hu hi
    cases hz : i.zero with
    | none => simp [hz] at h
    | some z =>
      rw [hz] at h
      simp only [Bool.and_eq_true] at h
      obtain ⟨⟨⟨⟨h1, h2⟩, h3⟩, h4⟩, h5⟩ := h
      have e1 := Nat.eq_of_beq_eq_true h1
      subst e1
      exact ⟨i, z, hu, hi, hz, Nat.eq_of_beq_eq_true h2, Nat.eq_of_beq_eq_true h3, Nat.eq_of_beq_eq_true h4, Nat.le_of_ble_eq_true h5⟩
  · cases h

theorem structIs_mk {P : Program} {t : Nat} {zs : List Value} {places : List (Nat × Nat)} {fs : Array Field} (h1 : (P.info? t).bind (·.zero) = some (.agg zs.toArray)) (h2 : P.underlying t = some (.struct fs))
    (h3 : fs.toList.mapM (fun f => (P.info? f.type).map fun i => (f.offset, i.size)) = some places) : StructIs P t zs places := by
  cases hi : P.info? t with
  | none => rw [hi] at h1; cases h1
  | some i => rw [hi] at h1; exact ⟨i, _, fs, hi, h1, h2, h3, rfl⟩

theorem zero_mk {P : Program} {t : Nat} {z : Value} (h1 : (P.info? t).bind (·.zero) = some z) {zs : List Value} (h2 : z.cells = zs.toArray) : ∃ i z, P.info? t = some i ∧ i.zero = some z ∧ z.cells = List.toArray zs := by
  cases hi : P.info? t with
  | none => rw [hi] at h1; cases h1
  | some i => rw [hi] at h1; exact ⟨i, z, rfl, h1, h2⟩

theorem zeroD_mk {P : Program} {e : Nat} {z : Value} {zd : D} (h1 : (P.info? e).bind (·.zero) = some z) (h2 : ∀ S w, DR S w zd z []) (h3 : zd.mem = true) : ∀ i z, P.info? e = some i → i.zero = some z → (∀ S w, DR S w zd z []) ∧ zd.mem = true := by
  intro i z' hi hz
  rw [hi] at h1
  have h1' : i.zero = some z := h1
  rw [hz] at h1'
  cases h1'
  exact ⟨h2, h3⟩

theorem Exp.of {h hb : Nat → Option Ob} {v : V} {x y : D} {ks : List Nat} (e : x = y) (he : Exp h hb v x ks) : Exp h hb v y ks := e ▸ he

theorem FieldIs.mk {P : Program} {t f off n : Nat} {agg : Bool} {fs : Array Field} {fd : Field} (h1 : P.underlying t = some (.struct fs)) (h2 : fs[f]? = some fd) (h3 : fd.offset = off) (h4 : SizeIs P fd.type n) (h5 : AggIs P fd.type agg) (h6 : Nat.blt 0 n = true) :
    FieldIs P t f off n agg := ⟨fs, fd, h1, h2, h3, h4, h5, Nat.le_of_ble_eq_true h6⟩

end Go.AM
