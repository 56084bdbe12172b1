/-
  The abstract machine, part B: slot values, own objects, the abstract state, and how it stands to a frame and a world.
-/
import Derived.Test.YtlnimdlpggnjeaaGreatDoorAmA
namespace Go.AM

inductive V where
  | d (x : D)
  | c (v : Value)
  | tight (sz : Nat) (xs : List D)
  | ptr (id off : Nat)
  | row (id : Nat)
  | el (id sz j off : Nat)
  | sub (id sz l r : Nat)
  | mp (id : Nat)
  | agg (vs : List V)
  | tup (vs : List V)
  | fn (f : Nat) (caps : List V)
  | junk
  deriving Inhabited

inductive Ob where
  | box (cs : List V)
  | row (sz : Nat) (xs : List D)
  | boxd (cs : List D)
  | ghost (d : D) (u : Value)
  | head (id : Nat) (u : Value)
  | mapo (ks : List (List UInt8)) (xs : List D)
  | iter (id n : Nat) (left : List Nat) (cur : Option Nat)
  deriving Inhabited

mutual
def VR (S : Nat → Prop) (w : World) (β : Nat → Value) : V → Value → Prop
  | .d x, v => DR S w x v []
  | .c u, v => v = u
  | .tight sz xs, v => (∃ a, v = .slice a xs.length xs.length) ∧ DR S w (.slice false sz xs) v []
  | .ptr id off, v => ∃ g, β id = .pointer (some ⟨g, 0, none⟩) ∧ v = .pointer (some ⟨g, off, none⟩)
  | .row id, v => v = β id ∧ ∃ a n c, v = .slice a n c
  | .el id sz j off, v => ∃ g n c, β id = .slice (some ⟨g, 0, none⟩) n c ∧ v = .pointer (some ⟨g, j * sz + off, none⟩)
  | .sub id sz l r, v => ∃ ad n c, β id = .slice ad n c ∧ r ≤ n ∧ l ≤ r ∧ v = .slice (if c = l then ad else ad.map (·.add (l * sz))) (r - l) (c - l)
  | .mp id, v => v = β id
  | .agg cs, v => ∃ vs, v = .agg (List.toArray vs) ∧ VRs S w β cs vs
  | .tup cs, v => ∃ vs, v = .tuple (List.toArray vs) ∧ VRs S w β cs vs
  | .fn f caps, v => ∃ vs, v = .func (.func f) #[] (List.toArray vs) ∧ VRs S w β caps vs
  | .junk, _ => True
def VRs (S : Nat → Prop) (w : World) (β : Nat → Value) : List V → List Value → Prop
  | [], vs => vs = []
  | c :: cs, vs => ∃ v vs', vs = v :: vs' ∧ VR S w β c v ∧ VRs S w β cs vs'
end

mutual
def V.ids : V → List Nat
  | .ptr id _ => [id]
  | .row id => [id]
  | .el id _ _ _ => [id]
  | .sub id _ _ _ => [id]
  | .mp id => [id]
  | .agg vs => idss vs
  | .tup vs => idss vs
  | .fn _ vs => idss vs
  | .d _ => []
  | .c _ => []
  | .tight _ _ => []
  | .junk => []
def idss : List V → List Nat
  | [] => []
  | v :: vs => v.ids ++ idss vs
end

def Ob.ids : Ob → List Nat
  | .box cs => idss cs
  | .row _ _ => []
  | .boxd _ => []
  | .ghost _ _ => []
  | .head id _ => [id]
  | .mapo _ _ => []
  | .iter id _ _ _ => [id]

mutual
theorem VR.move {S S' : Nat → Prop} {w w' : World} {β β' : Nat → Value} (ha : Agree S [] w w') (hs : ∀ b, S' b → S b ∨ w.heap.size ≤ b) :
    ∀ {x v}, (∀ id ∈ x.ids, β' id = β id) → VR S w β x v → VR S' w' β' x v
  | .d x, v, _, h => by rw [VR] at h ⊢; exact h.move ha hs
  | .c u, v, _, h => by rw [VR] at h ⊢; exact h
  | .tight sz xs, v, _, h => by rw [VR] at h ⊢; exact ⟨h.1, h.2.move ha hs⟩
  | .ptr id off, v, hi, h => by rw [VR] at h ⊢; rw [hi id (by simp [V.ids])]; exact h
  | .row id, v, hi, h => by rw [VR] at h ⊢; rw [hi id (by simp [V.ids])]; exact h
  | .el id sz j off, v, hi, h => by rw [VR] at h ⊢; rw [hi id (by simp [V.ids])]; exact h
  | .sub id sz l r, v, hi, h => by rw [VR] at h ⊢; rw [hi id (by simp [V.ids])]; exact h
  | .mp id, v, hi, h => by rw [VR] at h ⊢; rw [hi id (by simp [V.ids])]; exact h
  | .agg cs, v, hi, h => by
    rw [VR] at h ⊢
    obtain ⟨vs, h1, h2⟩ := h
    exact ⟨vs, h1, VRs.move ha hs (by simpa [V.ids] using hi) h2⟩
  | .tup cs, v, hi, h => by
    rw [VR] at h ⊢
    obtain ⟨vs, h1, h2⟩ := h
    exact ⟨vs, h1, VRs.move ha hs (by simpa [V.ids] using hi) h2⟩
  | .fn f cs, v, hi, h => by
    rw [VR] at h ⊢
    obtain ⟨vs, h1, h2⟩ := h
    exact ⟨vs, h1, VRs.move ha hs (by simpa [V.ids] using hi) h2⟩
  | .junk, v, _, h => by rw [VR]; trivial
theorem VRs.move {S S' : Nat → Prop} {w w' : World} {β β' : Nat → Value} (ha : Agree S [] w w') (hs : ∀ b, S' b → S b ∨ w.heap.size ≤ b) :
    ∀ {xs vs}, (∀ id ∈ idss xs, β' id = β id) → VRs S w β xs vs → VRs S' w' β' xs vs
  | [], vs, _, h => by rw [VRs] at h ⊢; exact h
  | x :: xs, vs, hi, h => by
    rw [VRs] at h ⊢
    obtain ⟨v, vs', h1, h2, h3⟩ := h
    exact ⟨v, vs', h1, VR.move ha hs (fun id hid => hi id (by simp [idss, hid])) h2, VRs.move ha hs (fun id hid => hi id (by simp [idss, hid])) h3⟩
end

theorem VRs_length {S w β} : ∀ {xs vs}, VRs S w β xs vs → vs.length = xs.length
  | [], _, h => by rw [VRs] at h; simp [h]
  | x :: xs, vs, h => by
    rw [VRs] at h
    obtain ⟨v, vs', rfl, _, h2⟩ := h
    simp [VRs_length h2]

theorem VRs_get {S w β} : ∀ {xs : List V} {vs : List Value}, VRs S w β xs vs → ∀ {i : Nat} {x : V}, xs[i]? = some x → ∃ v, vs[i]? = some v ∧ VR S w β x v
  | [], _, h, i, x, hx => by simp at hx
  | y :: ys, vs, h, i, x, hx => by
    rw [VRs] at h
    obtain ⟨v, vs', rfl, h1, h2⟩ := h
    cases i with
    | zero => simp at hx; subst hx; exact ⟨v, rfl, h1⟩
    | succ i => simpa using VRs_get h2 (by simpa using hx)

def OR (S : Nat → Prop) (w : World) (β : Nat → Value) : Ob → Value → List Nat → Prop
  | .box cs, h, F => ∃ g e ys, h = .pointer (some ⟨g, 0, none⟩) ∧ w.heap[g]? = some (.cells (List.toArray ys) e (0, 0)) ∧ VRs S w β cs ys ∧ F = [g]
  | .row sz xs, h, F => DR S w (.slice true sz xs) h F
  | .boxd cs, h, F => DR S w (.box cs) h F
  | .ghost d u, _, F => DR S w d u [] ∧ F = []
  | .head id u, _, F => β id = u ∧ F = []
  | .mapo ks xs, h, F => DR S w (.map ks xs) h F
  | .iter id n left cur, h, F => ∃ g r seen, h = .pointer (some ⟨g, 0, none⟩) ∧ β id = .map (some r) ∧ w.heap[g]? = some (.mapIter (some r) n seen n) ∧ (left = (List.range n).filter (fun i => !seen.contains i) ∧ seen.back? = cur) ∧ F = [g]

def Ob.dat : Ob → Option D
  | .row sz xs => some (.slice true sz xs)
  | .boxd cs => some (.box cs)
  | .mapo ks xs => some (.map ks xs)
  | _ => none

theorem Ob.dat_or {S w β} {o : Ob} {d : D} {h F} (hd : o.dat = some d) : OR S w β o h F ↔ DR S w d h F := by
  cases o with
  | box cs => cases hd
  | row sz xs => cases hd; exact Iff.rfl
  | boxd cs => cases hd; exact Iff.rfl
  | ghost d u => cases hd
  | head i u => cases hd
  | mapo ks xs => cases hd; exact Iff.rfl
  | iter i n l k => cases hd

theorem OR.move {S S' : Nat → Prop} {F w w' β β'} {o : Ob} {h : Value} (ha : Agree S F w w') (hs : ∀ b, S' b → S b ∨ w.heap.size ≤ b)
    (hi : ∀ id ∈ o.ids, β' id = β id) (ho : OR S w β o h F) : OR S' w' β' o h F := by
  cases o with
  | box cs =>
    obtain ⟨g, e, ys, h1, h2, h3, rfl⟩ := ho
    refine ⟨g, e, ys, h1, ?_, VRs.move (ha.sub (by simp)) hs hi h3, rfl⟩
    rw [ha.block g (Array.getElem?_eq_some_iff.1 h2).1 (.inr (by simp))]; exact h2
  | row sz xs => exact DR.move ha hs ho
  | boxd cs => exact DR.move ha hs ho
  | ghost d u => exact ⟨DR.move (ha.sub (by simp)) hs ho.1, ho.2⟩
  | head i u => exact ⟨by rw [hi i (by simp [Ob.ids])]; exact ho.1, ho.2⟩
  | mapo ks xs => exact DR.move ha hs ho
  | iter i n l k =>
    obtain ⟨g, r, seen, h1, h2, h3, h4, rfl⟩ := ho
    refine ⟨g, r, seen, h1, by rw [hi i (by simp [Ob.ids])]; exact h2, ?_, h4, rfl⟩
    rw [ha.block g (Array.getElem?_eq_some_iff.1 h3).1 (.inr (by simp))]; exact h3

theorem OR.lt {S w β} {o : Ob} {h : Value} {F} (ho : OR S w β o h F) : ∀ b ∈ F, b < w.heap.size := by
  cases o with
  | box cs =>
    obtain ⟨g, e, ys, h1, h2, h3, rfl⟩ := ho
    simp; exact (Array.getElem?_eq_some_iff.1 h2).1
  | row sz xs => exact DR.lt ho
  | boxd cs => exact DR.lt ho
  | ghost d u => rw [ho.2]; simp
  | head i u => rw [ho.2]; simp
  | mapo ks xs => exact DR.lt ho
  | iter i n l k =>
    obtain ⟨g, r, seen, h1, h2, h3, h4, rfl⟩ := ho
    simp; exact (Array.getElem?_eq_some_iff.1 h3).1

structure St where
  n : Nat
  sl : List (Nat × V)
  hp : List (Nat × Option Ob)
  pin : List Nat := []

def look {β : Type} (x : β) : List (Nat × β) → Nat → β
  | [], _ => x
  | (i, b) :: l, j => bif Nat.beq i j then b else look x l j

def St.get (α : St) (s : Nat) : V := look .junk α.sl s
def St.ob (α : St) (id : Nat) : Option Ob := look none α.hp id

theorem look_cons {β : Type} (x : β) (i : Nat) (b : β) (l : List (Nat × β)) (j : Nat) : look x ((i, b) :: l) j = if i = j then b else look x l j := by
  rw [look]
  by_cases h : i = j
  · subst h; rw [if_pos rfl, show Nat.beq i i = true from Nat.beq_refl i]; rfl
  · rw [if_neg h, show Nat.beq i j = false from Bool.eq_false_iff.2 fun hb => h (Nat.eq_of_beq_eq_true hb)]; rfl

theorem look_append {β : Type} (x : Option β) : ∀ (k l : List (Nat × Option β)) (j : Nat), (∀ b, (j, b) ∉ k) → look x (k ++ l) j = look x l j
  | [], _, _, _ => rfl
  | (i, b) :: k, l, j, h => by
    rw [List.cons_append, look_cons, if_neg, look_append x k l j (fun b' hb => h b' (List.mem_cons_of_mem _ hb))]
    intro e; subst e; exact h b (by simp)

theorem look_mem {β : Type} (x : β) : ∀ (l : List (Nat × β)) (j : Nat), look x l j = x ∨ (j, look x l j) ∈ l
  | [], _ => .inl rfl
  | (i, b) :: l, j => by
    rw [look_cons]
    by_cases h : i = j
    · subst h; rw [if_pos rfl]; exact .inr (by simp)
    · rw [if_neg h]; exact (look_mem x l j).imp id (List.mem_cons_of_mem _)

def slIds : List (Nat × V) → List Nat
  | [] => []
  | (_, v) :: l => v.ids ++ slIds l
def hpIds : List (Nat × Option Ob) → List Nat
  | [] => []
  | (i, some o) :: l => i :: (o.ids ++ hpIds l)
  | (i, none) :: l => i :: hpIds l
def St.ids (α : St) : List Nat := slIds α.sl ++ (hpIds α.hp ++ α.pin)

theorem slIds_mem : ∀ {l : List (Nat × V)} {s v}, (s, v) ∈ l → ∀ id ∈ v.ids, id ∈ slIds l
  | (_, _) :: l, s, v, h, id, hid => by
    rcases List.mem_cons.1 h with h | h
    · cases h; simp [slIds, hid]
    · simp [slIds, slIds_mem h id hid]

theorem hpIds_mem : ∀ {l : List (Nat × Option Ob)} {i o}, (i, o) ∈ l → i ∈ hpIds l
  | (_, none) :: l, i, o, h => by
    rcases List.mem_cons.1 h with h | h
    · cases h; simp [hpIds]
    · simp [hpIds, hpIds_mem h]
  | (_, some _) :: l, i, o, h => by
    rcases List.mem_cons.1 h with h | h
    · cases h; simp [hpIds]
    · simp [hpIds, hpIds_mem h]

theorem hpIds_ob : ∀ {l : List (Nat × Option Ob)} {i o}, (i, some o) ∈ l → ∀ id ∈ o.ids, id ∈ hpIds l
  | (_, none) :: l, i, o, h, id, hid => by
    rcases List.mem_cons.1 h with h | h
    · cases h
    · simp [hpIds, hpIds_ob h id hid]
  | (_, some _) :: l, i, o, h, id, hid => by
    rcases List.mem_cons.1 h with h | h
    · cases h; simp [hpIds, hid]
    · simp [hpIds, hpIds_ob h id hid]

theorem St.get_ids (α : St) (s : Nat) : ∀ id ∈ (α.get s).ids, id ∈ α.ids := by
  intro id hid
  rcases look_mem V.junk α.sl s with h | h
  · unfold St.get at hid; rw [h] at hid; simp [V.ids] at hid
  · exact List.mem_append_left _ (slIds_mem h id hid)

theorem St.ob_ids (α : St) {i : Nat} {o : Ob} (h : α.ob i = some o) : i ∈ α.ids ∧ ∀ id ∈ o.ids, id ∈ α.ids := by
  rcases look_mem none α.hp i with h' | h'
  · unfold St.ob at h; rw [h'] at h; cases h
  · unfold St.ob at h; rw [h] at h'
    exact ⟨List.mem_append_right _ (List.mem_append_left _ (hpIds_mem h')), fun id hid => List.mem_append_right _ (List.mem_append_left _ (hpIds_ob h' id hid))⟩

structure Ctx where
  w0 : World
  S : Nat → Prop
  X : List Nat
  β0 : Nat → Value

def Sof (c : Ctx) (α : St) (φ : Nat → List Nat) (b : Nat) : Prop := c.S b ∨ ∃ id o, α.ob id = some o ∧ b ∈ φ id

structure Rel (c : Ctx) (α : St) (a : Act) (w : World) (β : Nat → Value) (φ : Nat → List Nat) : Prop where
  defers : a.defers = []
  size : a.tmps.size = α.n
  slots : ∀ s, VR (Sof c α φ) w β (α.get s) (a.tmps.getD s undef)
  objs : ∀ id o, α.ob id = some o → OR (Sof c α φ) w β o (β id) (φ id)
  nodup : ∀ id o, α.ob id = some o → (φ id).Nodup
  apart : ∀ i j oi oj, α.ob i = some oi → α.ob j = some oj → i ≠ j → ∀ b ∈ φ i, b ∉ φ j
  mine : ∀ id o, α.ob id = some o → ∀ b ∈ φ id, c.w0.heap.size ≤ b ∨ b ∈ c.X
  keep : Keep c.X c.w0 w
  heads : ∀ id ∈ α.pin, β id = c.β0 id

def R (c : Ctx) (α : St) (a : Act) (w : World) : Prop := ∃ β φ, Rel c α a w β φ

structure Upd where
  kill : List Nat := []
  set : List (Nat × Ob) := []
  new : List Nat := []

def Upd.hp (u : Upd) : List (Nat × Option Ob) := (u.set.map fun p => (p.1, some p.2)) ++ (u.kill.map fun i => (i, none))

def St.put (α : St) (dst : Option Nat) (v : V) : St :=
  match dst with
  | some d => { α with sl := (d, v) :: α.sl }
  | none => α
def St.upd (α : St) (u : Upd) : St := { α with hp := u.hp ++ α.hp }
def St.app (α : St) (dst : Option Nat) (v : V) (u : Upd) : St := (α.upd u).put dst v

@[simp] theorem St.ob_put (α : St) (dst : Option Nat) (v : V) (i : Nat) : (α.put dst v).ob i = α.ob i := by cases dst <;> rfl
@[simp] theorem St.get_upd (α : St) (u : Upd) (s : Nat) : (α.upd u).get s = α.get s := rfl
@[simp] theorem St.n_put (α : St) (dst : Option Nat) (v : V) : (α.put dst v).n = α.n := by cases dst <;> rfl
@[simp] theorem St.n_upd (α : St) (u : Upd) : (α.upd u).n = α.n := rfl
theorem St.get_put (α : St) (dst : Option Nat) (v : V) (s : Nat) : (α.put dst v).get s = if dst = some s then v else α.get s := by
  cases dst with
  | none => rfl
  | some d => simp [St.put, St.get, look_cons]

theorem Upd.ob_cases {u : Upd} {α : St} {i : Nat} {o : Ob} (h : (α.upd u).ob i = some o) :
    (i, o) ∈ u.set ∨ (α.ob i = some o ∧ i ∉ u.kill ∧ ∀ o', (i, o') ∉ u.set) := by
  by_cases hm : ∃ b, (i, b) ∈ u.hp
  · have key : ∀ (k l : List (Nat × Option Ob)), (∃ b, (i, b) ∈ k) → (i, look none (k ++ l) i) ∈ k := by
      intro k l
      induction k with
      | nil => rintro ⟨b, hb⟩; cases hb
      | cons p k ih =>
        obtain ⟨j, b⟩ := p
        rintro ⟨b', hb'⟩
        rw [List.cons_append, look_cons]
        by_cases hj : j = i
        · subst hj; rw [if_pos rfl]; simp
        · rw [if_neg hj]
          refine List.mem_cons_of_mem _ (ih ⟨b', ?_⟩)
          rcases List.mem_cons.1 hb' with h | h
          · cases h; exact absurd rfl hj
          · exact h
    have h1 := key u.hp α.hp hm
    have h2 : look none (u.hp ++ α.hp) i = some o := h
    rw [h2] at h1
    unfold Upd.hp at h1
    rcases List.mem_append.1 h1 with h1 | h1
    · obtain ⟨⟨j, o'⟩, hp, he⟩ := List.mem_map.1 h1
      cases he; exact .inl hp
    · obtain ⟨j, _, he⟩ := List.mem_map.1 h1
      cases he
  · have hno : ∀ b, (i, b) ∉ u.hp := fun b hb => hm ⟨b, hb⟩
    have h2 : look none (u.hp ++ α.hp) i = some o := h
    rw [look_append none u.hp α.hp i hno] at h2
    refine .inr ⟨h2, fun hk => hno none ?_, fun o' ho' => hno (some o') ?_⟩
    · exact List.mem_append_right _ (List.mem_map.2 ⟨i, hk, rfl⟩)
    · exact List.mem_append_left _ (List.mem_map.2 ⟨(i, o'), ho', rfl⟩)

structure StepOK (c : Ctx) (α : St) (w : World) (β : Nat → Value) (φ : Nat → List Nat) (u : Upd) (w' : World) (β' : Nat → Value) (φ' : Nat → List Nat) : Prop where
  os : w'.os = w.os
  tape : w'.tape = w.tape
  output : w'.output = w.output
  size : w.heap.size ≤ w'.heap.size
  block : ∀ b, b < w.heap.size → (¬ Sof c α φ b ∨ ∃ id o, α.ob id = some o ∧ id ∉ u.kill ∧ (∀ o', (id, o') ∉ u.set) ∧ b ∈ φ id) → w'.heap[b]? = w.heap[b]?
  old : ∀ b, b < c.w0.heap.size → b ∉ c.X → w'.heap[b]? = w.heap[b]?
  head : ∀ id ∈ α.ids, β' id = β id
  foot : ∀ id o, α.ob id = some o → (∀ o', (id, o') ∉ u.set) → φ' id = φ id
  objs : ∀ id o, (id, o) ∈ u.set → (α.upd u).ob id = some o → OR (Sof c (α.upd u) φ') w' β' o (β' id) (φ' id)
  nodup : ∀ id o, (id, o) ∈ u.set → (φ' id).Nodup
  apart : ∀ i j oi oj, (i, oi) ∈ u.set → (j, oj) ∈ u.set → i ≠ j → ∀ b ∈ φ' i, b ∉ φ' j
  from_ : ∀ id o, (id, o) ∈ u.set → ∀ b ∈ φ' id, w.heap.size ≤ b ∨ ∃ k ok, α.ob k = some ok ∧ b ∈ φ k ∧ (k ∈ u.kill ∨ ∃ o', (k, o') ∈ u.set)

theorem Rel.sof_sub {c α a w β φ u w' β' φ'} (_h : Rel c α a w β φ) (hs : StepOK c α w β φ u w' β' φ') :
    ∀ b, Sof c (α.upd u) φ' b → Sof c α φ b ∨ w.heap.size ≤ b := by
  rintro b (hb | ⟨id, o, ho, hb⟩)
  · exact .inl (.inl hb)
  · rcases Upd.ob_cases ho with hset | ⟨ho', _, hns⟩
    · rcases hs.from_ id o hset b hb with h1 | ⟨k, ok, hk, hbk, _⟩
      · exact .inr h1
      · exact .inl (.inr ⟨k, ok, hk, hbk⟩)
    · rw [hs.foot id o ho' hns] at hb
      exact .inl (.inr ⟨id, o, ho', hb⟩)

theorem Rel.step {c α a w β φ u w' β' φ'} (h : Rel c α a w β φ) (hs : StepOK c α w β φ u w' β' φ') (dst : Option Nat) (hd : ∀ d, dst = some d → d < α.n)
    (v : V) (val : Value) (hv : VR (Sof c (α.upd u) φ') w' β' v val) : Rel c (α.app dst v u) (a.put dst val) w' β' φ' := by
  have hsub := h.sof_sub hs
  have hag : Agree (Sof c α φ) [] w w' := ⟨fun b hb hx => hs.block b hb (.inl (hx.resolve_right (by simp))), hs.size⟩
  have hS : ∀ b, Sof c (α.app dst v u) φ' b ↔ Sof c (α.upd u) φ' b := by intro b; simp [Sof, St.app]
  have hSe : Sof c (α.app dst v u) φ' = Sof c (α.upd u) φ' := funext fun b => propext (hS b)
  refine ⟨?_, ?_, ?_, ?_, ?_, ?_, ?_, ?_, ?_⟩
  · cases dst <;> exact h.defers
  · cases dst <;> simp [Act.put, St.app, h.size]
  · intro s
    rw [hSe]
    unfold St.app
    rw [St.get_put]
    by_cases hds : dst = some s
    · rw [if_pos hds]
      subst hds
      have : s < a.tmps.size := by rw [h.size]; exact hd s rfl
      simp [Act.put, this]
      exact hv
    · rw [if_neg hds]
      have he : (a.put dst val).tmps.getD s undef = a.tmps.getD s undef := by
        cases dst with
        | none => rfl
        | some d =>
          have hne : d ≠ s := fun e => hds (by rw [e])
          simp [Act.put, Array.getElem?_setIfInBounds_ne hne]
      rw [he]
      exact (h.slots s).move hag hsub fun id hid => hs.head id (α.get_ids s id hid)
  · intro id o ho
    rw [hSe]
    rw [St.app, St.ob_put] at ho
    rcases Upd.ob_cases ho with hset | ⟨ho', hnk, hns⟩
    · exact hs.objs id o hset ho
    · rw [hs.foot id o ho' hns, hs.head id (α.ob_ids ho').1]
      refine (h.objs id o ho').move ⟨fun b hb hx => hs.block b hb ?_, hs.size⟩ hsub fun i hi => hs.head i ((α.ob_ids ho').2 i hi)
      exact hx.imp (fun y => y) fun hb' => ⟨id, o, ho', hnk, hns, hb'⟩
  · intro id o ho
    rw [St.app, St.ob_put] at ho
    rcases Upd.ob_cases ho with hset | ⟨ho', _, hns⟩
    · exact hs.nodup id o hset
    · rw [hs.foot id o ho' hns]; exact h.nodup id o ho'
  · intro i j oi oj hi hj hij b hbi hbj
    rw [St.app, St.ob_put] at hi hj
    rcases Upd.ob_cases hi with si | ⟨hi', nki, nsi⟩ <;> rcases Upd.ob_cases hj with sj | ⟨hj', nkj, nsj⟩
    · exact hs.apart i j oi oj si sj hij b hbi hbj
    · rw [hs.foot j oj hj' nsj] at hbj
      rcases hs.from_ i oi si b hbi with h1 | ⟨k, ok, hk, hbk, hx⟩
      · have := (h.objs j oj hj').lt b hbj; omega
      · refine h.apart k j ok oj hk hj' ?_ b hbk hbj
        rintro rfl
        rcases hx with hx | ⟨o', hx⟩
        · exact nkj hx
        · exact nsj o' hx
    · rw [hs.foot i oi hi' nsi] at hbi
      rcases hs.from_ j oj sj b hbj with h1 | ⟨k, ok, hk, hbk, hx⟩
      · have := (h.objs i oi hi').lt b hbi; omega
      · refine h.apart k i ok oi hk hi' ?_ b hbk hbi
        rintro rfl
        rcases hx with hx | ⟨o', hx⟩
        · exact nki hx
        · exact nsi o' hx
    · rw [hs.foot i oi hi' nsi] at hbi
      rw [hs.foot j oj hj' nsj] at hbj
      exact h.apart i j oi oj hi' hj' hij b hbi hbj
  · intro id o ho b hb
    rw [St.app, St.ob_put] at ho
    rcases Upd.ob_cases ho with hset | ⟨ho', _, hns⟩
    · rcases hs.from_ id o hset b hb with h1 | ⟨k, ok, hk, hbk, _⟩
      · exact .inl (Nat.le_trans h.keep.size h1)
      · exact h.mine k ok hk b hbk
    · rw [hs.foot id o ho' hns] at hb
      exact h.mine id o ho' b hb
  · exact ⟨hs.os.trans h.keep.os, hs.tape.trans h.keep.tape, hs.output.trans h.keep.output, Nat.le_trans h.keep.size hs.size,
      fun b hb hx => (hs.old b hb hx).trans (h.keep.block b hb hx)⟩
  · intro id hid
    have hid' : id ∈ α.pin := by cases dst <;> exact hid
    rw [hs.head id (List.mem_append_right _ (List.mem_append_right _ hid'))]
    exact h.heads id hid'

theorem Rel.pure {c α a w β φ} (h : Rel c α a w β φ) (dst : Option Nat) (hd : ∀ d, dst = some d → d < α.n) (v : V) (val : Value) (hv : VR (Sof c α φ) w β v val) :
    Rel c (α.put dst v) (a.put dst val) w β φ := by
  have hS : Sof c (α.upd {}) φ = Sof c α φ := rfl
  exact h.step (u := {}) (w' := w) (β' := β) (φ' := φ)
    ⟨rfl, rfl, rfl, Nat.le_refl _, fun _ _ _ => rfl, fun _ _ _ => rfl, fun _ _ => rfl, fun _ _ _ _ => rfl, fun _ _ h => by simp at h, fun _ _ h => by simp at h,
      fun _ _ _ _ h => by simp at h, fun _ _ h => by simp at h⟩ dst hd v val (by rw [hS]; exact hv)

theorem Rel.drew {c α a w β φ} (h : Rel c α a w β φ) (m : Nat) : Rel c α a { w with drawn := m } β φ := by
  have hS : Sof c (α.upd {}) φ = Sof c α φ := rfl
  have := h.step (u := {}) (w' := { w with drawn := m }) (β' := β) (φ' := φ)
    ⟨rfl, rfl, rfl, Nat.le_refl _, fun _ _ _ => rfl, fun _ _ _ => rfl, fun _ _ => rfl, fun _ _ _ _ => rfl, fun _ _ h => by simp at h, fun _ _ h => by simp at h,
      fun _ _ _ _ h => by simp at h, fun _ _ h => by simp at h⟩ none (by simp) .junk undef (by rw [VR]; trivial)
  exact this

theorem Rel.new {c α a w β φ} (h : Rel c α a w β φ) (dst : Option Nat) (hd : ∀ d, dst = some d → d < α.n) (id : Nat) (hid : id ∉ α.ids) (o : Ob) (w' : World) (hdr : Value) (F : List Nat)
    (hos : w'.os = w.os) (htape : w'.tape = w.tape) (hout : w'.output = w.output) (hsize : w.heap.size ≤ w'.heap.size)
    (hblock : ∀ b, b < w.heap.size → w'.heap[b]? = w.heap[b]?) (hF : ∀ b ∈ F, w.heap.size ≤ b) (hn : F.Nodup)
    (ho : ∀ S', (∀ b, S' b → Sof c α φ b ∨ w.heap.size ≤ b) → ∀ β', (∀ i ∈ α.ids, β' i = β i) → OR S' w' β' o hdr F)
    (v : V) (val : Value) (hv : ∀ S', (∀ b, S' b → Sof c α φ b ∨ w.heap.size ≤ b) → ∀ β', (∀ i ∈ α.ids, β' i = β i) → β' id = hdr → VR S' w' β' v val) :
    R c (α.app dst v { set := [(id, o)], new := [id] }) (a.put dst val) w' := by
  have hob : α.ob id = none := by
    cases hx : α.ob id with
    | none => rfl
    | some o' => exact absurd (α.ob_ids hx).1 hid
  let β' : Nat → Value := fun i => if i = id then hdr else β i
  let φ' : Nat → List Nat := fun i => if i = id then F else φ i
  have hb1 : β' id = hdr := by simp [β']
  have hf1 : φ' id = F := by simp [φ']
  have hb2 : ∀ i ∈ α.ids, β' i = β i := fun i hi => by
    have : i ≠ id := fun e => hid (e ▸ hi)
    simp [β', this]
  have hsok : StepOK c α w β φ { set := [(id, o)], new := [id] } w' β' φ' := by
    refine ⟨hos, htape, hout, hsize, fun b hb _ => hblock b hb, fun b hb _ => ?_, hb2, ?_, ?_, ?_, ?_, ?_⟩
    · exact hblock b (Nat.lt_of_lt_of_le hb h.keep.size)
    · intro i oi hi hns
      have : i ≠ id := fun e => by subst e; rw [hob] at hi; cases hi
      simp [φ', this]
    · intro i oi hi _
      simp at hi
      obtain ⟨rfl, rfl⟩ := hi
      rw [hb1, hf1]
      refine ho _ ?_ β' hb2
      rintro b (hb | ⟨j, oj, hj, hb⟩)
      · exact .inl (.inl hb)
      · rcases Upd.ob_cases hj with hset | ⟨hj', _, hns⟩
        · simp at hset
          obtain ⟨rfl, rfl⟩ := hset
          rw [hf1] at hb
          exact .inr (hF b hb)
        · have : j ≠ i := fun e => hns oi (by simp [e])
          simp [φ', this] at hb
          exact .inl (.inr ⟨j, oj, hj', hb⟩)
    · intro i oi hi
      simp at hi
      obtain ⟨rfl, rfl⟩ := hi
      rw [hf1]; exact hn
    · intro i j oi oj hi hj hij
      simp at hi hj
      exact absurd (hi.1.trans hj.1.symm) hij
    · intro i oi hi b hb
      simp at hi
      obtain ⟨rfl, rfl⟩ := hi
      rw [hf1] at hb
      exact .inl (hF b hb)
  exact ⟨β', φ', h.step hsok dst hd v val (hv _ (h.sof_sub hsok) β' hb2 hb1)⟩

end Go.AM
