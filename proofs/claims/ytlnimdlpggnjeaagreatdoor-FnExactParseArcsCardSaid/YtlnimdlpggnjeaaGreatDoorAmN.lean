/-
  The abstract machine, part N: a region whose operations may come in more than one order: one walk in the order of the text serves them all, if operations that nothing orders do not touch what the other looks at.
-/
import Derived.Test.YtlnimdlpggnjeaaGreatDoorAmM
import Derived.Still
namespace Go.AM

def tmpsOf : List Operand → List Nat
  | [] => []
  | .tmp t :: l => t :: tmpsOf l
  | _ :: l => tmpsOf l

def rdOf (o : Oper) : List Nat := tmpsOf o.op.operands.toList

def St.evOn (α : St) (ts : List Nat) : Operand → V
  | .tmp t => bif ts.contains t then α.get t else .junk
  | .const v => constV v
  | .global g => .c (.pointer (some ⟨g, 0, none⟩))
  | .func f => .fn f []

def St.obOn (α : St) (fp : List Nat) (id : Nat) : Option Ob := bif fp.contains id then α.ob id else none

structure Tr where
  o : Oper
  fp : List Nat
  v : V
  u : Upd

def Tr.app (t : Tr) (α : St) : St := α.app t.o.dst t.v t.u

def guardSlot (all : Array Oper) (o : Oper) : List Nat :=
  match o.guard with
  | none => []
  | some (j, _) => ((all[j]?).bind (·.dst)).toList

def StepAt (P : Program) (all : Array Oper) (α : St) (t : Tr) : Prop :=
  (wantA all α t.o = some true ∧ Ev P (α.evOn (rdOf t.o)) (α.obOn t.fp) t.o t.v t.u ∨ wantA all α t.o = some false ∧ t.v = .c undef ∧ t.u = {}) ∧ freshB t.u.new α = true ∧ dstB t.o α.n = true

inductive ChD (P : Program) (all : Array Oper) (K : St → List Tr → Prop) : List Oper → St → List Tr → Prop
  | nil {α tr} (h : K α tr) : ChD P all K [] α tr
  | step {o rest α tr v u} (fp : List Nat) (hw : wantA all α o = some true) (he : Ev P (α.evOn (rdOf o)) (α.obOn fp) o v u) (hf : freshB u.new α = true) (hd : dstB o α.n = true)
      (r : ChD P all K rest (α.app o.dst v u) (tr ++ [⟨o, fp, v, u⟩])) : ChD P all K (o :: rest) α tr
  | skip {o rest α tr} (hw : wantA all α o = some false) (hd : dstB o α.n = true) (r : ChD P all K rest (α.put o.dst (.c undef)) (tr ++ [⟨o, [], .c undef, {}⟩])) : ChD P all K (o :: rest) α tr

def foldT (α : St) (ts : List Tr) : St := ts.foldl (fun α t => t.app α) α

theorem ChD.data {P : Program} {all : Array Oper} {K : St → List Tr → Prop} : ∀ {l : List Oper} {α : St} {acc : List Tr}, ChD P all K l α acc →
    ∃ ts, K (foldT α ts) (acc ++ ts) ∧ ts.map Tr.o = l ∧ ∀ i t, ts[i]? = some t → StepAt P all (foldT α (ts.take i)) t
  | _, α, acc, .nil h => ⟨[], by simpa [foldT] using h, rfl, by simp⟩
  | _, α, acc, .step (o := o) (v := v) (u := u) fp hw he hf hd r => by
    obtain ⟨ts, h1, h2, h3⟩ := ChD.data r
    refine ⟨⟨o, fp, v, u⟩ :: ts, by simpa [foldT, Tr.app] using h1, by simp [h2], ?_⟩
    intro i t hi
    cases i with
    | zero => simp at hi; subst hi; exact ⟨.inl ⟨hw, he⟩, hf, hd⟩
    | succ i => simpa [foldT, Tr.app] using h3 i t (by simpa using hi)
  | _, α, acc, .skip (o := o) hw hd r => by
    obtain ⟨ts, h1, h2, h3⟩ := ChD.data r
    refine ⟨⟨o, [], .c undef, {}⟩ :: ts, by simpa [foldT, Tr.app, St.app, St.upd, Upd.hp] using h1, by simp [h2], ?_⟩
    intro i t hi
    cases i with
    | zero => simp at hi; subst hi; exact ⟨.inr ⟨hw, rfl, rfl⟩, rfl, hd⟩
    | succ i => simpa [foldT, Tr.app, St.app, St.upd, Upd.hp] using h3 i t (by simpa using hi)

def edgesOf (o : Oper) : List Nat := (o.after.toList.filter (Region.binds .any)).map (·.on)
def dd : List Nat → Nat → List Nat
  | [], _ => []
  | e :: r, m => bif Nat.testBit m e then dd r m else e :: dd r (Nat.lor m (Nat.shiftLeft 1 e))
def pre (acc : List (List Nat)) : List Nat → Nat → List Nat
  | [], _ => []
  | e :: r, m => bif Nat.testBit m e then pre acc r m else e :: (acc.getD e [] ++ pre acc r ((acc.getD e []).foldl (fun a x => Nat.lor a (Nat.shiftLeft 1 x)) (Nat.lor m (Nat.shiftLeft 1 e))))
def clo (acc : List (List Nat)) (o : Oper) : List Nat := dd (pre acc (edgesOf o).reverse 0) 0
theorem dd_mem {k : Nat} : ∀ {l : List Nat} {m : Nat}, k ∈ dd l m → k ∈ l
  | [], _, h => h
  | e :: r, m, h => by
    rw [dd] at h
    cases hb : Nat.testBit m e with
    | true => rw [hb] at h; exact List.mem_cons_of_mem _ (dd_mem h)
    | false =>
      rw [hb] at h
      rcases List.mem_cons.1 h with h | h
      · subst h; exact List.mem_cons_self
      · exact List.mem_cons_of_mem _ (dd_mem h)
theorem pre_mem {acc : List (List Nat)} {k : Nat} : ∀ {l : List Nat} {m : Nat}, k ∈ pre acc l m → k ∈ l ∨ ∃ e ∈ l, k ∈ acc.getD e []
  | [], _, h => by rw [pre] at h; cases h
  | e :: r, m, h => by
    have more : (k ∈ r ∨ ∃ e ∈ r, k ∈ acc.getD e []) → k ∈ e :: r ∨ ∃ e' ∈ e :: r, k ∈ acc.getD e' [] := by
      rintro (h | ⟨e', he, h⟩)
      · exact .inl (List.mem_cons_of_mem _ h)
      · exact .inr ⟨e', List.mem_cons_of_mem _ he, h⟩
    rw [pre] at h
    cases hb : Nat.testBit m e with
    | true => rw [hb] at h; exact more (pre_mem h)
    | false =>
      rw [hb] at h
      rcases List.mem_cons.1 h with h | h
      · subst h; exact .inl List.mem_cons_self
      · rcases List.mem_append.1 h with h | h
        · exact .inr ⟨e, List.mem_cons_self, h⟩
        · exact more (pre_mem h)
theorem clo_mem {acc : List (List Nat)} {o : Oper} {k : Nat} (h : k ∈ clo acc o) : k ∈ edgesOf o ∨ ∃ e ∈ edgesOf o, k ∈ acc.getD e [] := by
  rcases pre_mem (dd_mem h) with h | ⟨e, he, h⟩
  · exact .inl (List.mem_reverse.1 h)
  · exact .inr ⟨e, List.mem_reverse.1 he, h⟩
def befs : List Oper → List (List Nat) → List (List Nat)
  | [], acc => acc
  | o :: r, acc => befs r (acc ++ [clo acc o])

def keysOf (u : Upd) : List Nat := u.set.map Prod.fst ++ u.kill
def mentions (t : Tr) : List Nat := t.v.ids ++ hpIds t.u.hp
def meets (a b : List Nat) : Bool := a.any fun x => b.contains x

def apartB (all : Array Oper) (x y : Tr) : Bool :=
  let dx := x.o.dst.toList; let dy := y.o.dst.toList
  !meets dx (rdOf y.o ++ guardSlot all y.o) && !meets dy (rdOf x.o ++ guardSlot all x.o) && !meets dx dy &&
  !meets (keysOf x.u) y.fp && !meets (keysOf y.u) x.fp && !meets (keysOf x.u) (keysOf y.u) &&
  !meets x.u.new (mentions y) && !meets y.u.new (mentions x)

def pairsB (all : Array Oper) (bs : List (List Nat)) (ts : List Tr) : Bool :=
  ts.zipIdx.all fun (y, j) => ts.zipIdx.all fun (x, i) => !(Nat.blt i j) || (bs.getD j []).contains i || apartB all x y

def backB (ops : List Oper) : Bool := ops.zipIdx.all fun (o, i) => (edgesOf o).all fun e => Nat.blt e i

def drawB (all : Array Oper) (ts : List Tr) : Bool :=
  let ops := ts.map Tr.o
  backB ops && pairsB all (befs ops []) ts && ts.all fun t => t.o.dst.isSome || t.v.ids.isEmpty

def foldM : Nat → (Nat → Bool) → St → List Tr → St
  | _, _, α, [] => α
  | k, m, α, t :: ts => foldM (k + 1) m (if m k = true then t.app α else α) ts

theorem Tr.app_n (t : Tr) (α : St) : (t.app α).n = α.n := by simp [Tr.app, St.app]
theorem Tr.app_pin (t : Tr) (α : St) : (t.app α).pin = α.pin := by unfold Tr.app St.app St.upd St.put; cases t.o.dst <;> rfl
theorem Tr.app_get (t : Tr) (α : St) (s : Nat) : (t.app α).get s = if t.o.dst = some s then t.v else α.get s := by unfold Tr.app St.app; rw [St.get_put]; rfl
theorem Tr.app_ob (t : Tr) (α : St) (i : Nat) : (t.app α).ob i = look none (t.u.hp ++ α.hp) i := by unfold Tr.app St.app; rw [St.ob_put]; rfl

theorem keys_hp {u : Upd} {i : Nat} : i ∈ keysOf u ↔ ∃ b, (i, b) ∈ u.hp := by
  unfold keysOf Upd.hp
  constructor
  · intro h
    rcases List.mem_append.1 h with h | h
    · obtain ⟨p, hp, rfl⟩ := List.mem_map.1 h
      exact ⟨some p.2, List.mem_append_left _ (List.mem_map.2 ⟨p, hp, rfl⟩)⟩
    · exact ⟨none, List.mem_append_right _ (List.mem_map.2 ⟨i, h, rfl⟩)⟩
  · rintro ⟨b, h⟩
    rcases List.mem_append.1 h with h | h
    · obtain ⟨p, hp, he⟩ := List.mem_map.1 h
      cases he; exact List.mem_append_left _ (List.mem_map.2 ⟨p, hp, rfl⟩)
    · obtain ⟨j, hj, he⟩ := List.mem_map.1 h
      cases he; exact List.mem_append_right _ hj

theorem look_app_congr {β : Type} (x : β) : ∀ (k l l' : List (Nat × β)) (j : Nat), look x l j = look x l' j → look x (k ++ l) j = look x (k ++ l') j
  | [], _, _, _, h => h
  | (i, b) :: k, l, l', j, h => by
    rw [List.cons_append, List.cons_append, look_cons, look_cons]
    split
    · rfl
    · exact look_app_congr x k l l' j h

theorem look_app_key {β : Type} (x : β) : ∀ (k l l' : List (Nat × β)) (j : Nat), (∃ b, (j, b) ∈ k) → look x (k ++ l) j = look x (k ++ l') j
  | [], _, _, _, ⟨b, h⟩ => by cases h
  | (i, b) :: k, l, l', j, ⟨b', h⟩ => by
    rw [List.cons_append, List.cons_append, look_cons, look_cons]
    by_cases hi : i = j
    · rw [if_pos hi, if_pos hi]
    · rw [if_neg hi, if_neg hi]
      refine look_app_key x k l l' j ⟨b', ?_⟩
      rcases List.mem_cons.1 h with h | h
      · cases h; exact absurd rfl hi
      · exact h

theorem foldM_n : ∀ (ts : List Tr) (k m α), (foldM k m α ts).n = α.n ∧ (foldM k m α ts).pin = α.pin
  | [], _, _, _ => ⟨rfl, rfl⟩
  | t :: ts, k, m, α => by
    rw [foldM]
    have := foldM_n ts (k + 1) m (if m k = true then t.app α else α)
    rw [this.1, this.2]
    split
    · exact ⟨t.app_n α, t.app_pin α⟩
    · exact ⟨rfl, rfl⟩

theorem foldM_get : ∀ (ts : List Tr) (k : Nat) (m m' : Nat → Bool) (α α' : St) (s : Nat), (∀ j t, ts[j]? = some t → m (k + j) ≠ m' (k + j) → t.o.dst ≠ some s) → α.get s = α'.get s →
    (foldM k m α ts).get s = (foldM k m' α' ts).get s
  | [], _, _, _, _, _, _, _, h => h
  | t :: ts, k, m, m', α, α', s, hd, h => by
    rw [foldM, foldM]
    refine foldM_get ts (k + 1) m m' _ _ s (fun j t' hj hm => hd (j + 1) t' (by simpa using hj) (by rw [show k + (j + 1) = k + 1 + j by omega]; exact hm)) ?_
    have h0 := hd 0 t rfl
    simp only [Nat.add_zero] at h0
    by_cases e : m k = m' k
    · rw [← e]
      split
      · rw [t.app_get, t.app_get, h]
      · exact h
    · have hne := h0 e
      have e1 : (t.app α).get s = α.get s := by rw [t.app_get, if_neg hne]
      have e2 : (t.app α').get s = α'.get s := by rw [t.app_get, if_neg hne]
      split <;> split <;> simp only [e1, e2, h]

theorem foldM_ob : ∀ (ts : List Tr) (k : Nat) (m m' : Nat → Bool) (α α' : St) (i : Nat), (∀ j t, ts[j]? = some t → m (k + j) ≠ m' (k + j) → i ∉ keysOf t.u) → α.ob i = α'.ob i →
    (foldM k m α ts).ob i = (foldM k m' α' ts).ob i
  | [], _, _, _, _, _, _, _, h => h
  | t :: ts, k, m, m', α, α', i, hd, h => by
    rw [foldM, foldM]
    refine foldM_ob ts (k + 1) m m' _ _ i (fun j t' hj hm => hd (j + 1) t' (by simpa using hj) (by rw [show k + (j + 1) = k + 1 + j by omega]; exact hm)) ?_
    have h0 := hd 0 t rfl
    simp only [Nat.add_zero] at h0
    by_cases e : m k = m' k
    · rw [← e]
      split
      · rw [t.app_ob, t.app_ob]; exact look_app_congr none _ _ _ i h
      · exact h
    · have hne := h0 e
      have hno : ∀ b, (i, b) ∉ t.u.hp := fun b hb => hne (keys_hp.2 ⟨b, hb⟩)
      have e1 : (t.app α).ob i = α.ob i := by rw [t.app_ob, look_append none _ _ i hno]; rfl
      have e2 : (t.app α').ob i = α'.ob i := by rw [t.app_ob, look_append none _ _ i hno]; rfl
      split <;> split <;> simp only [e1, e2, h]

theorem foldM_none : ∀ (ts : List Tr) (k : Nat) (α : St), foldM k (fun _ => false) α ts = α
  | [], _, _ => rfl
  | t :: ts, k, α => by rw [foldM]; simp [foldM_none ts (k + 1) α]

theorem foldM_get_last : ∀ (ts : List Tr) (i k : Nat) (m : Nat → Bool) (α : St) (s : Nat) (t : Tr), ts[i]? = some t → m (k + i) = true → t.o.dst = some s →
    (∀ j t', ts[j]? = some t' → i < j → m (k + j) = true → t'.o.dst ≠ some s) → (foldM k m α ts).get s = t.v
  | [], i, _, _, _, _, _, h, _, _, _ => by simp at h
  | t0 :: ts, 0, k, m, α, s, t, h, hm, hd, hl => by
    simp at h; subst h
    rw [foldM, if_pos (by simpa using hm)]
    rw [foldM_get ts (k + 1) m (fun _ => false) (t0.app α) (t0.app α) s (fun j t' hj hne => hl (j + 1) t' (by simpa using hj) (by omega) (by
      rw [show k + (j + 1) = k + 1 + j by omega]; simpa using hne)) rfl, foldM_none, t0.app_get, if_pos hd]
  | t0 :: ts, i + 1, k, m, α, s, t, h, hm, hd, hl => by
    rw [foldM]
    exact foldM_get_last ts i (k + 1) m _ s t (by simpa using h) (by rw [show k + 1 + i = k + (i + 1) by omega]; exact hm) hd
      (fun j t' hj hij hmj => hl (j + 1) t' (by simpa using hj) (by omega) (by rw [show k + (j + 1) = k + 1 + j by omega]; exact hmj))

theorem foldM_ob_last : ∀ (ts : List Tr) (i k : Nat) (m : Nat → Bool) (α : St) (id : Nat) (t : Tr) (l : List (Nat × Option Ob)), ts[i]? = some t → m (k + i) = true → id ∈ keysOf t.u →
    (∀ j t', ts[j]? = some t' → i < j → m (k + j) = true → id ∉ keysOf t'.u) → (foldM k m α ts).ob id = look none (t.u.hp ++ l) id
  | [], i, _, _, _, _, _, _, h, _, _, _ => by simp at h
  | t0 :: ts, 0, k, m, α, id, t, l, h, hm, hd, hl => by
    simp at h; subst h
    rw [foldM, if_pos (by simpa using hm)]
    rw [foldM_ob ts (k + 1) m (fun _ => false) (t0.app α) (t0.app α) id (fun j t' hj hne => hl (j + 1) t' (by simpa using hj) (by omega) (by
      rw [show k + (j + 1) = k + 1 + j by omega]; simpa using hne)) rfl, foldM_none, t0.app_ob]
    exact look_app_key none _ _ _ id (keys_hp.1 hd)
  | t0 :: ts, i + 1, k, m, α, id, t, l, h, hm, hd, hl => by
    rw [foldM]
    exact foldM_ob_last ts i (k + 1) m _ id t l (by simpa using h) (by rw [show k + 1 + i = k + (i + 1) by omega]; exact hm) hd
      (fun j t' hj hij hmj => hl (j + 1) t' (by simpa using hj) (by omega) (by rw [show k + (j + 1) = k + 1 + j by omega]; exact hmj))

theorem slIds_hpIds_app (t : Tr) (α : St) : ∀ id ∈ (t.app α).ids, id ∈ α.ids ∨ id ∈ mentions t := by
  have hh : ∀ (k l : List (Nat × Option Ob)), hpIds (k ++ l) = hpIds k ++ hpIds l := by
    intro k l
    induction k with
    | nil => rfl
    | cons p k ih =>
      obtain ⟨i, o⟩ := p
      cases o with
      | none => rw [List.cons_append, hpIds, hpIds, ih]; rfl
      | some o => rw [List.cons_append, hpIds, hpIds, ih]; simp
  intro id hid
  unfold Tr.app St.app St.upd St.put St.ids at hid
  cases hd : t.o.dst with
  | none =>
    rw [hd] at hid
    simp only [hh, List.mem_append] at hid
    unfold St.ids mentions
    simp only [List.mem_append]
    rcases hid with h | (h | h) | h
    · exact .inl (.inl h)
    · exact .inr (.inr h)
    · exact .inl (.inr (.inl h))
    · exact .inl (.inr (.inr h))
  | some d =>
    rw [hd] at hid
    simp only [slIds, hh, List.mem_append] at hid
    unfold St.ids mentions
    simp only [List.mem_append]
    rcases hid with (h | h) | (h | h) | h
    · exact .inr (.inl h)
    · exact .inl (.inl h)
    · exact .inr (.inr h)
    · exact .inl (.inr (.inl h))
    · exact .inl (.inr (.inr h))

theorem foldM_ids : ∀ (ts : List Tr) (k : Nat) (m : Nat → Bool) (α : St), ∀ id ∈ (foldM k m α ts).ids, id ∈ α.ids ∨ ∃ j t, ts[j]? = some t ∧ m (k + j) = true ∧ id ∈ mentions t
  | [], _, _, _, id, h => .inl h
  | t :: ts, k, m, α, id, h => by
    rw [foldM] at h
    rcases foldM_ids ts (k + 1) m _ id h with h1 | ⟨j, t', hj, hm, hi⟩
    · by_cases hk : m k = true
      · rw [if_pos hk] at h1
        rcases slIds_hpIds_app t α id h1 with h2 | h2
        · exact .inl h2
        · exact .inr ⟨0, t, rfl, by simpa using hk, h2⟩
      · rw [if_neg hk] at h1; exact .inl h1
    · exact .inr ⟨j + 1, t', by simpa using hj, by rw [show k + (j + 1) = k + 1 + j by omega]; exact hm, hi⟩

theorem app_ids (t : Tr) (α : St) : ∀ id ∈ α.ids, id ∈ (t.app α).ids := by
  have hh : ∀ (k l : List (Nat × Option Ob)), ∀ id ∈ hpIds l, id ∈ hpIds (k ++ l) := by
    intro k l id h
    induction k with
    | nil => exact h
    | cons p k ih =>
      obtain ⟨i, o⟩ := p
      cases o with
      | none => rw [List.cons_append, hpIds]; exact List.mem_cons_of_mem _ ih
      | some o => rw [List.cons_append, hpIds]; exact List.mem_cons_of_mem _ (List.mem_append_right _ ih)
  intro id hid
  unfold St.ids at hid
  unfold Tr.app St.app St.upd St.put St.ids
  simp only [List.mem_append] at hid
  cases t.o.dst with
  | none =>
    simp only [List.mem_append]
    exact hid.imp (fun y => y) (Or.imp (hh _ _ id) (fun y => y))
  | some d =>
    simp only [slIds, List.mem_append]
    exact hid.imp .inr (Or.imp (hh _ _ id) (fun y => y))

theorem foldT_ids : ∀ (ts : List Tr) (α : St), ∀ id ∈ α.ids, id ∈ (foldT α ts).ids
  | [], _, _, h => h
  | t :: ts, α, id, h => foldT_ids ts (t.app α) id (app_ids t α id h)

theorem app_mentions (t : Tr) (α : St) (hd : t.o.dst.isSome = true ∨ t.v.ids = []) : ∀ id ∈ mentions t, id ∈ (t.app α).ids := by
  have hh : ∀ (k l : List (Nat × Option Ob)), ∀ id ∈ hpIds k, id ∈ hpIds (k ++ l) := by
    intro k l id h
    induction k with
    | nil => cases h
    | cons p k ih =>
      obtain ⟨i, o⟩ := p
      cases o with
      | none =>
        rw [hpIds] at h
        rw [List.cons_append, hpIds]
        rcases List.mem_cons.1 h with h | h
        · rw [h]; simp
        · exact List.mem_cons_of_mem _ (ih h)
      | some o =>
        rw [hpIds] at h
        rw [List.cons_append, hpIds]
        rcases List.mem_cons.1 h with h | h
        · rw [h]; simp
        · refine List.mem_cons_of_mem _ ?_
          rcases List.mem_append.1 h with h | h
          · exact List.mem_append_left _ h
          · exact List.mem_append_right _ (ih h)
  intro id hid
  unfold mentions at hid
  unfold Tr.app St.app St.upd St.put St.ids
  rcases List.mem_append.1 hid with h | h
  · cases hdd : t.o.dst with
    | none => rw [hdd] at hd; rcases hd with hd | hd
              · cases hd
              · rw [hd] at h; cases h
    | some d => simp only [slIds, List.mem_append]; exact .inl (.inl h)
  · cases t.o.dst with
    | none => simp only [List.mem_append]; exact .inr (.inl (hh _ _ id h))
    | some d => simp only [slIds, List.mem_append]; exact .inr (.inl (hh _ _ id h))

theorem foldM_lt : ∀ (ts : List Tr) (k i : Nat) (α : St), foldM k (fun j => decide (j < k + i)) α ts = foldT α (ts.take i)
  | [], _, i, α => by simp [foldM, foldT]
  | t :: ts, k, 0, α => by
    rw [foldM, if_neg (by simp)]
    have := foldM_none ts (k + 1) α
    have h2 : foldM (k + 1) (fun j => decide (j < k + 0)) α ts = foldM (k + 1) (fun _ => false) α ts := by
      have key : ∀ (ts : List Tr) (q : Nat) (α : St), k ≤ q → foldM q (fun j => decide (j < k + 0)) α ts = foldM q (fun _ => false) α ts := by
        intro ts
        induction ts with
        | nil => intros; rfl
        | cons t ts ih => intro q α hq; rw [foldM, foldM, if_neg (by simp; omega), if_neg (by simp)]; exact ih (q + 1) α (by omega)
      exact key ts (k + 1) α (by omega)
    rw [h2, this]; simp [foldT]
  | t :: ts, k, i + 1, α => by
    rw [foldM, if_pos (by simp)]
    have := foldM_lt ts (k + 1) i (t.app α)
    rw [show k + (i + 1) = k + 1 + i by omega, this]
    simp [foldT]

theorem foldM_all : ∀ (ts : List Tr) (k : Nat) (m : Nat → Bool) (α : St), (∀ j, j < ts.length → m (k + j) = true) → foldM k m α ts = foldT α ts
  | [], _, _, _, _ => rfl
  | t :: ts, k, m, α, h => by
    rw [foldM, if_pos (by simpa using h 0 (by simp)), foldM_all ts (k + 1) m _ (fun j hj => by rw [show k + 1 + j = k + (j + 1) by omega]; exact h (j + 1) (by simp; omega))]
    rfl

theorem R.eqv {c : Ctx} {α α' : St} {a w} (hn : α'.n = α.n) (hp : α'.pin = α.pin) (hg : ∀ s, α'.get s = α.get s) (ho : ∀ i, α'.ob i = α.ob i) (h : R c α a w) : R c α' a w := by
  obtain ⟨β, φ, H⟩ := h
  have hS : Sof c α' φ = Sof c α φ := by funext b; simp only [Sof, ho]
  refine ⟨β, φ, ⟨H.defers, by rw [hn]; exact H.size, ?_, ?_, ?_, ?_, ?_, H.keep, ?_⟩⟩
  · intro s; rw [hS, hg]; exact H.slots s
  · intro id o h; rw [hS]; exact H.objs id o (by rw [← ho]; exact h)
  · intro id o h; exact H.nodup id o (by rw [← ho]; exact h)
  · intro i j oi oj hi hj; exact H.apart i j oi oj (by rw [← ho]; exact hi) (by rw [← ho]; exact hj)
  · intro id o h; exact H.mine id o (by rw [← ho]; exact h)
  · intro id h; exact H.heads id (by rw [← hp]; exact h)

theorem meets_spec {a b : List Nat} (h : meets a b = false) : ∀ x ∈ a, x ∉ b := by
  intro x hx hb
  have : meets a b = true := List.any_eq_true.2 ⟨x, hx, List.contains_iff_mem.2 hb⟩
  rw [h] at this; cases this

structure Apart (all : Array Oper) (x y : Tr) : Prop where
  reads : ∀ d, x.o.dst = some d → d ∉ rdOf y.o ++ guardSlot all y.o
  dst : ∀ d, x.o.dst = some d → y.o.dst ≠ some d
  fp : ∀ i ∈ keysOf x.u, i ∉ y.fp
  keys : ∀ i ∈ keysOf x.u, i ∉ keysOf y.u
  new : ∀ i ∈ x.u.new, i ∉ mentions y

theorem apartB_spec {all : Array Oper} {x y : Tr} (h : apartB all x y = true) : Apart all x y ∧ Apart all y x := by
  simp only [apartB, Bool.and_eq_true, Bool.not_eq_true'] at h
  obtain ⟨⟨⟨⟨⟨⟨⟨h1, h2⟩, h3⟩, h4⟩, h5⟩, h6⟩, h7⟩, h8⟩ := h
  refine ⟨⟨fun d hd => meets_spec h1 d (by simp [hd]), ?_, meets_spec h4, meets_spec h6, meets_spec h7⟩, ⟨fun d hd => meets_spec h2 d (by simp [hd]), ?_, meets_spec h5, ?_, meets_spec h8⟩⟩
  · intro d hd he; exact meets_spec h3 d (by simp [hd]) (by simp [he])
  · intro d hd he; exact meets_spec h3 d (by simp [he]) (by simp [hd])
  · intro i hi hj; exact meets_spec h6 i hj hi

theorem befs_closed (m : Nat → Bool) : ∀ (l : List Oper) (acc : List (List Nat)), (∀ i o, l[i]? = some o → m (acc.length + i) = true → ∀ e ∈ edgesOf o, m e = true) →
    (∀ j, m j = true → ∀ i ∈ acc.getD j [], m i = true) → ∀ j, m j = true → ∀ i ∈ (befs l acc).getD j [], m i = true
  | [], acc, _, h => h
  | o :: l, acc, he, h => by
    rw [befs]
    refine befs_closed m l _ (fun i o' hi hm => he (i + 1) o' (by simpa using hi) (by rw [show acc.length + (i + 1) = acc.length + 1 + i by omega]; simpa using hm)) ?_
    intro j hj i hi
    by_cases hlt : j < acc.length
    · exact h j hj i (by simpa [List.getD, List.getElem?_append_left hlt] using hi)
    · by_cases heq : j = acc.length
      · subst heq
        have h0 := he 0 o rfl (by simpa using hj)
        simp only [List.getD, List.getElem?_append_right (Nat.le_refl _), Nat.sub_self, List.getElem?_cons_zero, Option.getD_some] at hi
        rcases clo_mem hi with hi | ⟨e, hem, hi⟩
        · exact h0 i hi
        · exact h e (h0 e hem) i hi
      · have : (acc ++ [clo acc o])[j]? = none := by
          rw [List.getElem?_eq_none]; simp; omega
        rw [List.getD, this] at hi
        simp at hi

theorem befs_ready (m : Nat → Bool) (l : List Oper) (hm : ∀ j, m j = true → ∀ i ∈ (befs l []).getD j [], m i = true) (i : Nat) (o : Oper) (hi : l[i]? = some o) (he : ∀ e ∈ edgesOf o, m e = true) :
    ∀ k ∈ (befs l []).getD i [], m k = true := by
  have gen : ∀ (l : List Oper) (acc : List (List Nat)), ∃ r, befs l acc = acc ++ r := by
    intro l
    induction l with
    | nil => intro acc; exact ⟨[], by simp [befs]⟩
    | cons o l ih => intro acc; rw [befs]; obtain ⟨r, hr⟩ := ih (acc ++ [clo acc o]); exact ⟨_, by rw [hr, List.append_assoc]⟩
  have at' : ∀ (l : List Oper) (acc : List (List Nat)) (i : Nat) (o : Oper), l[i]? = some o → ∀ k ∈ (befs l acc).getD (acc.length + i) [], k ∈ edgesOf o ∨ ∃ e ∈ edgesOf o, k ∈ (befs l acc).getD e [] := by
    intro l
    induction l with
    | nil => intro acc i o h; simp at h
    | cons o' l ih =>
      intro acc i o h
      rw [befs]
      cases i with
      | zero =>
        simp at h; subst h
        intro k hk
        obtain ⟨r, hr⟩ := gen l (acc ++ [clo acc o'])
        rw [hr] at hk ⊢
        simp only [Nat.add_zero, List.getD, List.append_assoc, List.getElem?_append_right (Nat.le_refl _), Nat.sub_self, List.cons_append, List.getElem?_cons_zero, Option.getD_some] at hk
        rcases clo_mem hk with hk | ⟨e, he, hk⟩
        · exact .inl hk
        · refine .inr ⟨e, he, ?_⟩
          by_cases hl : e < acc.length
          · simpa [List.getD, List.append_assoc, List.getElem?_append_left hl] using hk
          · rw [List.getD_eq_getElem?_getD, List.getElem?_eq_none (by omega)] at hk; simp at hk
      | succ i =>
        have := ih (acc ++ [clo acc o']) i o (by simpa using h)
        rw [show acc.length + (i + 1) = (acc ++ [clo acc o']).length + i by simp; omega]
        exact this
  intro k hk
  rcases at' l [] i o hi k (by simpa using hk) with h | ⟨e, h, h'⟩
  · exact he k h
  · exact hm e (he e h) k h'

theorem wantA_congr {all : Array Oper} {α γ : St} {o : Oper} (hn : α.n = γ.n) (h : ∀ s ∈ guardSlot all o, α.get s = γ.get s) : wantA all α o = wantA all γ o := by
  unfold wantA
  cases hg : o.guard with
  | none => rfl
  | some q =>
    obtain ⟨j, want⟩ := q
    simp only []
    cases ht : (all[j]?).bind (·.dst) with
    | none => rfl
    | some t =>
      simp only []
      rw [h t (by simp [guardSlot, hg, ht]), hn]

theorem mem_take_mentions {ts : List Tr} (hd : ∀ t ∈ ts, t.o.dst.isSome = true ∨ t.v.ids = []) : ∀ (α : St) (i j : Nat) (t : Tr), ts[j]? = some t → j < i → ∀ id ∈ mentions t, id ∈ (foldT α (ts.take i)).ids := by
  induction ts with
  | nil => intro α i j t h; simp at h
  | cons t0 ts ih =>
    intro α i j t h hji id hid
    cases i with
    | zero => omega
    | succ i =>
      rw [List.take_succ_cons]
      change id ∈ (foldT (t0.app α) (ts.take i)).ids
      cases j with
      | zero =>
        simp at h; subst h
        exact foldT_ids _ _ id (app_mentions t0 α (hd t0 (by simp)) id hid)
      | succ j => exact ih (fun t ht => hd t (List.mem_cons_of_mem _ ht)) (t0.app α) i j t (by simpa using h) (by omega) id hid

theorem draw_main {P : Program} {c : Ctx} (hc : CtxOK c) {l : List Oper} {α0 : St} {ts : List Tr} {Q : Exit → Act → World → Prop} (ho : ts.map Tr.o = l)
    (hs : ∀ i t, ts[i]? = some t → StepAt P l.toArray (foldT α0 (ts.take i)) t) (hb : drawB l.toArray ts = true) (hQ : ∀ a w, R c (foldT α0 ts) a w → Q .normal a w) :
    ∀ (fuel : Nat) (listed : Array Bool) (a : Act) (w : World), listed.size = l.length → listed.toList.count false ≤ fuel →
      (∀ j o, l[j]? = some o → listed.getD j false = true → ∀ e ∈ edgesOf o, listed.getD e false = true) →
      R c (foldM 0 (fun j => listed.getD j false) α0 ts) a w → wpAny P .any l.toArray Q fuel listed a w := by
  have hlen : ts.length = l.length := by rw [← ho]; simp
  simp only [drawB, Bool.and_eq_true, ho] at hb
  obtain ⟨⟨hback, hpairs⟩, hdst⟩ := hb
  have hdst' : ∀ t ∈ ts, t.o.dst.isSome = true ∨ t.v.ids = [] := by
    intro t ht
    have := List.all_eq_true.1 hdst t ht
    simpa [Bool.or_eq_true] using this
  have hops : ∀ (i : Nat) (o : Oper), l[i]? = some o → ∃ t : Tr, ts[i]? = some t ∧ t.o = o := by
    intro i o hi
    rw [← ho, List.getElem?_map] at hi
    cases ht : ts[i]? with
    | none => rw [ht] at hi; cases hi
    | some t => rw [ht] at hi; cases hi; exact ⟨t, rfl, rfl⟩
  have hap : ∀ (i j : Nat) (x y : Tr), ts[i]? = some x → ts[j]? = some y → i < j → i ∉ (befs l []).getD j [] → Apart l.toArray x y ∧ Apart l.toArray y x := by
    intro i j x y hx hy hij hno
    have h1 := List.all_eq_true.1 hpairs (y, j) (List.mem_zipIdx_iff_getElem?.2 hy)
    have h2 := List.all_eq_true.1 h1 (x, i) (List.mem_zipIdx_iff_getElem?.2 hx)
    simp only [Bool.or_eq_true, Bool.not_eq_true', List.contains_iff_mem] at h2
    rcases h2 with (h2 | h2) | h2
    · have : Nat.blt i j = true := Nat.ble_eq_true_of_le hij
      rw [this] at h2; cases h2
    · exact absurd h2 hno
    · exact apartB_spec h2
  have hall : ∀ (listed : Array Bool), listed.size = l.length → Region.ready .any l.toArray listed = [] → ∀ j, j < l.length → listed.getD j false = true := by
    intro listed hsz hr j
    induction j using Nat.strongRecOn with
    | ind j ih =>
      intro hj
      cases hlj : listed.getD j false with
      | true => rfl
      | false =>
        exfalso
        have : j ∈ Region.ready .any l.toArray listed := by
          rw [mem_ready]
          have hjs : j < listed.size := by omega
          refine ⟨?_, l[j], by simp [hj], ?_⟩
          · simp [Array.getD, hjs] at hlj ⊢; exact hlj
          · intro e he hbd
            have h1 := List.all_eq_true.1 hback (l[j], j) (List.mem_zipIdx_iff_getElem?.2 (by simp [hj]))
            have h2 := List.all_eq_true.1 h1 e.on (by
              unfold edgesOf
              exact List.mem_map.2 ⟨e, List.mem_filter.2 ⟨by simpa using he, hbd⟩, rfl⟩)
            have h3 : e.on < j := Nat.le_of_ble_eq_true h2
            exact ih e.on h3 (by omega)
        rw [hr] at this; cases this
  have hend : ∀ (listed : Array Bool) (a : Act) (w : World), listed.size = l.length → Region.ready .any l.toArray listed = [] → R c (foldM 0 (fun j => listed.getD j false) α0 ts) a w → Q .normal a w := by
    intro listed a w hsz hr hR
    rw [foldM_all ts 0 _ α0 (fun j hj => by rw [Nat.zero_add]; exact hall listed hsz hr j (by omega))] at hR
    exact hQ a w hR
  intro fuel
  induction fuel with
  | zero =>
    intro listed a w hsz hcnt hcl hR
    have hr : Region.ready .any l.toArray listed = [] := by
      cases hr : Region.ready .any l.toArray listed with
      | nil => rfl
      | cons i r =>
        exfalso
        have : i ∈ Region.ready .any l.toArray listed := by rw [hr]; simp
        have h0 := (mem_ready.1 this).1
        have hc0 := List.count_eq_zero.1 (Nat.le_zero.1 hcnt)
        apply hc0
        unfold Array.getD at h0
        split at h0
        · rename_i hlt
          rw [← h0]
          exact Array.getElem_mem_toList hlt
        · cases h0
    exact ⟨hr, hend listed a w hsz hr hR⟩
  | succ fuel ih =>
    intro listed a w hsz hcnt hcl hR
    refine ⟨fun hr => hend listed a w hsz hr hR, ?_⟩
    intro i hi
    obtain ⟨hi0, o, hio, hie⟩ := mem_ready.1 hi
    have hil : i < listed.size := by
      unfold Array.getD at hi0
      split at hi0
      · assumption
      · cases hi0
    have hmi : listed.getD i false = false := by
      simp only [Array.getD, hil, dif_pos] at hi0 ⊢; exact hi0
    have hlo : l[i]? = some o := by simpa using hio
    obtain ⟨t, hti, hto⟩ := hops i o hlo
    have hst := hs i t hti
    have hcb : ∀ j, listed.getD j false = true → ∀ k ∈ (befs l []).getD j [], listed.getD k false = true :=
      befs_closed (fun j => listed.getD j false) l [] (fun j o' hj hm => hcl j o' hj (by simpa using hm)) (fun j _ k hk => by simp [List.getD] at hk)
    have hie' : ∀ e ∈ edgesOf o, listed.getD e false = true := by
      intro e he
      unfold edgesOf at he
      obtain ⟨x, hx, rfl⟩ := List.mem_map.1 he
      obtain ⟨hx1, hx2⟩ := List.mem_filter.1 hx
      exact hie x (by simpa using hx1) hx2
    have hbi : ∀ k ∈ (befs l []).getD i [], listed.getD k false = true := befs_ready (fun j => listed.getD j false) l hcb i o hlo hie'
    have hdiff : ∀ (j : Nat) (t' : Tr), ts[j]? = some t' → listed.getD (0 + j) false ≠ decide (0 + j < 0 + i) → Apart l.toArray t' t ∧ Apart l.toArray t t' := by
      intro j t' hj hne
      simp only [Nat.zero_add] at hne
      by_cases hji : j < i
      · rw [decide_eq_true hji] at hne
        exact hap j i t' t hj hti hji (fun hm => hne (hbi j hm))
      · rw [decide_eq_false hji] at hne
        have hm : listed.getD j false = true := by simpa using hne
        have hij : i < j := by
          rcases Nat.lt_or_ge i j with h | h
          · exact h
          · have : j = i := by omega
            subst this; rw [hm] at hmi; cases hmi
        have := hap i j t t' hti hj hij (fun h => by have := hcb j hm i h; rw [this] at hmi; cases hmi)
        exact ⟨this.2, this.1⟩
    have hlater : ∀ (j : Nat) (t' : Tr), ts[j]? = some t' → i < j → listed.getD j false = true → Apart l.toArray t' t := by
      intro j t' hj hij hm
      refine (hdiff j t' hj ?_).1
      simp only [Nat.zero_add]; rw [hm, decide_eq_false (by omega)]; simp
    generalize hβ : foldM 0 (fun j => listed.getD j false) α0 ts = β at hR
    have hγ := foldM_lt ts 0 i α0
    have hn : β.n = (foldT α0 (ts.take i)).n ∧ β.pin = (foldT α0 (ts.take i)).pin := by
      rw [← hβ, ← hγ]
      exact ⟨(foldM_n ts 0 _ α0).1.trans (foldM_n ts 0 _ α0).1.symm, (foldM_n ts 0 _ α0).2.trans (foldM_n ts 0 _ α0).2.symm⟩
    have hget : ∀ s ∈ rdOf o ++ guardSlot l.toArray o, β.get s = (foldT α0 (ts.take i)).get s := by
      intro s hs'
      rw [← hβ, ← hγ]
      refine foldM_get ts 0 _ _ α0 α0 s (fun j t' hj hne hd => ?_) rfl
      exact (hdiff j t' hj hne).1.reads s hd (by rw [hto]; exact hs')
    have hob : ∀ id ∈ t.fp, β.ob id = (foldT α0 (ts.take i)).ob id := by
      intro id hid
      rw [← hβ, ← hγ]
      refine foldM_ob ts 0 _ _ α0 α0 id (fun j t' hj hne hd => ?_) rfl
      exact (hdiff j t' hj hne).1.fp id hd hid
    obtain ⟨hev, hfr, hdd⟩ := hst
    rw [hto] at hev hdd
    have hwc : wantA l.toArray β o = wantA l.toArray (foldT α0 (ts.take i)) o := wantA_congr hn.1 (fun s hs' => hget s (List.mem_append_right _ hs'))
    have hnext : ∀ a' w', R c (t.app β) a' w' → wpAny P .any l.toArray Q fuel (listed.setIfInBounds i true) a' w' := by
      intro a' w' hR'
      have hm' : ∀ j, (listed.setIfInBounds i true).getD j false = if j = i then true else listed.getD j false := by
        intro j
        by_cases hj : j = i
        · subst hj; simp [Array.getD, hil]
        · rw [if_neg hj]; exact getD_set_ne false (Ne.symm hj)
      refine ih _ a' w' (by simpa using hsz) ?_ ?_ ?_
      · rw [Array.toList_setIfInBounds, List.count_set (by simpa using hil)]
        have hf : listed.toList[i]'(by simpa using hil) = false := by
          simpa [Array.getD, hil] using hmi
        have hpos : 0 < listed.toList.count false := List.count_pos_iff.2 (by rw [← hf]; exact List.getElem_mem _)
        rw [hf]
        simp only [beq_self_eq_true, if_true, Bool.true_eq_false, if_false, beq_iff_eq]
        omega
      · intro j o' hj hm e he
        rw [hm'] at hm ⊢
        split
        · rfl
        · by_cases hji : j = i
          · subst hji
            rw [hlo] at hj; cases hj
            exact hie' e he
          · rw [if_neg hji] at hm
            exact hcl j o' hj hm e he
      · refine R.eqv ?_ ?_ ?_ ?_ hR'
        · rw [t.app_n, ← hβ, (foldM_n ts 0 _ α0).1, (foldM_n ts 0 _ α0).1]
        · rw [t.app_pin, ← hβ, (foldM_n ts 0 _ α0).2, (foldM_n ts 0 _ α0).2]
        · intro s
          rw [t.app_get]
          by_cases hd : t.o.dst = some s
          · rw [if_pos hd]
            refine foldM_get_last ts i 0 _ α0 s t hti (by simp only [Nat.zero_add]; rw [hm', if_pos rfl]) hd ?_
            intro j t' hj hij hm hd'
            simp only [Nat.zero_add] at hm
            rw [hm', if_neg (by omega)] at hm
            exact (hlater j t' hj hij hm).dst s hd' hd
          · rw [if_neg hd, ← hβ]
            refine foldM_get ts 0 _ _ α0 α0 s (fun j t' hj hne => ?_) rfl
            simp only [Nat.zero_add] at hne
            rw [hm'] at hne
            by_cases hji : j = i
            · subst hji; rw [hti] at hj; cases hj; exact hd
            · rw [if_neg hji] at hne; exact absurd rfl hne
        · intro id
          by_cases hk : id ∈ keysOf t.u
          · rw [t.app_ob]
            refine foldM_ob_last ts i 0 _ α0 id t β.hp hti (by simp only [Nat.zero_add]; rw [hm', if_pos rfl]) hk ?_
            intro j t' hj hij hm hd'
            simp only [Nat.zero_add] at hm
            rw [hm', if_neg (by omega)] at hm
            exact (hlater j t' hj hij hm).keys id hd' hk
          · rw [t.app_ob, look_append none _ _ id (fun b hb => hk (keys_hp.2 ⟨b, hb⟩))]
            change _ = β.ob id
            rw [← hβ]
            refine foldM_ob ts 0 _ _ α0 α0 id (fun j t' hj hne => ?_) rfl
            simp only [Nat.zero_add] at hne
            rw [hm'] at hne
            by_cases hji : j = i
            · subst hji; rw [hti] at hj; cases hj; exact hk
            · rw [if_neg hji] at hne; exact absurd rfl hne
    unfold wpOp
    rw [hio]
    simp only []
    rcases hev with ⟨hw, he⟩ | ⟨hw, hv, hu⟩
    · rw [if_pos (wantA_sound hR (hwc.trans hw))]
      have hρ : ∀ x, (foldT α0 (ts.take i)).evOn (rdOf o) x = β.ev x ∨ (foldT α0 (ts.take i)).evOn (rdOf o) x = .junk := by
        intro x
        cases x with
        | tmp q =>
          unfold St.evOn
          simp only []
          cases hq : (rdOf o).contains q with
          | true => exact .inl (hget q (List.mem_append_left _ (List.contains_iff_mem.1 hq))).symm
          | false => exact .inr rfl
        | const v => exact .inl rfl
        | global g => exact .inl rfl
        | func f => exact .inl rfl
      have hh : ∀ id ob, (foldT α0 (ts.take i)).obOn t.fp id = some ob → β.ob id = some ob := by
        intro id ob h
        unfold St.obOn at h
        cases hq : t.fp.contains id with
        | true => rw [hq] at h; rw [hob id (List.contains_iff_mem.1 hq)]; exact h
        | false => rw [hq] at h; cases h
      refine .inl (Ev.sound hc hρ hh he (by rw [hn.1]; exact dstB_spec hdd) ?_ hR _ _ ?_)
      · intro id hid hmem
        rw [← hβ] at hmem
        rcases foldM_ids ts 0 _ α0 id hmem with h | ⟨j, t', hj, hm, hmt⟩
        · exact freshB_spec hfr id hid (foldT_ids _ _ id h)
        · simp only [Nat.zero_add] at hm
          rcases Nat.lt_trichotomy j i with h | h | h
          · exact freshB_spec hfr id hid (mem_take_mentions hdst' α0 i j t' hj h id hmt)
          · subst h; rw [hm] at hmi; cases hmi
          · refine (hdiff j t' hj ?_).2.new id hid hmt
            simp only [Nat.zero_add]; rw [hm, decide_eq_false (by omega)]; simp
      · intro a' w' hR'
        refine hnext a' w' ?_
        unfold Tr.app; rw [hto]; exact hR'
    · rw [if_neg (by rw [wantA_sound hR (hwc.trans hw)]; simp)]
      refine hnext _ _ ?_
      obtain ⟨b, φ, H⟩ := hR
      have H' := H.pure o.dst (by rw [hn.1]; exact dstB_spec hdd) (.c undef) undef (by rw [VR])
      unfold Tr.app
      rw [hto, hv, hu]
      exact ⟨b, φ, H'⟩

theorem T_regionD {P : Program} {c : Ctx} {Q : Exit → St → Prop} {α : St} {id : Nat} {l : List Oper} (hc : CtxOK c) (hm : P.follows .mixedOrders = true)
    (h : ChD P l.toArray (fun α' tr => Q .normal α' ∧ drawB l.toArray tr = true) l α []) : T P c (.region id l.toArray true) Q α := by
  intro a w hR
  obtain ⟨ts, ⟨hk, hb⟩, ho, hs⟩ := ChD.data h
  rw [List.nil_append] at hb
  refine wp_region_any hm (draw_main hc ho hs hb (fun a' w' hR' => ⟨_, hk, hR'⟩) _ _ _ _ (by simp) ?_ ?_ ?_)
  · simp
  · intro j o hj hm'
    simp [Array.getD] at hm'
  · have e : foldM 0 (fun j => (Array.replicate l.toArray.size false).getD j false) α ts = α := by
      have hf : (fun j => (Array.replicate l.toArray.size false).getD j false) = fun _ => false := by
        funext j
        simp [Array.getD]
      rw [hf]
      exact foldM_none ts 0 α
    rw [e]
    obtain ⟨b, φ, H⟩ := hR
    exact ⟨b, φ, H.drew _⟩

end Go.AM
