/-
  The abstract machine, part A: pure data, how a value reads as data in a world (with the list of blocks that it owns), and what keeps such a reading. No program in sight.
-/
import Derived.WalkKit
namespace Go.AM

inductive D where
  | int (k : IntKind) (n : Int)
  | bool (b : Bool)
  | str (s : List UInt8)
  | agg (cs : List D)
  | slice (u : Bool) (sz : Nat) (xs : List D)
  | ref (x : D)
  | fn (f : Nat) (caps : List D)
  | tup (cs : List D)
  | hole (u : Value)
  | box (cs : List D)
  | map (ks : List (List UInt8)) (xs : List D)
  | any
  deriving Inhabited

def D.one : D → Bool
  | .agg _ | .tup _ | .any | .map _ _ => false
  | _ => true

def D.mem : D → Bool
  | .tup _ | .any | .map _ _ => false
  | _ => true

def flat (vs : List Value) : List Value := vs.flatMap fun v => v.cells.toList

def CellsAt (w : World) (b off : Nat) (cs : List Value) : Prop := ∀ j v, cs[j]? = some v → w.cell? ⟨b, off + j, none⟩ = some v

def OwnHead (w : World) (sz n : Nat) (cs : List Value) (v : Value) (F : List Nat) : Prop :=
  ((∃ a, v = .slice a 0 0) ∧ n = 0 ∧ cs = [] ∧ F = []) ∨
  ∃ g c cur e fr, v = .slice (some ⟨g, 0, none⟩) n c ∧ (n ≤ c ∧ c ≤ 9223372036854775807) ∧ w.heap[g]? = some (.cells cur e fr) ∧ (∀ j, j < cur.size → ¬ (fr.1 ≤ j ∧ j < fr.2)) ∧ cur.size = c * sz ∧ cs.length = n * sz ∧ cur.toList.take (n * sz) = cs ∧ F = [g]

def OneC (u : Value) : Prop := u.cells = #[u] ∧ u.oneCell' = true

def mkE : Nat → List (List UInt8) → List Value → List MapEntry
  | i, k :: ks, v :: vs => ⟨.string ⟨k.toArray⟩, v, i⟩ :: mkE (i + 1) ks vs
  | _, _, _ => []

mutual
def DR (S : Nat → Prop) (w : World) : D → Value → List Nat → Prop
  | .int k n, v, F => v = .int k n ∧ F = []
  | .bool b, v, F => v = .bool b ∧ F = []
  | .hole u, v, F => (v = u ∧ OneC u) ∧ F = []
  | .str s, v, F => v = .string ⟨s.toArray⟩ ∧ F = []
  | .agg cs, v, F => (∀ c ∈ cs, c.one = true) ∧ ∃ vs, v = .agg (List.toArray vs) ∧ DRs S w cs vs F
  | .tup cs, v, F => ∃ vs, v = .tuple (List.toArray vs) ∧ DRs S w cs vs F
  | .slice false sz xs, v, F => F = [] ∧ ∃ a c, v = .slice a xs.length c ∧ xs.length ≤ c ∧
      (xs = [] ∨ ∃ b off vs, a = some ⟨b, off, none⟩ ∧ ¬ S b ∧ DRs S w xs vs [] ∧ (∀ y ∈ vs, y.cells.size = sz) ∧ CellsAt w b off (flat vs) ∧ b < w.heap.size ∧ ∀ x ∈ xs, x.mem = true)
  | .slice true sz xs, v, F => ∃ vs F1 F2, F = F1 ++ F2 ∧ OwnHead w sz xs.length (flat vs) v F1 ∧ DRs S w xs vs F2 ∧ (∀ y ∈ vs, y.cells.size = sz) ∧ ∀ x ∈ xs, x.mem = true
  | .box cs, v, F => (∀ c ∈ cs, c.one = true) ∧ ∃ g e ys F1, v = .pointer (some ⟨g, 0, none⟩) ∧ w.heap[g]? = some (.cells (List.toArray ys) e (0, 0)) ∧ F = g :: F1 ∧ DRs S w cs ys F1
  | .ref x, v, F => F = [] ∧ ∃ b off y, v = .pointer (some ⟨b, off, none⟩) ∧ ¬ S b ∧ DR S w x y [] ∧ CellsAt w b off y.cells.toList ∧ b < w.heap.size
  | .fn f caps, v, F => F = [] ∧ ∃ vs, v = .func (.func f) #[] (List.toArray vs) ∧ DRs S w caps vs []
  | .map ks xs, v, F => ∃ g vs F1, v = .map (some g) ∧ w.heap[g]? = some (.map (List.toArray (mkE 0 ks vs)) ks.length) ∧ ks.length = xs.length ∧ F = g :: F1 ∧ DRs S w xs vs F1
  | .any, _, F => F = []
def DRs (S : Nat → Prop) (w : World) : List D → List Value → List Nat → Prop
  | [], vs, F => vs = [] ∧ F = []
  | d :: ds, vs, F => ∃ v vs' F1 F2, vs = v :: vs' ∧ F = F1 ++ F2 ∧ DR S w d v F1 ∧ DRs S w ds vs' F2
end

theorem DRs_length {S w} : ∀ {ds vs F}, DRs S w ds vs F → vs.length = ds.length
  | [], _, _, h => by simp [DRs] at h; simp [h.1]
  | d :: ds, vs, F, h => by
    rw [DRs] at h
    obtain ⟨v, vs', F1, F2, rfl, _, _, h2⟩ := h
    simp [DRs_length h2]

theorem cell_lt {w : World} {a : Addr} {v : Value} (h : w.cell? a = some v) : a.block < w.heap.size := World.block_lt_of_cell? w a h

structure Agree (S : Nat → Prop) (F : List Nat) (w w' : World) : Prop where
  block : ∀ b, b < w.heap.size → (¬ S b ∨ b ∈ F) → w'.heap[b]? = w.heap[b]?
  size : w.heap.size ≤ w'.heap.size

theorem Agree.cell {S F w w'} (h : Agree S F w w') {a : Addr} {v : Value} (hc : w.cell? a = some v) (hb : ¬ S a.block ∨ a.block ∈ F) : w'.cell? a = some v := by
  rw [World.cell?_of_block (h.block _ (cell_lt hc) hb)]; exact hc

theorem Agree.sub {S F F' w w'} (h : Agree S F w w') (hs : ∀ b ∈ F', b ∈ F) : Agree S F' w w' :=
  ⟨fun b hb hx => h.block b hb (hx.imp id (hs b)), h.size⟩

theorem Agree.weak {S S' : Nat → Prop} {F w w'} (h : Agree S F w w') (hs : ∀ b, S b → S' b) : Agree S' F w w' :=
  ⟨fun b hb hx => h.block b hb (hx.imp (fun h => fun h' => h (hs b h')) id), h.size⟩

theorem CellsAt.keep {S F w w'} (ha : Agree S F w w') {b off cs} (h : CellsAt w b off cs) (hb : ¬ S b ∨ b ∈ F) : CellsAt w' b off cs :=
  fun j v hv => ha.cell (h j v hv) hb

theorem OwnHead.keep {S F w w' sz n cs v} (ha : Agree S F w w') (h : OwnHead w sz n cs v F) : OwnHead w' sz n cs v F := by
  rcases h with h | ⟨g, c, cur, e, fr, h1, h2, h3, hf, h4, h5, h6, rfl⟩
  · exact .inl h
  · refine .inr ⟨g, c, cur, e, fr, h1, h2, ?_, hf, h4, h5, h6, rfl⟩
    rw [ha.block g (Array.getElem?_eq_some_iff.1 h3).1 (.inr (by simp))]; exact h3

mutual
theorem DR.keep {S w w'} : ∀ {d v F}, Agree S F w w' → DR S w d v F → DR S w' d v F
  | .int .., _, _, _, h => by rw [DR] at h ⊢; exact h
  | .bool .., _, _, _, h => by rw [DR] at h ⊢; exact h
  | .hole .., _, _, _, h => by rw [DR] at h ⊢; exact h
  | .str .., _, _, _, h => by rw [DR] at h ⊢; exact h
  | .any, _, _, _, h => by rw [DR] at h ⊢; exact h
  | .agg cs, _, _, ha, h => by
    rw [DR] at h ⊢
    obtain ⟨h1, vs, h2, h3⟩ := h
    exact ⟨h1, vs, h2, DRs.keep ha h3⟩
  | .tup cs, _, _, ha, h => by
    rw [DR] at h ⊢
    obtain ⟨vs, h2, h3⟩ := h
    exact ⟨vs, h2, DRs.keep ha h3⟩
  | .box cs, _, _, ha, h => by
    rw [DR] at h ⊢
    obtain ⟨h1, g, e, ys, F1, h2, h3, rfl, h4⟩ := h
    refine ⟨h1, g, e, ys, F1, h2, ?_, rfl, DRs.keep (ha.sub (by simp; intros; exact .inr ‹_›)) h4⟩
    rw [ha.block g (Array.getElem?_eq_some_iff.1 h3).1 (.inr (by simp))]; exact h3
  | .map ks xs, _, _, ha, h => by
    rw [DR] at h ⊢
    obtain ⟨g, vs, F1, h2, h3, h4, rfl, h5⟩ := h
    refine ⟨g, vs, F1, h2, ?_, h4, rfl, DRs.keep (ha.sub (by simp; intros; exact .inr ‹_›)) h5⟩
    rw [ha.block g (Array.getElem?_eq_some_iff.1 h3).1 (.inr (by simp))]; exact h3
  | .fn f cs, _, _, ha, h => by
    rw [DR] at h ⊢
    obtain ⟨h1, vs, h2, h3⟩ := h
    exact ⟨h1, vs, h2, DRs.keep (ha.sub (by simp)) h3⟩
  | .ref x, _, _, ha, h => by
    rw [DR] at h ⊢
    obtain ⟨h1, b, off, y, h2, h3, h4, h5, h6⟩ := h
    exact ⟨h1, b, off, y, h2, h3, DR.keep (ha.sub (by simp)) h4, h5.keep ha (.inl h3), Nat.lt_of_lt_of_le h6 ha.size⟩
  | .slice false sz xs, _, _, ha, h => by
    rw [DR] at h ⊢
    obtain ⟨h1, a, c, h2, h3, h4⟩ := h
    refine ⟨h1, a, c, h2, h3, h4.imp id ?_⟩
    rintro ⟨b, off, vs, g1, g2, g3, g4, g5, g6, g7⟩
    exact ⟨b, off, vs, g1, g2, DRs.keep (ha.sub (by simp)) g3, g4, g5.keep ha (.inl g2), Nat.lt_of_lt_of_le g6 ha.size, g7⟩
  | .slice true sz xs, _, _, ha, h => by
    rw [DR] at h ⊢
    obtain ⟨vs, F1, F2, rfl, h1, h2, h3⟩ := h
    exact ⟨vs, F1, F2, rfl, h1.keep (ha.sub (by simp; intros; exact .inl ‹_›)), DRs.keep (ha.sub (by simp; intros; exact .inr ‹_›)) h2, h3⟩
theorem DRs.keep {S w w'} : ∀ {ds vs F}, Agree S F w w' → DRs S w ds vs F → DRs S w' ds vs F
  | [], _, _, _, h => by rw [DRs] at h ⊢; exact h
  | d :: ds, vs, F, ha, h => by
    rw [DRs] at h ⊢
    obtain ⟨v, vs', F1, F2, h1, rfl, h2, h3⟩ := h
    exact ⟨v, vs', F1, F2, h1, rfl, DR.keep (ha.sub (by simp; intros; exact .inl ‹_›)) h2, DRs.keep (ha.sub (by simp; intros; exact .inr ‹_›)) h3⟩
end

def Less (w : World) (S S' : Nat → Prop) : Prop := ∀ b, b < w.heap.size → S' b → S b

theorem CellsAt.lt {w b off cs} (h : CellsAt w b off cs) (hne : cs ≠ []) : b < w.heap.size := by
  cases cs with
  | nil => exact absurd rfl hne
  | cons v vs => exact cell_lt (h 0 v rfl)

mutual
def D.solid : D → Bool
  | .int .. | .bool .. | .str .. | .hole .. => true
  | .agg cs => solids cs
  | .box cs => solids cs
  | .map _ xs => solids xs
  | .tup cs => solids cs
  | .slice u _ xs => u && solids xs
  | .ref _ => false
  | .fn _ _ => false
  | .any => true
def solids : List D → Bool
  | [] => true
  | d :: ds => d.solid && solids ds
end

mutual
theorem DR.solid {S S' w} : ∀ {d v F}, d.solid = true → DR S w d v F → DR S' w d v F
  | .int .., _, _, _, h => by rw [DR] at h ⊢; exact h
  | .bool .., _, _, _, h => by rw [DR] at h ⊢; exact h
  | .hole .., _, _, _, h => by rw [DR] at h ⊢; exact h
  | .str .., _, _, _, h => by rw [DR] at h ⊢; exact h
  | .any, _, _, _, h => by rw [DR] at h ⊢; exact h
  | .agg cs, _, _, hs, h => by
    rw [DR] at h ⊢
    obtain ⟨h1, vs, h2, h3⟩ := h
    exact ⟨h1, vs, h2, DRs.solid (by simpa [D.solid] using hs) h3⟩
  | .tup cs, _, _, hs, h => by
    rw [DR] at h ⊢
    obtain ⟨vs, h2, h3⟩ := h
    exact ⟨vs, h2, DRs.solid (by simpa [D.solid] using hs) h3⟩
  | .box cs, _, _, hs, h => by
    rw [DR] at h ⊢
    obtain ⟨h1, g, e, ys, F1, h2, h3, h4, h5⟩ := h
    exact ⟨h1, g, e, ys, F1, h2, h3, h4, DRs.solid (by simpa [D.solid] using hs) h5⟩
  | .map ks xs, _, _, hs, h => by
    rw [DR] at h ⊢
    obtain ⟨g, vs, F1, h2, h3, h4, h5, h6⟩ := h
    exact ⟨g, vs, F1, h2, h3, h4, h5, DRs.solid (by simpa [D.solid] using hs) h6⟩
  | .fn f cs, _, _, hs, h => by simp [D.solid] at hs
  | .ref x, _, _, hs, h => by simp [D.solid] at hs
  | .slice false sz xs, _, _, hs, h => by simp [D.solid] at hs
  | .slice true sz xs, _, _, hs, h => by
    rw [DR] at h ⊢
    obtain ⟨vs, F1, F2, rfl, h1, h2, h3⟩ := h
    exact ⟨vs, F1, F2, rfl, h1, DRs.solid (by simpa [D.solid] using hs) h2, h3⟩
theorem DRs.solid {S S' w} : ∀ {ds vs F}, solids ds = true → DRs S w ds vs F → DRs S' w ds vs F
  | [], _, _, _, h => by rw [DRs] at h ⊢; exact h
  | d :: ds, vs, F, hs, h => by
    rw [DRs] at h ⊢
    simp only [solids, Bool.and_eq_true] at hs
    obtain ⟨v, vs', F1, F2, h1, rfl, h2, h3⟩ := h
    exact ⟨v, vs', F1, F2, h1, rfl, DR.solid hs.1 h2, DRs.solid hs.2 h3⟩
end

theorem cells_of_one {S w d v F} (h1 : d.one = true) (h : DR S w d v F) : v.cells = #[v] ∧ v.oneCell' = true := by
  cases d with
  | int => rw [DR] at h; rw [h.1]; exact ⟨rfl, rfl⟩
  | bool => rw [DR] at h; rw [h.1]; exact ⟨rfl, rfl⟩
  | hole u => rw [DR] at h; rw [h.1.1]; exact h.1.2
  | str => rw [DR] at h; rw [h.1]; exact ⟨rfl, rfl⟩
  | agg => simp [D.one] at h1
  | tup => simp [D.one] at h1
  | any => simp [D.one] at h1
  | map => simp [D.one] at h1
  | slice u sz xs =>
    cases u with
    | false => rw [DR] at h; obtain ⟨_, a, c, rfl, _⟩ := h; exact ⟨rfl, rfl⟩
    | true =>
      rw [DR] at h
      obtain ⟨vs, F1, F2, rfl, h1, h2, h3⟩ := h
      rcases h1 with h | ⟨g, c, cur, e, fr, rfl, _⟩
      · obtain ⟨⟨a, rfl⟩, _⟩ := h; exact ⟨rfl, rfl⟩
      · exact ⟨rfl, rfl⟩
  | box cs => rw [DR] at h; obtain ⟨_, g, e, ys, F1, rfl, _⟩ := h; exact ⟨rfl, rfl⟩
  | ref x => rw [DR] at h; obtain ⟨_, b, off, y, rfl, _⟩ := h; exact ⟨rfl, rfl⟩
  | fn f cs => rw [DR] at h; obtain ⟨_, vs, rfl, _⟩ := h; exact ⟨rfl, rfl⟩

theorem OwnHead.lt {w sz n cs v F} (h : OwnHead w sz n cs v F) : ∀ b ∈ F, b < w.heap.size := by
  rcases h with ⟨_, _, _, rfl⟩ | ⟨g, c, cur, e, fr, _, _, h3, _, _, _, _, rfl⟩
  · simp
  · simp; exact (Array.getElem?_eq_some_iff.1 h3).1

mutual
theorem DR.lt {S w} : ∀ {d v F}, DR S w d v F → ∀ b ∈ F, b < w.heap.size
  | .int .., _, _, h => by rw [DR] at h; simp [h.2]
  | .bool .., _, _, h => by rw [DR] at h; simp [h.2]
  | .hole .., _, _, h => by rw [DR] at h; simp [h.2]
  | .str .., _, _, h => by rw [DR] at h; simp [h.2]
  | .any, _, _, h => by rw [DR] at h; simp [h]
  | .agg cs, _, _, h => by rw [DR] at h; obtain ⟨_, vs, _, h3⟩ := h; exact DRs.lt h3
  | .tup cs, _, _, h => by rw [DR] at h; obtain ⟨vs, _, h3⟩ := h; exact DRs.lt h3
  | .box cs, _, _, h => by
    rw [DR] at h
    obtain ⟨_, g, e, ys, F1, _, h3, rfl, h5⟩ := h
    intro b hb
    rcases List.mem_cons.1 hb with rfl | hb
    · exact (Array.getElem?_eq_some_iff.1 h3).1
    · exact DRs.lt h5 b hb
  | .map ks xs, _, _, h => by
    rw [DR] at h
    obtain ⟨g, vs, F1, _, h3, _, rfl, h5⟩ := h
    intro b hb
    rcases List.mem_cons.1 hb with rfl | hb
    · exact (Array.getElem?_eq_some_iff.1 h3).1
    · exact DRs.lt h5 b hb
  | .fn f cs, _, _, h => by rw [DR] at h; simp [h.1]
  | .ref x, _, _, h => by rw [DR] at h; simp [h.1]
  | .slice false sz xs, _, _, h => by rw [DR] at h; simp [h.1]
  | .slice true sz xs, _, _, h => by
    rw [DR] at h
    obtain ⟨vs, F1, F2, rfl, h1, h2, h3⟩ := h
    intro b hb
    rcases List.mem_append.1 hb with hb | hb
    · exact h1.lt b hb
    · exact DRs.lt h2 b hb
theorem DRs.lt {S w} : ∀ {ds vs F}, DRs S w ds vs F → ∀ b ∈ F, b < w.heap.size
  | [], _, _, h => by rw [DRs] at h; simp [h.2]
  | d :: ds, vs, F, h => by
    rw [DRs] at h
    obtain ⟨v, vs', F1, F2, h1, rfl, h2, h3⟩ := h
    intro b hb
    rcases List.mem_append.1 hb with hb | hb
    · exact DR.lt h2 b hb
    · exact DRs.lt h3 b hb
end

mutual
theorem DR.less {S S' w} (hl : Less w S S') : ∀ {d v F}, DR S w d v F → DR S' w d v F
  | .int .., _, _, h => by rw [DR] at h ⊢; exact h
  | .bool .., _, _, h => by rw [DR] at h ⊢; exact h
  | .hole .., _, _, h => by rw [DR] at h ⊢; exact h
  | .str .., _, _, h => by rw [DR] at h ⊢; exact h
  | .any, _, _, h => by rw [DR] at h ⊢; exact h
  | .agg cs, _, _, h => by rw [DR] at h ⊢; obtain ⟨h1, vs, h2, h3⟩ := h; exact ⟨h1, vs, h2, DRs.less hl h3⟩
  | .tup cs, _, _, h => by rw [DR] at h ⊢; obtain ⟨vs, h2, h3⟩ := h; exact ⟨vs, h2, DRs.less hl h3⟩
  | .fn f cs, _, _, h => by rw [DR] at h ⊢; obtain ⟨h1, vs, h2, h3⟩ := h; exact ⟨h1, vs, h2, DRs.less hl h3⟩
  | .map ks xs, _, _, h => by rw [DR] at h ⊢; obtain ⟨g, vs, F1, h2, h3, h4, h5, h6⟩ := h; exact ⟨g, vs, F1, h2, h3, h4, h5, DRs.less hl h6⟩
  | .box cs, _, _, h => by rw [DR] at h ⊢; obtain ⟨h1, g, e, ys, F1, h2, h3, h4, h5⟩ := h; exact ⟨h1, g, e, ys, F1, h2, h3, h4, DRs.less hl h5⟩
  | .ref x, _, _, h => by
    rw [DR] at h ⊢
    obtain ⟨h1, b, off, y, h2, h3, h4, h5, h6⟩ := h
    exact ⟨h1, b, off, y, h2, fun hs => h3 (hl b h6 hs), DR.less hl h4, h5, h6⟩
  | .slice false sz xs, _, _, h => by
    rw [DR] at h ⊢
    obtain ⟨h1, a, c, h2, h3, h4⟩ := h
    refine ⟨h1, a, c, h2, h3, ?_⟩
    rcases h4 with h4 | ⟨b, off, vs, g1, g2, g3, g4, g5, g6, g7⟩
    · exact .inl h4
    · exact .inr ⟨b, off, vs, g1, fun hs => g2 (hl b g6 hs), DRs.less hl g3, g4, g5, g6, g7⟩
  | .slice true sz xs, _, _, h => by
    rw [DR] at h ⊢
    obtain ⟨vs, F1, F2, rfl, h1, h2, h3⟩ := h
    exact ⟨vs, F1, F2, rfl, h1, DRs.less hl h2, h3⟩
theorem DRs.less {S S' w} (hl : Less w S S') : ∀ {ds vs F}, DRs S w ds vs F → DRs S' w ds vs F
  | [], _, _, h => by rw [DRs] at h ⊢; exact h
  | d :: ds, vs, F, h => by
    rw [DRs] at h ⊢
    obtain ⟨v, vs', F1, F2, h1, rfl, h2, h3⟩ := h
    exact ⟨v, vs', F1, F2, h1, rfl, DR.less hl h2, DRs.less hl h3⟩
end

mutual
def D.froz : D → D
  | .agg cs => .agg (frozs cs)
  | .tup cs => .tup (frozs cs)
  | .slice _ sz xs => .slice false sz (frozs xs)
  | .int k n => .int k n
  | .bool b => .bool b
  | .hole u => .hole u
  | .box cs => .ref (.agg (frozs cs))
  | .map _ _ => .any
  | .str t => .str t
  | .ref x => .ref x
  | .fn f cs => .fn f cs
  | .any => .any
def frozs : List D → List D
  | [] => []
  | d :: ds => d.froz :: frozs ds
end

theorem frozs_eq : ∀ ds, frozs ds = ds.map D.froz
  | [] => rfl
  | d :: ds => by rw [frozs, frozs_eq ds]; rfl

theorem froz_one (d : D) : d.froz.one = d.one := by cases d <;> simp [D.froz, D.one]

theorem froz_mem (d : D) : d.froz.mem = d.mem := by cases d <;> simp [D.froz, D.mem]

theorem froz_mems {xs : List D} (h : ∀ x ∈ xs, x.mem = true) : ∀ x ∈ xs.map D.froz, x.mem = true := by
  intro x hx
  obtain ⟨y, hy, rfl⟩ := List.mem_map.1 hx
  rw [froz_mem]; exact h y hy

theorem OwnHead.cellsAt {w sz n cs v F} (h : OwnHead w sz n cs v F) : cs = [] ∧ n = 0 ∧ (∃ a, v = .slice a 0 0) ∨ ∃ g c, v = .slice (some ⟨g, 0, none⟩) n c ∧ n ≤ c ∧ CellsAt w g 0 cs ∧ F = [g] ∧ g < w.heap.size := by
  rcases h with ⟨h1, h2, h3, _⟩ | ⟨g, c, cur, e, fr, h1, h2, h3, hf, h4, h5, h6, rfl⟩
  · exact .inl ⟨h3, h2, h1⟩
  · refine .inr ⟨g, c, h1, h2.1, ?_, rfl, (Array.getElem?_eq_some_iff.1 h3).1⟩
    intro j v hv
    have : cur[j]? = some v := by
      rw [← h6, List.getElem?_take] at hv
      split at hv
      · simpa using hv
      · cases hv
    simp [World.cell?, h3, this]

mutual
theorem DR.froz {S S' w} : ∀ {d v F}, (∀ b, b < w.heap.size → S' b → S b ∧ b ∉ F) → DR S w d v F → DR S' w d.froz v []
  | .int .., _, _, _, h => by rw [D.froz, DR] at *; exact ⟨h.1, rfl⟩
  | .bool .., _, _, _, h => by rw [D.froz, DR] at *; exact ⟨h.1, rfl⟩
  | .hole .., _, _, _, h => by rw [D.froz, DR] at *; exact ⟨h.1, rfl⟩
  | .str .., _, _, _, h => by rw [D.froz, DR] at *; exact ⟨h.1, rfl⟩
  | .any, _, _, _, h => by rw [D.froz, DR]
  | .map ks xs, _, _, _, h => by rw [D.froz, DR]
  | .agg cs, _, _, hs, h => by
    rw [D.froz, DR] at *
    obtain ⟨h1, vs, h2, h3⟩ := h
    refine ⟨?_, vs, h2, DRs.froz hs h3⟩
    rw [frozs_eq]
    intro c hc
    obtain ⟨c', hc', rfl⟩ := List.mem_map.1 hc
    rw [froz_one]; exact h1 c' hc'
  | .tup cs, _, _, hs, h => by
    rw [D.froz, DR] at *
    obtain ⟨vs, h2, h3⟩ := h
    exact ⟨vs, h2, DRs.froz hs h3⟩
  | .box cs, _, _, hs, h => by
    rw [D.froz]
    rw [DR] at *
    obtain ⟨h1, g, e, ys, F1, rfl, h3, rfl, h5⟩ := h
    have hx := DRs.froz (S' := S') (fun b hb h' => ⟨(hs b hb h').1, fun hm => (hs b hb h').2 (List.mem_cons_of_mem _ hm)⟩) h5
    have hg := (Array.getElem?_eq_some_iff.1 h3).1
    refine ⟨rfl, g, 0, .agg (List.toArray ys), rfl, fun h' => (hs g hg h').2 (by simp), ?_, ?_, hg⟩
    · rw [DR]
      refine ⟨?_, ys, rfl, hx⟩
      rw [frozs_eq]
      intro c hc
      obtain ⟨c', hc', rfl⟩ := List.mem_map.1 hc
      rw [froz_one]; exact h1 c' hc'
    · intro j v hj
      have hj' : ys[j]? = some v := by simpa [Value.cells] using hj
      simp [World.cell?, h3, hj']
  | .fn f cs, _, _, hs, h => by
    rw [D.froz]
    have hl := DR.less (fun b hb h' => (hs b hb h').1) h
    rw [DR] at hl ⊢
    exact ⟨rfl, hl.2⟩
  | .ref x, _, _, hs, h => by
    rw [D.froz]
    have hl := DR.less (fun b hb h' => (hs b hb h').1) h
    rw [DR] at hl ⊢
    exact ⟨rfl, hl.2⟩
  | .slice false sz xs, _, _, hs, h => by
    rw [D.froz, DR] at *
    obtain ⟨h1, a, c, h2, h3, h4⟩ := h
    rw [frozs_eq]
    refine ⟨rfl, a, c, by simpa using h2, by simpa using h3, ?_⟩
    rcases h4 with h4 | ⟨b, off, vs, g1, g2, g3, g4, g5, g6, g7⟩
    · exact .inl (by simp [h4])
    · refine .inr ⟨b, off, vs, g1, fun h' => g2 (hs b g6 h').1, ?_, g4, g5, g6, froz_mems g7⟩
      rw [← frozs_eq]
      exact DRs.froz (fun b hb h' => ⟨(hs b hb h').1, by simp⟩) g3
  | .slice true sz xs, _, _, hs, h => by
    rw [D.froz]
    rw [DR] at *
    obtain ⟨vs, F1, F2, rfl, h1, h2, h3⟩ := h
    have hx := DRs.froz (S' := S') (fun b hb h' => ⟨(hs b hb h').1, fun hm => (hs b hb h').2 (List.mem_append_right _ hm)⟩) h2
    refine ⟨rfl, ?_⟩
    rcases h1.cellsAt with ⟨h4, h5, a0, h6⟩ | ⟨g, c, h4, h5, h6, rfl, h7⟩
    · have : xs = [] := List.eq_nil_of_length_eq_zero h5
      subst this
      exact ⟨a0, 0, by simpa [frozs] using h6, by simp [frozs], .inl rfl⟩
    · refine ⟨_, c, by rw [frozs_eq]; simpa using h4, by rw [frozs_eq]; simpa using h5, .inr ⟨g, 0, vs, rfl, ?_, hx, h3.1, h6, h7, by rw [frozs_eq]; exact froz_mems h3.2⟩⟩
      exact fun h' => (hs g h7 h').2 (by simp)
theorem DRs.froz {S S' w} : ∀ {ds vs F}, (∀ b, b < w.heap.size → S' b → S b ∧ b ∉ F) → DRs S w ds vs F → DRs S' w (frozs ds) vs []
  | [], _, _, _, h => by rw [frozs, DRs] at *; exact ⟨h.1, rfl⟩
  | d :: ds, vs, F, hs, h => by
    rw [frozs]
    rw [DRs] at *
    obtain ⟨v, vs', F1, F2, h1, rfl, h2, h3⟩ := h
    exact ⟨v, vs', [], [], h1, rfl, DR.froz (fun b hb h' => ⟨(hs b hb h').1, fun hm => (hs b hb h').2 (List.mem_append_left _ hm)⟩) h2,
      DRs.froz (fun b hb h' => ⟨(hs b hb h').1, fun hm => (hs b hb h').2 (List.mem_append_right _ hm)⟩) h3⟩
end

theorem DR.move {S S' : Nat → Prop} {F w w' d v} (ha : Agree S F w w') (hs : ∀ b, S' b → S b ∨ w.heap.size ≤ b) (h : DR S w d v F) : DR S' w' d v F := by
  have h1 : DR (fun b => S b ∨ w.heap.size ≤ b) w d v F := DR.less (fun b hb h => h.resolve_right (by omega)) h
  have ha' : Agree (fun b => S b ∨ w.heap.size ≤ b) F w w' := ha.weak (fun b hb => .inl hb)
  exact DR.less (fun b _ h => hs b h) (DR.keep ha' h1)

theorem DRs.move {S S' : Nat → Prop} {F w w' ds vs} (ha : Agree S F w w') (hs : ∀ b, S' b → S b ∨ w.heap.size ≤ b) (h : DRs S w ds vs F) : DRs S' w' ds vs F := by
  have h1 : DRs (fun b => S b ∨ w.heap.size ≤ b) w ds vs F := DRs.less (fun b hb h => h.resolve_right (by omega)) h
  have ha' : Agree (fun b => S b ∨ w.heap.size ≤ b) F w w' := ha.weak (fun b hb => .inl hb)
  exact DRs.less (fun b _ h => hs b h) (DRs.keep ha' h1)

structure Keep (X : List Nat) (w w' : World) : Prop where
  os : w'.os = w.os
  tape : w'.tape = w.tape
  output : w'.output = w.output
  size : w.heap.size ≤ w'.heap.size
  block : ∀ b, b < w.heap.size → b ∉ X → w'.heap[b]? = w.heap[b]?

theorem Keep.refl (X : List Nat) (w : World) : Keep X w w := ⟨rfl, rfl, rfl, Nat.le_refl _, fun _ _ _ => rfl⟩
theorem Keep.trans {X : List Nat} {a b c : World} (h : Keep X a b) (k : Keep X b c) : Keep X a c :=
  ⟨k.os.trans h.os, k.tape.trans h.tape, k.output.trans h.output, Nat.le_trans h.size k.size, fun i hi hx => (k.block i (Nat.lt_of_lt_of_le hi h.size) hx).trans (h.block i hi hx)⟩
theorem Keep.below {w w' : World} (h : Keep [] w w') : RowKit.Below w.heap.size w w' := ⟨h.os, h.tape, h.output, h.size, fun k hk => h.block k hk (by simp)⟩

end Go.AM
