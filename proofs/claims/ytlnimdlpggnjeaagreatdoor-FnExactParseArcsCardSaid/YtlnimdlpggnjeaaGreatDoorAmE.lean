/-
  The abstract machine, part E: the operations that leave the world as it is.
-/
import Derived.Test.YtlnimdlpggnjeaaGreatDoorAmD
import Derived.Laws.StandIn
import Derived.Lib.Bytealg
namespace Go.AM

structure Env (S : Nat → Prop) (w : World) (β : Nat → Value) (φ : Nat → List Nat) (ρ : Operand → V) (h : Nat → Option Ob) (ev : Operand → Value) : Prop where
  slots : ∀ x, VR S w β (ρ x) (ev x)
  objs : ∀ id o, h id = some o → OR S w β o (β id) (φ id)

def FieldIs (P : Program) (t : TypeId) (f off n : Nat) (agg : Bool) : Prop :=
  ∃ fs fd, P.underlying t = some (.struct fs) ∧ fs[f]? = some fd ∧ fd.offset = off ∧ SizeIs P fd.type n ∧ AggIs P fd.type agg ∧ 0 < n

inductive SlV (h : Nat → Option Ob) : V → Nat → List D → Prop
  | sh (sz : Nat) (xs : List D) : SlV h (.d (.slice false sz xs)) sz xs
  | tight (sz : Nat) (xs : List D) : SlV h (.tight sz xs) sz xs
  | row {id sz xs} (ho : h id = some (.row sz xs)) : SlV h (.row id) sz xs
  | nil (sz : Nat) : SlV h (.c (.slice none 0 0)) sz []

inductive EqFs (P : Program) (as bs : List D) : List Field → Bool → Prop
  | nil : EqFs P as bs [] true
  | int {f fs k k1 k2 a b s} (hn : (f.name == "_") = false) (hu : P.underlying f.type = some (.int k)) (ha : as[f.offset]? = some (.int k1 a)) (hb : bs[f.offset]? = some (.int k1 b)) (hk : k2 = k1) (hs : EqFs P as bs fs s) : EqFs P as bs (f :: fs) (decide (a = b) && s)
  | bool {f fs a b s} (hn : (f.name == "_") = false) (hu : P.underlying f.type = some .bool) (ha : as[f.offset]? = some (.bool a)) (hb : bs[f.offset]? = some (.bool b)) (hs : EqFs P as bs fs s) : EqFs P as bs (f :: fs) (decide (a = b) && s)
  | str {f fs a b s} (hn : (f.name == "_") = false) (hu : P.underlying f.type = some .string) (ha : as[f.offset]? = some (.str a)) (hb : bs[f.offset]? = some (.str b)) (hs : EqFs P as bs fs s) : EqFs P as bs (f :: fs) (decide (a = b) && s)

inductive AggD : V → List D → Prop
  | d (ds : List D) : AggD (.d (.agg ds)) ds
  | v (ds : List D) : AggD (.agg (ds.map .d)) ds

def EqA (P : Program) (t : TypeId) (as bs : List D) (r : Bool) : Prop :=
  ∃ fs, P.underlying t = some (.struct fs) ∧ P.stoodInHeld t = false ∧ P.eqGuardType P.depth t = false ∧ EqFs P as bs fs.toList r

def ExtP (P : Program) (f : FuncId) (ds : List D) (r : D) : Prop :=
  ∀ (S : Nat → Prop) (w : World) (vs : List Value), DRs S w ds vs [] → ∃ v, (callFunc f vs.toArray).run P w = .ok (.value v) w ∧ DR S w r v []

inductive EvP (P : Program) (ρ : Operand → V) (h : Nat → Option Ob) (o : Oper) : V → Prop
  | move (x) {v} (ho : o.op = .move x) (hv : ρ x = v) : EvP P ρ h o v
  | assign (x) {v} (ho : o.op = .assign x) (hv : ρ x = v) : EvP P ρ h o v
  | pickT (c x y) (ho : o.op = .pick c x y) (hc : ρ c = .d (.bool true)) {v} (hv : ρ x = v) : EvP P ρ h o v
  | pickF (c x y) (ho : o.op = .pick c x y) (hc : ρ c = .d (.bool false)) {v} (hv : ρ y = v) : EvP P ρ h o v
  | not (t x) {b} (ho : o.op = .unOp .not t x) (hx : ρ x = .d (.bool b)) : EvP P ρ h o (.d (.bool (!b)))
  | neg (t x) {k a} (ho : o.op = .unOp .neg t x) (hx : ρ x = .d (.int k a)) : EvP P ρ h o (.d (.int k (k.wrap (0 - a))))
  | int (op t x y t') {k a b r} (ho : o.op = .binOp op t x y t') (hx : ρ x = .d (.int k a)) (hy : ρ y = .d (.int k b)) (hv : intV op k a b = some r) : EvP P ρ h o (.d r)
  | shift (op t x y t') {k k' a b r} (ho : o.op = .binOp op t x y t') (hx : ρ x = .d (.int k a)) (hy : ρ y = .d (.int k' b)) (hv : shiftV op k a b = some r) : EvP P ρ h o (.d r)
  | str (op t x y t') {a b r} (ho : o.op = .binOp op t x y t') (hx : ρ x = .d (.str a)) (hy : ρ y = .d (.str b)) (hv : strV op a b = some r) : EvP P ρ h o (.d r)
  | eqB (t x y t') {a b} (ho : o.op = .binOp .eql t x y t') (ht : P.underlying t = some .bool) (hx : ρ x = .d (.bool a)) (hy : ρ y = .d (.bool b)) : EvP P ρ h o (.d (.bool (decide (a = b))))
  | neB (t x y t') {a b} (ho : o.op = .binOp .neq t x y t') (ht : P.underlying t = some .bool) (hx : ρ x = .d (.bool a)) (hy : ρ y = .d (.bool b)) : EvP P ρ h o (.d (.bool (!decide (a = b))))
  | eqA (t x y t') {as bs r} (ho : o.op = .binOp .eql t x y t') (he : EqA P t as bs r) (hx : AggD (ρ x) as) (hy : AggD (ρ y) bs) {r'} (hr : r = r') : EvP P ρ h o (.d (.bool r'))
  | neA (t x y t') {as bs r} (ho : o.op = .binOp .neq t x y t') (he : EqA P t as bs r) (hx : AggD (ρ x) as) (hy : AggD (ρ y) bs) {r'} (hr : r = r') : EvP P ρ h o (.d (.bool (!r')))
  | idxStr (t x i) {s k m} (j : Nat) {c} (ho : o.op = .index t x i) (ht : P.underlying t = some .string) (hx : ρ x = .d (.str s)) (hi : ρ i = .d (.int k m)) (hm : m = (j : Int)) (hc : s[j]? = some c) :
      EvP P ρ h o (.d (.int .u8 (c.toNat : Int)))
  | sliceStr (t x lo hi) {s} (l r : Nat) (ho : o.op = .slice t x lo hi none) (ht : P.underlying t = some .string) (hx : ρ x = .d (.str s)) (hl : bnd ρ lo 0 l) (hr : bnd ρ hi s.length r) (h1 : l ≤ r) (h2 : r ≤ s.length) {u} (hv : (s.take r).drop l = u) :
      EvP P ρ h o (.d (.str u))
  | lenStr (x t) {s} (ho : o.op = .call { callee := .builtin .len, args := #[x], argTypes := #[t] }) (ht : P.underlying t = some .string) (hx : ρ x = .d (.str s)) : EvP P ρ h o (.d (.int .i64 (s.length : Int)))
  | len (x t e) {sz xs} (ho : o.op = .call { callee := .builtin .len, args := #[x], argTypes := #[t] }) (ht : P.underlying t = some (.slice e)) (hx : SlV h (ρ x) sz xs) {n} (hn : xs.length = n) : EvP P ρ h o (.d (.int .i64 (n : Int)))
  | idx (t x i e) {sz xs k m} (j : Nat) {y} (ho : o.op = .indexAddr t x i) (ht : P.underlying t = some (.slice e)) (hsz : SizeIs P e sz) (hx : ρ x = .d (.slice false sz xs)) (hi : ρ i = .d (.int k m)) (hm : m = (j : Int)) (hy : xs[j]? = some y) :
      EvP P ρ h o (.d (.ref y))
  | idxT (t x i e) {sz xs k m} (j : Nat) {y} (ho : o.op = .indexAddr t x i) (ht : P.underlying t = some (.slice e)) (hsz : SizeIs P e sz) (hx : ρ x = .tight sz xs) (hi : ρ i = .d (.int k m)) (hm : m = (j : Int)) (hy : xs[j]? = some y) :
      EvP P ρ h o (.d (.ref y))
  | idxRow (t x i e) {id sz xs k m} (j : Nat) (ho : o.op = .indexAddr t x i) (ht : P.underlying t = some (.slice e)) (hsz : SizeIs P e sz) (hx : ρ x = .row id) (hob : h id = some (.row sz xs)) (hi : ρ i = .d (.int k m)) (hm : m = (j : Int)) (hy : j < xs.length) :
      EvP P ρ h o (.el id sz j 0)
  | idxGh (t x i e n) {id b off ds k m} (j : Nat) {y} (ho : o.op = .indexAddr t x i) (ht : P.underlying t = some (.array n e)) (hsz : SizeIs P e 1) (hob : h id = some (.ghost (.ref (.agg ds)) (.pointer (some ⟨b, off, none⟩)))) (hx : ρ x = .c (.pointer (some ⟨b, off, none⟩))) (hi : ρ i = .d (.int k m)) (hm : m = (j : Int)) (hj : j < n) (hy : ds[j]? = some y) (h1 : y.one = true) :
      EvP P ρ h o (.d (.ref y))
  | fldRef (s x f) {y off n agg z} (ho : o.op = .fieldAddr s x f) (hf : FieldIs P s f off n agg) (hx : ρ x = .d (.ref y)) (hm : y.mem = true) (hz : subD y off n agg = some z) : EvP P ρ h o (.d (.ref z))
  | fldPtr (s x f) {id o0 off n agg} (ho : o.op = .fieldAddr s x f) (hf : FieldIs P s f off n agg) (hx : ρ x = .ptr id o0) : EvP P ρ h o (.ptr id (o0 + off))
  | fldEl (s x f) {id sz j o0 off n agg} (ho : o.op = .fieldAddr s x f) (hf : FieldIs P s f off n agg) (hx : ρ x = .el id sz j o0) : EvP P ρ h o (.el id sz j (o0 + off))
  | fldV (s x f) {cs off n agg z} (ho : o.op = .field s x f) (hf : FieldIs P s f off n agg) (hx : ρ x = .agg cs) (hz : subV cs off n agg = some z) : EvP P ρ h o z
  | fldD (s x f) {cs off n agg z} (ho : o.op = .field s x f) (hf : FieldIs P s f off n agg) (hx : ρ x = .d (.agg cs)) (hz : subD (.agg cs) off n agg = some z) : EvP P ρ h o (.d z)
  | loadRef1 (t x) {y} (ho : o.op = .load t x) (ht : AggIs P t false) (hx : ρ x = .d (.ref y)) (h1 : y.one = true) : EvP P ρ h o (.d y)
  | loadRefA (t x) {cs} (ho : o.op = .load t x) (ht : AggIs P t true) (hsz : SizeIs P t cs.length) (hx : ρ x = .d (.ref (.agg cs))) : EvP P ρ h o (.d (.agg cs))
  | loadPtr1 (t x) {id off cs v} (ho : o.op = .load t x) (ht : AggIs P t false) (hx : ρ x = .ptr id off) (hob : h id = some (.box cs)) (hv : cs[off]? = some v) : EvP P ρ h o v
  | loadPtrA (t x) {id off cs n} (ho : o.op = .load t x) (ht : AggIs P t true) (hsz : SizeIs P t n) (hx : ρ x = .ptr id off) (hob : h id = some (.box cs)) (hn : off + n ≤ cs.length) {vs} (hv : (cs.drop off).take n = vs) : EvP P ρ h o (.agg vs)
  | loadEl1 (t x) {id sz j off xs y z} (ho : o.op = .load t x) (ht : AggIs P t false) (hx : ρ x = .el id sz j off) (hob : h id = some (.row sz xs)) (hy : xs[j]? = some y) (hm : y.mem = true) (hz : (cellsD y)[off]? = some z) (hn : z.noU = true) : EvP P ρ h o (.d z)
  | loadHole (t x) {id sz j xs n m u sz' ys} (ho : o.op = .load t x) (ht : AggIs P t false) (hx : ρ x = .el id sz j 0) (hob : h id = some (.row sz xs)) (hy : xs[j]? = some (.hole u)) (hm : h m = some (.head n u)) (hn : h n = some (.row sz' ys)) : EvP P ρ h o (.row n)
  | loadHoleF (t x) {id sz j off xs y n m u sz' ys} (ho : o.op = .load t x) (ht : AggIs P t false) (hx : ρ x = .el id sz j off) (hob : h id = some (.row sz xs)) (hy : xs[j]? = some y) (hmm : y.mem = true) (hz : (cellsD y)[off]? = some (.hole u)) (hnu : y.noU = true) (hm : h m = some (.head n u)) (hn : h n = some (.row sz' ys)) : EvP P ρ h o (.row n)
  | loadElA (t x) {id sz j xs cs} (ho : o.op = .load t x) (ht : AggIs P t true) (hsz : SizeIs P t cs.length) (hx : ρ x = .el id sz j 0) (hob : h id = some (.row sz xs)) (hy : xs[j]? = some (.agg cs)) (hn : (D.agg cs).noU = true) : EvP P ρ h o (.d (.agg cs))
  | func (fn : FuncId) (cap : Array Operand) {vs} (ho : o.op = .makeFunc (.func fn) #[] cap) (hv : cap.toList.map ρ = vs) : EvP P ρ h o (.fn fn vs)
  | extract (x) {n vs v} (ho : o.op = .extract x n) (hx : ρ x = .tup vs) (hv : vs[n]? = some v) : EvP P ρ h o v
  | nilPtr (x) {id off} (ho : o.op = .nilCheck x) (hx : ρ x = .ptr id off) : EvP P ρ h o (.ptr id off)
  | nilRef (x) {y} (ho : o.op = .nilCheck x) (hx : ρ x = .d (.ref y)) : EvP P ρ h o (.d (.ref y))
  | convInt (s d x) {k k' m} (ho : o.op = .convert s d x) (hs : (P.underlying s).isSome = true) (hd : P.underlying d = some (.int k)) (hx : ρ x = .d (.int k' m)) : EvP P ρ h o (.d (.int k (k.wrap m)))
  | convStr (s d x) {a} (ho : o.op = .convert s d x) (hs : P.underlying s = some .string) (hd : P.underlying d = some .string) (hx : ρ x = .d (.str a)) : EvP P ρ h o (.d (.str a))
  | sliceSh (t x lo hi e) {sz xs} (l r : Nat) (ho : o.op = .slice t x lo hi none) (ht : P.underlying t = some (.slice e)) (hsz : SizeIs P e sz) (hx : ρ x = .d (.slice false sz xs)) (hl : bnd ρ lo 0 l) (hr : bnd ρ hi xs.length r) (h1 : l ≤ r) (h2 : r ≤ xs.length) {ys} (hv : (xs.take r).drop l = ys) :
      EvP P ρ h o (.d (.slice false sz ys))
  | subRow (t x lo hi e) {id sz xs} (l r : Nat) (ho : o.op = .slice t x lo hi none) (ht : P.underlying t = some (.slice e)) (hsz : SizeIs P e sz) (hx : ρ x = .row id) (hob : h id = some (.row sz xs)) (hl : bnd ρ lo 0 l) (hr : bnd ρ hi xs.length r) (h1 : l ≤ r) (h2 : r ≤ xs.length) :
      EvP P ρ h o (.sub id sz l r)
  | lenSub (x t e) {id sz l r} (ho : o.op = .call { callee := .builtin .len, args := #[x], argTypes := #[t] }) (ht : P.underlying t = some (.slice e)) (hx : ρ x = .sub id sz l r) {n} (hn : r - l = n) : EvP P ρ h o (.d (.int .i64 (n : Int)))
  | min2 (x y ts) {k a b r} (ho : o.op = .call { callee := .builtin .min, args := #[x, y], argTypes := ts }) (hx : ρ x = .d (.int k a)) (hy : ρ y = .d (.int k b)) (hr : (if b < a then b else a) = r) : EvP P ρ h o (.d (.int k r))
  | ext (f : FuncId) (fx args ats) {ds r} (he : ExtP P f ds r) (ho : o.op = .call { callee := .value fx, args := args, argTypes := ats }) (hf : ρ fx = .fn f []) (ha : args.toList.map ρ = ds.map .d) : EvP P ρ h o (.d r)

section
variable {S : Nat → Prop} {w : World} {β : Nat → Value} {φ : Nat → List Nat} {ρ : Operand → V} {h : Nat → Option Ob} {ev : Operand → Value} {P : Program}

theorem Env.d (E : Env S w β φ ρ h ev) {x : Operand} {d : D} (hx : ρ x = .d d) : DR S w d (ev x) [] := by
  have := E.slots x; rw [hx, VR] at this; exact this
theorem Env.int (E : Env S w β φ ρ h ev) {x : Operand} {k n} (hx : ρ x = .d (.int k n)) : ev x = .int k n := by
  have := E.d hx; rw [DR] at this; exact this.1
theorem Env.bool (E : Env S w β φ ρ h ev) {x : Operand} {b} (hx : ρ x = .d (.bool b)) : ev x = .bool b := by
  have := E.d hx; rw [DR] at this; exact this.1
theorem Env.str (E : Env S w β φ ρ h ev) {x : Operand} {s} (hx : ρ x = .d (.str s)) : ev x = .string ⟨s.toArray⟩ := by
  have := E.d hx; rw [DR] at this; exact this.1

theorem Env.sl (E : Env S w β φ ρ h ev) {x : Operand} {sz xs} (hx : SlV h (ρ x) sz xs) : ∃ a c, ev x = .slice a xs.length c ∧ xs.length ≤ c := by
  have hs := E.slots x
  generalize hy : ρ x = y at hx hs
  cases hx with
  | sh => rw [VR, DR] at hs; obtain ⟨_, a, c, h1, h2, _⟩ := hs; exact ⟨a, c, h1, h2⟩
  | tight => rw [VR] at hs; obtain ⟨⟨a, h1⟩, _⟩ := hs; exact ⟨a, _, h1, Nat.le_refl _⟩
  | row ho =>
    rw [VR] at hs
    have := E.objs _ _ ho
    rw [OR, DR] at this
    obtain ⟨vs, F1, F2, _, h1, _⟩ := this
    rw [hs.1]
    rcases h1 with ⟨⟨a0, h1⟩, h2, _⟩ | ⟨g, c, cur, e, fr, h1, ⟨h2, _⟩, _⟩
    · exact ⟨a0, 0, by rw [h1, h2], by omega⟩
    · exact ⟨_, c, h1, h2⟩
  | nil => rw [VR] at hs; exact ⟨none, 0, hs, by simp⟩

theorem cell_at (w : World) (b off : Nat) (cs : List Value) (hc : CellsAt w b off cs) (j : Nat) (v : Value) (hv : cs[j]? = some v) : w.cell? ((⟨b, off, none⟩ : Addr).add j) = some v := by
  have := hc j v hv
  unfold Addr.add
  split
  · rename_i h0; subst h0; simpa using this
  · exact this

theorem flat_get {sz : Nat} : ∀ {vs : List Value}, (∀ y ∈ vs, y.cells.size = sz) → ∀ {j : Nat} {y : Value}, vs[j]? = some y → ∀ {i : Nat} {c : Value}, y.cells.toList[i]? = some c → (flat vs)[j * sz + i]? = some c
  | [], _, j, y, hj, i, c, hi => by simp at hj
  | v :: vs, hs, j, y, hj, i, c, hi => by
    have hv : v.cells.toList.length = sz := by simpa using hs v (by simp)
    rw [show flat (v :: vs) = v.cells.toList ++ flat vs from rfl]
    cases j with
    | zero =>
      simp at hj; subst hj
      rw [List.getElem?_append_left (by have := (List.getElem?_eq_some_iff.1 hi).1; omega)]
      simpa using hi
    | succ j =>
      rw [List.getElem?_append_right (by rw [hv, Nat.succ_mul]; omega), hv]
      have : (j + 1) * sz + i - sz = j * sz + i := by rw [Nat.succ_mul]; omega
      rw [this]
      exact flat_get (fun y hy => hs y (by simp [hy])) (by simpa using hj) hi

theorem DRs_get : ∀ {ds : List D} {vs F}, DRs S w ds vs F → ∀ {j : Nat} {d : D}, ds[j]? = some d → ∃ v F', vs[j]? = some v ∧ DR S w d v F' ∧ ∀ b ∈ F', b ∈ F
  | [], _, _, _, j, d, hd => by simp at hd
  | x :: xs, vs, F, hh, j, d, hd => by
    rw [DRs] at hh
    obtain ⟨v, vs', F1, F2, rfl, rfl, h1, h2⟩ := hh
    cases j with
    | zero => simp at hd; subst hd; exact ⟨v, F1, rfl, h1, fun b hb => List.mem_append_left _ hb⟩
    | succ j =>
      obtain ⟨u, F', h3, h4, h5⟩ := DRs_get h2 (by simpa using hd)
      exact ⟨u, F', by simpa using h3, h4, fun b hb => List.mem_append_right _ (h5 b hb)⟩

theorem VRs_take_drop : ∀ {cs : List V} {vs}, VRs S w β cs vs → ∀ (l n : Nat), VRs S w β ((cs.drop l).take n) ((vs.drop l).take n)
  | [], vs, hh, l, n => by rw [VRs] at hh; subst hh; simp [VRs]
  | d :: ds, vs, hh, l, n => by
    rw [VRs] at hh
    obtain ⟨v, vs', rfl, h1, h2⟩ := hh
    cases l with
    | zero =>
      cases n with
      | zero => simp [VRs]
      | succ n =>
        have := VRs_take_drop h2 0 n
        simp only [List.drop_zero, List.take_succ_cons] at this ⊢
        rw [VRs]
        exact ⟨v, _, rfl, h1, this⟩
    | succ l => simpa using VRs_take_drop h2 l n

theorem DR_cells {d : D} {v : Value} {F} (h1 : DR S w d v F) (hd : d.mem = true) : DRs S w (cellsD d) v.cells.toList F := by
  cases d with
  | agg cs => rw [DR] at h1; obtain ⟨_, vs, rfl, h2⟩ := h1; exact h2
  | tup => simp [D.mem] at hd
  | map => simp [D.mem] at hd
  | any => simp [D.mem] at hd
  | _ =>
    have := (cells_of_one (by rfl) h1).1
    rw [this]
    show DRs S w [_] [v] F
    rw [DRs]
    exact ⟨v, [], F, [], rfl, by simp, h1, by rw [DRs]; exact ⟨rfl, rfl⟩⟩

theorem subD_sound {y : D} {v : Value} {off n : Nat} {agg : Bool} {z : D} (h1 : DR S w y v []) (hz : subD y off n agg = some z) (hy : y.mem = true) :
    ∃ u, DR S w z u [] ∧ (agg = false → v.cells[off]? = some u ∧ u.cells = #[u]) ∧ (agg = true → u = .agg (v.cells.extract off (off + n)) ∧ off + n ≤ v.cells.size) ∧ ∀ j c, u.cells.toList[j]? = some c → v.cells.toList[off + j]? = some c := by
  have hc : DRs S w (cellsD y) v.cells.toList [] := DR_cells h1 hy
  have hone : ∀ c ∈ cellsD y, c.one = true := by
    intro c hcm
    cases y with
    | agg cs => rw [DR] at h1; exact h1.1 c hcm
    | tup => simp [D.mem] at hy
    | map => simp [D.mem] at hy
    | any => simp [D.mem] at hy
    | _ => simp [cellsD] at hcm; subst hcm; rfl
  unfold subD at hz
  cases agg with
  | true =>
    simp only [if_true] at hz
    split at hz
    · rename_i hle
      cases hz
      have hlen : v.cells.toList.length = (cellsD y).length := DRs_length hc
      have h2 := DRs_take_drop hc off n
      have he : (v.cells.extract off (off + n)).toList = (v.cells.toList.drop off).take n := by
        rw [Array.toList_extract, List.extract_eq_take_drop]; simp
      refine ⟨.agg (v.cells.extract off (off + n)), ?_, (fun h => by cases h), fun _ => ⟨rfl, by simpa [← hlen] using hle⟩, ?_⟩
      · rw [DR]
        exact ⟨fun c hc' => hone c (List.mem_of_mem_drop (List.mem_of_mem_take hc')), (v.cells.extract off (off + n)).toList, by rw [Array.toArray_toList], by rw [he]; exact h2⟩
      · intro j c hj
        rw [show (Value.agg (v.cells.extract off (off + n))).cells = v.cells.extract off (off + n) from rfl, he, List.getElem?_take] at hj
        split at hj
        · rw [List.getElem?_drop] at hj; exact hj
        · cases hj
    · cases hz
  | false =>
    simp only [Bool.false_eq_true, if_false] at hz
    obtain ⟨u, F', h2, h3, h4⟩ := DRs_get hc hz
    have hF : F' = [] := by cases F' with | nil => rfl | cons b _ => exact absurd (h4 b (by simp)) (by simp)
    subst hF
    have h5 := (cells_of_one (hone z (List.mem_of_getElem? hz)) h3).1
    refine ⟨u, h3, fun _ => ⟨by simpa using h2, h5⟩, (fun h => by cases h), ?_⟩
    intro j c hj
    rw [h5] at hj
    cases j with
    | zero => simp at hj; subst hj; simpa using h2
    | succ j => simp at hj

theorem run_indexArr (t : TypeId) (e : TypeId) {n sz : Nat} (ht : P.underlying t = some (.array n e)) (hsz : SizeIs P e sz) (b off : Nat) (k : IntKind) (j : Nat) (hj : j < n) :
    (Instr.indexAt t (.pointer (some ⟨b, off, none⟩)) (.int k (j : Int))).run P w = .ok (.pointer (some ⟨b, off + j * sz, none⟩)) w := by
  simp [Instr.indexAt, asIntOf, Instr.sureAddr, run_underlying ht, run_sizeOf w hsz, hj, add_block]

theorem run_indexAt (t : TypeId) (e : TypeId) {sz : Nat} (ht : P.underlying t = some (.slice e)) (hsz : SizeIs P e sz) (b off n c : Nat) (k : IntKind) (j : Nat) (hj : j < n) :
    (Instr.indexAt t (.slice (some ⟨b, off, none⟩) n c) (.int k (j : Int))).run P w = .ok (.pointer (some ⟨b, off + j * sz, none⟩)) w := by
  simp [Instr.indexAt, asIntOf, run_underlying ht, run_sizeOf w hsz, hj, add_block]

theorem shared_at {sz : Nat} {xs : List D} {v : Value} (hv : DR S w (.slice false sz xs) v []) {j : Nat} {y : D} (hy : xs[j]? = some y) :
    ∃ b off c u, v = .slice (some ⟨b, off, none⟩) xs.length c ∧ j < xs.length ∧ ¬ S b ∧ b < w.heap.size ∧ DR S w y u [] ∧ CellsAt w b (off + j * sz) u.cells.toList := by
  rw [DR] at hv
  obtain ⟨_, a, c, rfl, _, hx⟩ := hv
  have hj : j < xs.length := (List.getElem?_eq_some_iff.1 hy).1
  rcases hx with rfl | ⟨b, off, vs, rfl, h1, h2, h3, h4, h5, h5'⟩
  · simp at hj
  · obtain ⟨u, F', h6, h7, h8⟩ := DRs_get h2 hy
    have hF : F' = [] := by cases F' with | nil => rfl | cons b _ => exact absurd (h8 b (by simp)) (by simp)
    subst hF
    refine ⟨b, off, c, u, rfl, hj, h1, h5, h7, ?_⟩
    intro i x hi
    have := h4 _ x (flat_get h3 h6 hi)
    rw [← this]; congr 2; omega

theorem row_at {sz : Nat} {xs : List D} {v : Value} {F : List Nat} (hv : DR S w (.slice true sz xs) v F) {j : Nat} {y : D} (hy : xs[j]? = some y) :
    ∃ g c u F', v = .slice (some ⟨g, 0, none⟩) xs.length c ∧ j < xs.length ∧ DR S w y u F' ∧ u.cells.size = sz ∧ CellsAt w g (j * sz) u.cells.toList := by
  rw [DR] at hv
  obtain ⟨vs, F1, F2, rfl, h1, h2, h3, h3'⟩ := hv
  have hj : j < xs.length := (List.getElem?_eq_some_iff.1 hy).1
  obtain ⟨u, F', h6, h7, h8⟩ := DRs_get h2 hy
  rcases h1.cellsAt with ⟨_, h4, _⟩ | ⟨g, c, h4, _, h5, _, _⟩
  · omega
  · refine ⟨g, c, u, F', h4, hj, h7, h3 u (List.mem_of_getElem? h6), ?_⟩
    intro i x hi
    have := h5 _ x (flat_get h3 h6 hi)
    rw [← this]; congr 2; omega

theorem run_fieldAt {s f off n : Nat} {agg : Bool} (hf : FieldIs P s f off n agg) (b o : Nat) : (Instr.fieldAt s (.pointer (some ⟨b, o, none⟩)) f).run P w = .ok (.pointer (some ⟨b, o + off, none⟩)) w := by
  obtain ⟨fs, fd, h1, h2, rfl, h3, h4, h5⟩ := hf
  simp [Instr.fieldAt, run_underlying h1, h2, Instr.sureAddr, fieldPlace, run_sizeOf w h3, add_block, Nat.pos_iff_ne_zero.1 h5]

theorem run_loadAt_one {t : TypeId} (ht : AggIs P t false) (a : Addr) (v : Value) (hv : w.cell? a = some v) : (Instr.loadAt t (.pointer (some a))).run P w = .ok v w := by
  simp [Instr.loadAt, Instr.sureAddr, loadVar, run_isAgg w ht, hv]

theorem run_loadAt_agg {t : TypeId} (ht : AggIs P t true) {n : Nat} (hn : SizeIs P t n) (b o : Nat) (cs : List Value) (hl : cs.length = n) (hc : CellsAt w b o cs) :
    (Instr.loadAt t (.pointer (some ⟨b, o, none⟩))).run P w = .ok (.agg cs.toArray) w := by
  have := run_loadCells_list (P := P) w ⟨b, o, none⟩ cs (fun j v hv => cell_at w b o cs hc j v hv)
  rw [hl] at this
  simp [Instr.loadAt, Instr.sureAddr, loadVar, run_isAgg w ht, run_sizeOf w hn, this]

theorem bsize (l : List UInt8) : (ByteArray.mk l.toArray).size = l.length := by show l.toArray.size = _; simp

theorem bget (l : List UInt8) (j : Nat) : (ByteArray.mk l.toArray)[j]? = l[j]? := by
  by_cases hj : j < l.length
  · rw [List.getElem?_eq_getElem hj, getElem?_pos (ByteArray.mk l.toArray) j (by rw [bsize]; exact hj)]; rfl
  · rw [List.getElem?_eq_none (by omega), getElem?_neg (ByteArray.mk l.toArray) j (by rw [bsize]; exact hj)]

theorem bnd_run (E : Env S w β φ ρ h ev) {x : Option Operand} {d n y : Nat} (hb : bnd ρ x d n) (hle : n ≤ y) (code : BoundsCode) :
    (x = none ∧ n = d) ∨ ∃ k z, x = some z ∧ ev z = .int k (n : Int) ∧ (Instr.sliceBound (ev z) y code).run P w = .ok n w := by
  cases x with
  | none => exact .inl ⟨rfl, hb⟩
  | some z =>
    obtain ⟨k, m, h1, rfl⟩ := hb
    refine .inr ⟨k, z, rfl, E.int h1, ?_⟩
    rw [E.int h1]
    simp [Instr.sliceBound, asIntOf, hle]

theorem run_sliceBounds2 (E : Env S w β φ ρ h ev) {lo hi : Option Operand} {isSlice : Bool} {len cap l r : Nat} (hl : bnd ρ lo 0 l) (hr : bnd ρ hi len r) (h1 : l ≤ r) (h2 : r ≤ cap) :
    (Instr.sliceBounds isSlice len cap (lo.map ev) (hi.map ev) none).run P w = .ok (l, r, cap) w := by
  rcases bnd_run (P := P) E hl h1 (if (none : Option Value).isSome then .slice3C else .sliceB) with ⟨rfl, rfl⟩ | ⟨k, z, rfl, e1, r1⟩ <;>
  rcases bnd_run (P := P) E hr h2 (if isSlice then .sliceAcap else .sliceAlen) with ⟨rfl, rfl⟩ | ⟨k', z', rfl, e2, r2⟩ <;>
  simp_all [Instr.sliceBounds]

theorem eqFs_run {as bs : List D} {vs us : List Value} (h1 : DRs S w as vs []) (h2 : DRs S w bs us []) (d : Nat) : ∀ {fs : List Field} {r : Bool}, EqFs P as bs fs r → (Op.eqFields (d + 1) vs.toArray us.toArray fs).run P w = .ok r w := by
  intro fs r h
  have agB : ∀ {t k}, P.underlying t = some k → aggB k = false → AggIs P t false := fun {t k} hu hk => by unfold AggIs; rw [hu]; exact congrArg some hk
  have drop0 : ∀ {F' : List Nat}, (∀ b ∈ F', b ∈ ([] : List Nat)) → F' = [] := fun {F'} hF => List.eq_nil_iff_forall_not_mem.2 fun b hb => by have := hF b hb; simp at this
  induction h with
  | nil => simp [Op.eqFields]
  | @int f fs k k1 k2 a b s hn hu ha hb hk hs ih =>
    obtain ⟨v, F1, e1, e2, e3⟩ := DRs_get h1 ha
    obtain ⟨u, F2, e4, e5, e6⟩ := DRs_get h2 hb
    rw [DR] at e2 e5
    obtain ⟨rfl, _⟩ := e2
    obtain ⟨rfl, _⟩ := e5
    have hn' : f.name ≠ "_" := by simpa using hn
    rw [Op.eqFields, if_pos hn']
    simp only [Sem.run_bind, run_part_one w (agB hu rfl) (show (vs.toArray)[f.offset]? = _ by simpa using e1), run_part_one w (agB hu rfl) (show (us.toArray)[f.offset]? = _ by simpa using e4), Result.andThen_ok, run_equalIn_int w d f.type _ k a b hu]
    by_cases hab : a = b
    · subst hab; simpa using ih
    · simp [hab]
  | @bool f fs a b s hn hu ha hb hs ih =>
    obtain ⟨v, F1, e1, e2, e3⟩ := DRs_get h1 ha
    obtain ⟨u, F2, e4, e5, e6⟩ := DRs_get h2 hb
    rw [DR] at e2 e5
    obtain ⟨rfl, _⟩ := e2
    obtain ⟨rfl, _⟩ := e5
    have hn' : f.name ≠ "_" := by simpa using hn
    rw [Op.eqFields, if_pos hn']
    simp only [Sem.run_bind, run_part_one w (agB hu rfl) (show (vs.toArray)[f.offset]? = _ by simpa using e1), run_part_one w (agB hu rfl) (show (us.toArray)[f.offset]? = _ by simpa using e4), Result.andThen_ok, run_equalIn_bool w d f.type a b hu]
    by_cases hab : a = b
    · subst hab; simpa using ih
    · simp [hab]
  | @str f fs a b s hn hu ha hb hs ih =>
    obtain ⟨v, F1, e1, e2, e3⟩ := DRs_get h1 ha
    obtain ⟨u, F2, e4, e5, e6⟩ := DRs_get h2 hb
    rw [DR] at e2 e5
    obtain ⟨rfl, _⟩ := e2
    obtain ⟨rfl, _⟩ := e5
    have hn' : f.name ≠ "_" := by simpa using hn
    rw [Op.eqFields, if_pos hn']
    simp only [Sem.run_bind, run_part_one w (agB hu rfl) (show (vs.toArray)[f.offset]? = _ by simpa using e1), run_part_one w (agB hu rfl) (show (us.toArray)[f.offset]? = _ by simpa using e4), Result.andThen_ok, run_equalIn_string w d f.type _ _ hu, ByteArray.toList_mk]
    by_cases hab : a = b
    · subst hab; simpa using ih
    · simp [hab]

theorem DRs_VRd : ∀ {ds : List D} {vs : List Value}, VRs S w β (ds.map .d) vs → DRs S w ds vs []
  | [], vs, h2 => by rw [List.map_nil, VRs] at h2; rw [DRs]; exact ⟨h2, rfl⟩
  | d :: ds, vs, h2 => by
    rw [List.map_cons, VRs] at h2
    obtain ⟨y, ys, rfl, g1, g2⟩ := h2
    rw [VR] at g1
    rw [DRs]
    exact ⟨y, ys, [], [], rfl, rfl, g1, DRs_VRd g2⟩

theorem AggD.sound {v : V} {ds : List D} {x : Value} (h : AggD v ds) (hv : VR S w β v x) : ∃ vs, x = .agg vs.toArray ∧ DRs S w ds vs [] := by
  cases h with
  | d =>
    rw [VR, DR] at hv
    obtain ⟨_, vs, rfl, h2⟩ := hv
    exact ⟨vs, rfl, h2⟩
  | v =>
    rw [VR] at hv
    obtain ⟨vs, rfl, h2⟩ := hv
    exact ⟨vs, rfl, DRs_VRd h2⟩

theorem EqA.run {t : TypeId} {as bs : List D} {r : Bool} {vs us : List Value} (h : EqA P t as bs r) (h1 : DRs S w as vs []) (h2 : DRs S w bs us []) :
    (Op.equal t (.agg vs.toArray) (.agg us.toArray)).run P w = .ok r w := by
  obtain ⟨fs, e1, e2, _, e4⟩ := h
  have hfs : P.fieldsOf t = fs := by unfold Program.fieldsOf; rw [e1]
  have := run_equalIn_struct (P := P) w 9999 t vs.toArray us.toArray (by rw [hfs]; exact e1) e2
  unfold Op.equal Op.maxDepth
  rw [this, hfs]
  exact eqFs_run h1 h2 9998 e4

theorem EvP.sound (E : Env S w β φ ρ h ev) {o : Oper} {v : V} (he : EvP P ρ h o v) : ∃ val, (execOp ev o).run P w = .ok (.value val) w ∧ VR S w β v val := by
  obtain ⟨dst, op, type, pos, after, guard⟩ := o
  cases he with
  | move x ho hv => cases ho; subst hv; exact ⟨_, rfl, E.slots x⟩
  | assign x ho hv => cases ho; subst hv; exact ⟨_, rfl, E.slots x⟩
  | pickT c x y ho hc hv => cases ho; subst hv; exact ⟨ev x, by simp [execOp, E.bool hc, asBool], E.slots x⟩
  | pickF c x y ho hc hv => cases ho; subst hv; exact ⟨ev y, by simp [execOp, E.bool hc, asBool], E.slots y⟩
  | not t x ho hx => cases ho; exact ⟨_, by simp [execOp, E.bool hx, Op.unary]; rfl, by rw [VR, DR]; exact ⟨rfl, rfl⟩⟩
  | neg t x ho hx => cases ho; exact ⟨_, by simp [execOp, E.int hx, Op.unary, Op.intArith]; rfl, by rw [VR, DR]; exact ⟨by simp, rfl⟩⟩
  | int op t x y t' ho hx hy hv =>
    cases ho
    obtain ⟨u, h1, h2⟩ := run_binOp_int (P := P) w (t := t) hv
    exact ⟨u, by simp [execOp, E.int hx, E.int hy, eqGuard, h1], by rw [VR]; exact h2 S⟩
  | @shift op t x y t' k k' a b r ho hx hy hv =>
    cases ho
    obtain ⟨u, h1, h2⟩ := run_binOp_shift (P := P) w (t := t) (k' := k') hv
    exact ⟨u, by simp [execOp, E.int hx, E.int hy, eqGuard, h1], by rw [VR]; exact h2 S⟩
  | str op t x y t' ho hx hy hv =>
    cases ho
    obtain ⟨u, h1, h2⟩ := run_binOp_str (P := P) w (t := t) hv
    exact ⟨u, by simp [execOp, E.str hx, E.str hy, eqGuard, h1], by rw [VR]; exact h2 S⟩
  | eqB t x y t' ho ht hx hy =>
    cases ho
    exact ⟨_, by simp [execOp, E.bool hx, E.bool hy, eqGuard, binOp, run_equal_bool w t _ _ ht]; rfl, by rw [VR, DR]; exact ⟨by simp [Bool.beq_eq_decide_eq], rfl⟩⟩
  | neB t x y t' ho ht hx hy =>
    cases ho
    exact ⟨_, by simp [execOp, E.bool hx, E.bool hy, eqGuard, binOp, run_equal_bool w t _ _ ht]; rfl, by rw [VR, DR]; exact ⟨by simp [Bool.beq_eq_decide_eq], rfl⟩⟩
  | eqA t x y t' ho he hx hy hr =>
    cases ho
    subst hr
    obtain ⟨vs, e1, e2⟩ := hx.sound (E.slots x)
    obtain ⟨us, e3, e4⟩ := hy.sound (E.slots y)
    have e5 := he.run e2 e4
    obtain ⟨_, _, _, e6, _⟩ := id he
    exact ⟨_, by simp [execOp, e1, e3, run_eqGuard_agg w .eql t x y vs.toArray us.toArray e6, binOp, e5]; rfl, by rw [VR, DR]; exact ⟨rfl, rfl⟩⟩
  | neA t x y t' ho he hx hy hr =>
    cases ho
    subst hr
    obtain ⟨vs, e1, e2⟩ := hx.sound (E.slots x)
    obtain ⟨us, e3, e4⟩ := hy.sound (E.slots y)
    have e5 := he.run e2 e4
    obtain ⟨_, _, _, e6, _⟩ := id he
    exact ⟨_, by simp [execOp, e1, e3, run_eqGuard_agg w .neq t x y vs.toArray us.toArray e6, binOp, e5]; rfl, by rw [VR, DR]; exact ⟨rfl, rfl⟩⟩
  | idxStr t x i j ho ht hx hi hm hc =>
    cases ho
    subst hm
    refine ⟨.int .u8 _, by simp [execOp, E.str hx, E.int hi, Instr.index, asIntOf, run_underlying ht, bget, hc]; rfl, ?_⟩
    rw [VR, DR]
    exact ⟨rfl, rfl⟩
  | sliceStr t x lo hi l r ho ht hx hl hr h1 h2 hv =>
    cases ho
    subst hv
    have hb := run_sliceBounds2 (P := P) (isSlice := false) (cap := _) E hl hr h1 h2
    refine ⟨.string (ByteArray.extract ⟨_⟩ l r), by simp [execOp, Instr.sliceAt, Instr.slice, run_underlying ht, E.str hx, bsize, hb]; rfl, ?_⟩
    rw [VR, DR]
    refine ⟨?_, rfl⟩
    congr 1
    apply ByteArray.ext
    apply Array.ext'
    simp [List.extract_eq_take_drop, List.drop_take]
  | lenStr x t ho ht hx =>
    cases ho
    exact ⟨_, by simp [execOp, resolve, invoke, builtin, Builtin.len_, run_underlying ht, E.str hx, goInt, bsize]; rfl, by rw [VR, DR]; exact ⟨rfl, rfl⟩⟩
  | len x t e ho ht hx hn =>
    cases ho
    subst hn
    obtain ⟨a, c, h1, _⟩ := E.sl hx
    exact ⟨_, by simp [execOp, resolve, invoke, builtin, Builtin.len_, run_underlying ht, h1, goInt]; rfl, by rw [VR, DR]; exact ⟨rfl, rfl⟩⟩
  | idx t x i e j ho ht hsz hx hi hm hy =>
    cases ho
    subst hm
    obtain ⟨b, off, c, u, h1, h2, h3, h4, h5, h6⟩ := shared_at (E.d hx) hy
    refine ⟨.pointer (some ⟨b, off + j * _, none⟩), by simp only [execOp, E.int hi, h1, Sem.run_bind, run_indexAt t e ht hsz b off _ c _ j h2]; rfl, ?_⟩
    rw [VR, DR]
    exact ⟨rfl, b, _, u, rfl, h3, h5, h6, h4⟩
  | idxT t x i e j ho ht hsz hx hi hm hy =>
    cases ho
    subst hm
    have hs := E.slots x
    rw [hx, VR] at hs
    obtain ⟨b, off, c, u, h1, h2, h3, h4, h5, h6⟩ := shared_at hs.2 hy
    refine ⟨.pointer (some ⟨b, off + j * _, none⟩), by simp only [execOp, E.int hi, h1, Sem.run_bind, run_indexAt t e ht hsz b off _ c _ j h2]; rfl, ?_⟩
    rw [VR, DR]
    exact ⟨rfl, b, _, u, rfl, h3, h5, h6, h4⟩
  | @idxGh t x i e n id b off ds k m j y ho ht hsz hob hx hi hm hj hy h1 =>
    cases ho
    subst hm
    have hs := E.slots x
    rw [hx, VR] at hs
    have hg := (E.objs _ _ hob).1
    rw [DR] at hg
    obtain ⟨_, b', off', u, e1, e2, e3, e4, e5⟩ := hg
    cases e1
    rw [DR] at e3
    obtain ⟨_, vs, rfl, e6⟩ := e3
    obtain ⟨c, F', f1, f2, f3⟩ := DRs_get e6 hy
    have hF : F' = [] := by cases F' with | nil => rfl | cons b _ => exact absurd (f3 b (by simp)) (by simp)
    subst hF
    have hc := (cells_of_one h1 f2).1
    refine ⟨.pointer (some ⟨b, off + j * 1, none⟩), by simp only [execOp, E.int hi, hs, Sem.run_bind, run_indexArr t e ht hsz b off k j hj]; rfl, ?_⟩
    rw [VR, DR]
    refine ⟨rfl, b, _, c, rfl, e2, f2, ?_, e5⟩
    intro i' x' hi'
    rw [hc] at hi'
    cases i' with
    | zero =>
      simp at hi'
      subst hi'
      have := e4 j c (by simpa [Value.cells] using f1)
      rw [Nat.mul_one, Nat.add_zero]
      exact this
    | succ i' => simp at hi'
  | @idxRow t x i e id sz xs k m j ho ht hsz hx hob hi hm hy =>
    cases ho
    subst hm
    have hs := E.slots x
    rw [hx, VR] at hs
    obtain ⟨g, c, u, F', h1, h2, h3, h4, h5⟩ := row_at (E.objs _ _ hob) (List.getElem?_eq_getElem hy)
    refine ⟨.pointer (some ⟨g, 0 + j * _, none⟩), by simp only [execOp, E.int hi, hs.1, h1, Sem.run_bind, run_indexAt t e ht hsz g 0 _ c _ j h2]; rfl, ?_⟩
    rw [VR]
    exact ⟨g, _, c, h1, by simp⟩
  | fldRef s x f ho hf hx hm hz =>
    cases ho
    have hd := E.d hx
    rw [DR] at hd
    obtain ⟨_, b, o, y, h1, h2, h3, h4, h5⟩ := hd
    obtain ⟨u, h6, _, _, h7⟩ := subD_sound h3 hz hm
    refine ⟨_, by simp only [execOp, h1, Sem.run_bind, run_fieldAt hf]; rfl, ?_⟩
    rw [VR, DR]
    refine ⟨rfl, b, _, u, rfl, h2, h6, ?_, h5⟩
    intro j c hj
    rw [Nat.add_assoc]
    exact h4 _ c (h7 j c hj)
  | fldPtr s x f ho hf hx =>
    cases ho
    have hs := E.slots x
    rw [hx, VR] at hs
    obtain ⟨g, h1, h2⟩ := hs
    refine ⟨_, by simp only [execOp, h2, Sem.run_bind, run_fieldAt hf]; rfl, ?_⟩
    rw [VR]
    exact ⟨g, h1, rfl⟩
  | fldEl s x f ho hf hx =>
    cases ho
    have hs := E.slots x
    rw [hx, VR] at hs
    obtain ⟨g, n, c, h1, h2⟩ := hs
    refine ⟨_, by simp only [execOp, h2, Sem.run_bind, run_fieldAt hf]; rfl, ?_⟩
    rw [VR]
    exact ⟨g, n, c, h1, by rw [Nat.add_assoc]⟩
  | @fldV s x f cs off n agg z ho hf hx hz =>
    cases ho
    have hs := E.slots x
    rw [hx, VR] at hs
    obtain ⟨vs, h1, h2⟩ := hs
    obtain ⟨fs, fd, g1, g2, rfl, g3, g4, g5⟩ := hf
    unfold subV at hz
    cases agg with
    | true =>
      simp only [if_true] at hz
      split at hz
      · rename_i hle
        cases hz
        refine ⟨_, by simp only [execOp, h1, Sem.run_bind, Instr.field, run_underlying g1, Result.andThen_ok, g2, asAgg, Sem.run_pure, run_part_agg w g4 g3]; rfl, ?_⟩
        rw [VR]
        refine ⟨(vs.drop fd.offset).take n, ?_, VRs_take_drop h2 _ _⟩
        congr 1
        apply Array.ext'
        simp [List.extract_eq_take_drop]
      · cases hz
    | false =>
      simp only [Bool.false_eq_true, if_false] at hz
      obtain ⟨u, h3, h4⟩ := VRs_get h2 hz
      have hp := run_part_one (P := P) w (cs := vs.toArray) (off := fd.offset) g4 (by simpa using h3)
      exact ⟨u, by simp only [execOp, h1, Sem.run_bind, Instr.field, run_underlying g1, Result.andThen_ok, g2, asAgg, Sem.run_pure, hp], h4⟩
  | @fldD s x f cs off n agg z ho hf hx hz =>
    cases ho
    have hd := E.d hx
    have hd' := hd
    rw [DR] at hd
    obtain ⟨_, vs, h1, h2⟩ := hd
    obtain ⟨fs, fd, g1, g2, rfl, g3, g4, g5⟩ := hf
    obtain ⟨u, h6, h7, h8, _⟩ := subD_sound hd' hz rfl
    cases agg with
    | true =>
      obtain ⟨rfl, _⟩ := h8 rfl
      rw [h1] at h6
      exact ⟨_, by simp only [execOp, h1, Sem.run_bind, Instr.field, run_underlying g1, Result.andThen_ok, g2, asAgg, Sem.run_pure, run_part_agg w g4 g3]; rfl, by rw [VR]; exact h6⟩
    | false =>
      obtain ⟨h9, _⟩ := h7 rfl
      rw [h1] at h9
      have hp := run_part_one (P := P) w (cs := vs.toArray) (off := fd.offset) g4 h9
      exact ⟨u, by simp only [execOp, h1, Sem.run_bind, Instr.field, run_underlying g1, Result.andThen_ok, g2, asAgg, Sem.run_pure, hp], by rw [VR]; exact h6⟩
  | loadRef1 t x ho ht hx h1 =>
    cases ho
    have hd := E.d hx
    rw [DR] at hd
    obtain ⟨_, b, o, y, g1, g2, g3, g4, g5⟩ := hd
    have hc : w.cell? ⟨b, o, none⟩ = some y := g4 0 y (by rw [(cells_of_one h1 g3).1]; rfl)
    have hr := run_loadAt_one (w := w) ht ⟨b, o, none⟩ y hc
    exact ⟨y, by simp only [execOp, g1, Sem.run_bind, hr]; rfl, by rw [VR]; exact g3⟩
  | loadRefA t x ho ht hsz hx =>
    cases ho
    have hd := E.d hx
    rw [DR] at hd
    obtain ⟨_, b, o, y, g1, g2, g3, g4, g5⟩ := hd
    have g3' := g3
    rw [DR] at g3'
    obtain ⟨_, vs, rfl, h2⟩ := g3'
    have hr := run_loadAt_agg (w := w) ht hsz b o vs (DRs_length h2) g4
    exact ⟨_, by simp only [execOp, g1, Sem.run_bind, hr]; rfl, by rw [VR]; exact g3⟩
  | @loadPtr1 t x id off cs v ho ht hx hob hv =>
    cases ho
    have hs := E.slots x
    rw [hx, VR] at hs
    obtain ⟨g, h1, h2⟩ := hs
    obtain ⟨g', e, ys, h3, h4, h5, _⟩ := E.objs _ _ hob
    rw [h1] at h3
    obtain rfl : g = g' := by simpa using h3
    obtain ⟨u, h6, h7⟩ := VRs_get h5 hv
    have hr := run_loadAt_one (w := w) ht ⟨g, off, none⟩ u (by simp [World.cell?, h4, h6])
    exact ⟨u, by simp only [execOp, h2, Sem.run_bind, hr]; rfl, h7⟩
  | @loadPtrA t x id off cs n ho ht hsz hx hob hn vs hv =>
    cases ho
    subst hv
    have hs := E.slots x
    rw [hx, VR] at hs
    obtain ⟨g, h1, h2⟩ := hs
    obtain ⟨g', e, ys, h3, h4, h5, _⟩ := E.objs _ _ hob
    rw [h1] at h3
    obtain rfl : g = g' := by simpa using h3
    have hl := VRs_length h5
    have hr := run_loadAt_agg (w := w) ht hsz g off ((ys.drop off).take n) (by simp; omega) (by
      intro j c hj
      rw [List.getElem?_take] at hj
      split at hj
      · rw [List.getElem?_drop] at hj
        simp [World.cell?, h4, hj]
      · cases hj)
    refine ⟨_, by simp only [execOp, h2, Sem.run_bind, hr]; rfl, ?_⟩
    rw [VR]
    exact ⟨_, rfl, VRs_take_drop h5 _ _⟩
  | @loadEl1 t x id sz j off xs y z ho ht hx hob hy hm hz hn =>
    cases ho
    have hs := E.slots x
    rw [hx, VR] at hs
    obtain ⟨g, n, c, h1, h2⟩ := hs
    obtain ⟨g', c', u, F', h3, _, h4, h5, h6⟩ := row_at (E.objs _ _ hob) hy
    rw [h1] at h3
    obtain ⟨rfl, _, _⟩ : g = g' ∧ n = xs.length ∧ c = c' := by simpa using h3
    obtain ⟨u', F2, h7', h7, _⟩ := DRs_get (DR_cells h4 hm) hz
    have hF : F2 = [] := h7.noU hn
    subst hF
    have h9 := h6 off u' h7'
    have hr := run_loadAt_one (w := w) ht ⟨g, j * sz + off, none⟩ u' h9
    exact ⟨u', by simp only [execOp, h2, Sem.run_bind, hr]; rfl, by rw [VR]; exact h7⟩
  | @loadHoleF t x id sz j off xs y n m u sz' ys ho ht hx hob hy hmm hz hnu hm hn =>
    cases ho
    have hs := E.slots x
    rw [hx, VR] at hs
    obtain ⟨g, n0, c, h1, h2⟩ := hs
    obtain ⟨g', c', u1, F', h3, _, h4, h5, h6⟩ := row_at (E.objs _ _ hob) hy
    rw [h1] at h3
    obtain ⟨rfl, _, _⟩ : g = g' ∧ n0 = xs.length ∧ c = c' := by simpa using h3
    have hF : F' = [] := h4.noU hnu
    subst hF
    obtain ⟨v, h7, h8, _, _⟩ := subD_sound (n := 1) (agg := false) h4 (by simpa [subD] using hz) hmm
    have h9 := h6 off v (by simpa using (h8 rfl).1)
    have hr := run_loadAt_one (w := w) ht ⟨g, j * sz + off, none⟩ v h9
    rw [DR] at h7
    obtain ⟨⟨rfl, hone⟩, _⟩ := h7
    have hb := (E.objs _ _ hm).1
    have hown := E.objs _ _ hn
    rw [OR, DR, hb] at hown
    obtain ⟨vs, F1, F2, _, h7, _⟩ := hown
    refine ⟨v, by simp only [execOp, h2, Sem.run_bind, hr]; rfl, ?_⟩
    rw [VR]
    refine ⟨hb.symm, ?_⟩
    rcases h7 with ⟨⟨a0, e1⟩, _⟩ | ⟨g2, c2, cur, e, fr, e1, _⟩
    · exact ⟨_, _, _, e1⟩
    · exact ⟨_, _, _, e1⟩
  | @loadHole t x id sz j xs n m u sz' ys ho ht hx hob hy hm hn =>
    cases ho
    have hs := E.slots x
    rw [hx, VR] at hs
    obtain ⟨g, n0, c, h1, h2⟩ := hs
    obtain ⟨g', c', v, F', h3, _, h4, h5, h6⟩ := row_at (E.objs _ _ hob) hy
    rw [h1] at h3
    obtain ⟨rfl, _, _⟩ : g = g' ∧ n0 = xs.length ∧ c = c' := by simpa using h3
    rw [DR] at h4
    obtain ⟨⟨rfl, hone⟩, _⟩ := h4
    have h9 := h6 0 v (by rw [hone.1]; rfl)
    have hr := run_loadAt_one (w := w) ht ⟨g, j * sz + 0, none⟩ v h9
    have hb := (E.objs _ _ hm).1
    have hown := E.objs _ _ hn
    rw [OR, DR, hb] at hown
    obtain ⟨vs, F1, F2, _, h7, _⟩ := hown
    refine ⟨v, by simp only [execOp, h2, Sem.run_bind, hr]; rfl, ?_⟩
    rw [VR]
    refine ⟨hb.symm, ?_⟩
    rcases h7 with ⟨⟨a0, e1⟩, _⟩ | ⟨g2, c2, cur, e, fr, e1, _⟩
    · exact ⟨_, _, _, e1⟩
    · exact ⟨_, _, _, e1⟩
  | @loadElA t x id sz j xs cs ho ht hsz hx hob hy hn =>
    cases ho
    have hs := E.slots x
    rw [hx, VR] at hs
    obtain ⟨g, n, c, h1, h2⟩ := hs
    obtain ⟨g', c', u, F', h3, _, h4, h5, h6⟩ := row_at (E.objs _ _ hob) hy
    rw [h1] at h3
    obtain ⟨rfl, _, _⟩ : g = g' ∧ n = xs.length ∧ c = c' := by simpa using h3
    have hF : F' = [] := h4.noU hn
    subst hF
    have h4' := h4
    rw [DR] at h4'
    obtain ⟨_, vs, rfl, h7⟩ := h4'
    have hr := run_loadAt_agg (w := w) ht hsz g (j * sz) vs (DRs_length h7) h6
    exact ⟨_, by simp only [execOp, h2, Sem.run_bind, Nat.add_zero, hr]; rfl, by rw [VR]; exact h4⟩
  | func fn cap ho hv =>
    cases ho
    subst hv
    refine ⟨_, by simp only [execOp, Instr.makeFunc, Sem.run_bind, Sem.run_pure]; rfl, ?_⟩
    rw [VR]
    have hc : cap.map ev = (cap.toList.map ev).toArray := by rw [← Array.toList_map, Array.toArray_toList]
    have h0 : (#[] : Array Operand).map ev = #[] := by simp
    refine ⟨cap.toList.map ev, by rw [h0, hc], ?_⟩
    generalize cap.toList = l
    induction l with
    | nil => rw [List.map_nil, VRs]; rfl
    | cons x l ih => rw [List.map_cons, List.map_cons, VRs]; exact ⟨_, _, rfl, E.slots x, ih⟩
  | extract x ho hx hv =>
    cases ho
    have hs := E.slots x
    rw [hx, VR] at hs
    obtain ⟨vs, h1, h2⟩ := hs
    obtain ⟨u, h3, h4⟩ := VRs_get h2 hv
    exact ⟨u, by simp [execOp, h1, Instr.extract, h3], h4⟩
  | nilPtr x ho hx =>
    cases ho
    have hs := E.slots x
    rw [hx] at hs
    have hs' := hs
    rw [VR] at hs'
    obtain ⟨g, _, h2⟩ := hs'
    exact ⟨ev x, by simp [execOp, h2], hs⟩
  | nilRef x ho hx =>
    cases ho
    have hs := E.d hx
    have hs' := hs
    rw [DR] at hs'
    obtain ⟨_, b, o, y, h2, _⟩ := hs'
    exact ⟨ev x, by simp [execOp, h2], by rw [VR]; exact hs⟩
  | convInt s d x ho hs hd hx =>
    cases ho
    obtain ⟨ds, hs⟩ := Option.isSome_iff_exists.1 hs
    refine ⟨_, by simp [execOp, convert, run_underlying hs, run_underlying hd, E.int hx, Conv.intToInt]; rfl, ?_⟩
    rw [VR, DR]; exact ⟨rfl, rfl⟩
  | convStr s d x ho hs hd hx =>
    cases ho
    refine ⟨_, by simp [execOp, convert, run_underlying hs, run_underlying hd, E.str hx]; rfl, ?_⟩
    rw [VR, DR]; exact ⟨rfl, rfl⟩
  | @sliceSh t x lo hi e sz xs l r ho ht hsz hx hl hr h1 h2 ys hv =>
    cases ho
    subst hv
    have hd := E.d hx
    rw [DR] at hd
    obtain ⟨_, a, c, g1, g2, g3⟩ := hd
    have hb := run_sliceBounds2 (P := P) (isSlice := true) (cap := c) E hl hr h1 (by omega)
    have hl' : ((xs.take r).drop l).length = r - l := by simp; omega
    refine ⟨.slice (if c = l then a else a.map (·.add (l * sz))) (r - l) (c - l), by simp [execOp, Instr.sliceAt, Instr.slice, run_underlying ht, g1, hb, run_sizeOf w hsz], ?_⟩
    rw [VR, DR]
    refine ⟨rfl, _, c - l, by rw [hl'], by omega, ?_⟩
    rcases g3 with rfl | ⟨b, off, vs, rfl, k1, k2, k3, k4, k5, k6⟩
    · exact .inl (by simp)
    · by_cases hc : c = l
      · exact .inl (List.eq_nil_of_length_eq_zero (by omega))
      · refine .inr ⟨b, off + l * sz, (vs.take r).drop l, by simp [hc, add_block], k1, ?_, fun y hy => k3 y (List.mem_of_mem_take (List.mem_of_mem_drop hy)), ?_, k5, fun y hy => k6 y (List.mem_of_mem_take (List.mem_of_mem_drop hy))⟩
        · have := DRs_take_drop k2 l (r - l)
          rwa [← List.drop_take, ← List.drop_take] at this
        · intro j v hj
          have he : flat vs = flat (vs.take l) ++ flat (vs.drop l) := by
            rw [flat, flat, flat, ← List.flatMap_append, List.take_append_drop]
          have hlen : (flat (vs.take l)).length = l * sz := by
            have hle : l ≤ vs.length := by rw [DRs_length k2]; omega
            have : ∀ (us : List Value), (∀ y ∈ us, y.cells.size = sz) → (flat us).length = us.length * sz := by
              intro us hu
              induction us with
              | nil => simp [flat]
              | cons u us ih =>
                rw [show flat (u :: us) = u.cells.toList ++ flat us from rfl, List.length_append, ih (fun y hy => hu y (by simp [hy]))]
                have := hu u (by simp)
                simp [this, Nat.succ_mul, Nat.add_comm]
            rw [this _ (fun y hy => k3 y (List.mem_of_mem_take hy)), List.length_take, Nat.min_eq_left hle]
          have he2 : vs.drop l = (vs.take r).drop l ++ vs.drop r := by
            rw [List.drop_take]
            have : vs.drop r = (vs.drop l).drop (r - l) := by rw [List.drop_drop]; congr 1; omega
            rw [this, List.take_append_drop]
          have hj2 : (flat (vs.drop l))[j]? = some v := by
            rw [he2, flat, List.flatMap_append]
            rw [List.getElem?_append_left (by exact (List.getElem?_eq_some_iff.1 hj).1)]
            exact hj
          have := k4 (l * sz + j) v (by rw [he, List.getElem?_append_right (by omega), hlen]; rw [show l * sz + j - l * sz = j by omega]; exact hj2)
          rw [← this]; congr 2; omega
  | @subRow t x lo hi e id sz xs l r ho ht hsz hx hob hl hr h1 h2 =>
    cases ho
    have hs := E.slots x
    rw [hx, VR] at hs
    obtain ⟨e1, _⟩ := hs
    have hrow := E.objs _ _ hob
    rw [OR, DR] at hrow
    obtain ⟨vs, F1, F2, _, h3, _⟩ := hrow
    have hhd : ∃ ad c, β id = .slice ad xs.length c ∧ xs.length ≤ c := by
      rcases h3 with ⟨⟨a0, q⟩, qn, _⟩ | ⟨g, c, cur, e', fr, q, ⟨qc, _⟩, _⟩
      · exact ⟨a0, 0, by rw [q, qn], by omega⟩
      · exact ⟨_, c, q, qc⟩
    obtain ⟨ad, c, e2, e3⟩ := hhd
    have hb := run_sliceBounds2 (P := P) (isSlice := true) (cap := c) E hl hr h1 (by omega)
    refine ⟨.slice (if c = l then ad else ad.map (·.add (l * sz))) (r - l) (c - l), by simp [execOp, Instr.sliceAt, Instr.slice, run_underlying ht, e1, e2, hb, run_sizeOf w hsz], ?_⟩
    rw [VR]
    exact ⟨ad, xs.length, c, e2, h2, h1, rfl⟩
  | @lenSub x t e id sz l r ho ht hx n hn =>
    cases ho
    subst hn
    have hs := E.slots x
    rw [hx, VR] at hs
    obtain ⟨ad, m, c, _, _, _, e2⟩ := hs
    exact ⟨.int .i64 ((r - l : Nat) : Int), by simp [execOp, resolve, invoke, e2, builtin, Builtin.len_, run_underlying ht]; rfl, by rw [VR, DR]; exact ⟨rfl, rfl⟩⟩
  | min2 x y ts ho hx hy hr =>
    cases ho
    subst hr
    exact ⟨_, by simp [execOp, resolve, invoke, builtin, Builtin.min_, Builtin.min2, E.int hx, E.int hy]; rfl, by rw [VR, DR]; exact ⟨rfl, rfl⟩⟩
  | @ext f fx args ats ds r he ho hf ha =>
    cases ho
    have hfe := E.slots fx
    rw [hf, VR] at hfe
    obtain ⟨vs, h1, h2⟩ := hfe
    rw [VRs] at h2
    subst h2
    have hd : ∀ (xs : List Operand) (ds : List D), xs.map ρ = ds.map .d → DRs S w ds (xs.map ev) [] := by
      intro xs
      induction xs with
      | nil =>
        intro ds h
        cases ds with
        | nil => rw [DRs]; exact ⟨rfl, rfl⟩
        | cons d ds => simp at h
      | cons x xs ih =>
        intro ds h
        cases ds with
        | nil => simp at h
        | cons d ds =>
          simp only [List.map_cons, List.cons.injEq] at h
          rw [List.map_cons, DRs]
          exact ⟨_, _, [], [], rfl, rfl, E.d h.1, ih ds h.2⟩
    obtain ⟨v, h3, h4⟩ := he S w _ (hd args.toList ds ha)
    refine ⟨v, ?_, by rw [VR]; exact h4⟩
    have hm : (args.toList.map ev).toArray = args.map ev := by apply Array.ext'; simp
    rw [hm] at h3
    simpa [execOp, resolve, h1, Deferred.ofValue, invoke] using h3

end

end Go.AM
