/-
  The abstract machine, part P: an empty slice is taken as an own one.
-/
import Derived.Test.YtlnimdlpggnjeaaGreatDoorAmO
namespace Go.AM

theorem Wk.nilrow {c : Ctx} {α : St} (s id sz : Nat) (hs : α.get s = .c (.slice none 0 0)) (hlt : Nat.blt s α.n = true) (hid : freshB [id] α = true) :
    Wk c α (α.app (some s) (.row id) { set := [(id, .row sz [])], new := [id] }) := by
  rintro a w ⟨β, φ, H⟩
  have hv := H.slots s
  rw [hs, VR] at hv
  have hlt' : s < α.n := Nat.le_of_ble_eq_true hlt
  have hput : a.put (some s) (.slice none 0 0) = a := by
    have hsz : s < a.tmps.size := by rw [H.size]; exact hlt'
    have hg : a.tmps[s] = .slice none 0 0 := by
      have := hv
      simp [hsz] at this
      exact this
    unfold Act.put
    have : a.tmps.setIfInBounds s (.slice none 0 0) = a.tmps := by
      apply Array.ext
      · simp
      · intro i h1 h2
        simp at h1
        rw [Array.getElem_setIfInBounds]
        split
        · rename_i e; subst e; exact hg.symm
        · rfl
    simp [this]
  have := H.new (some s) (by intro d hd; cases hd; exact hlt') id (by exact freshB_spec hid id (by simp)) (.row sz []) w (.slice none 0 0) [] rfl rfl rfl (Nat.le_refl _) (fun _ _ => rfl) (by simp) (by simp)
    (fun S' _ β' _ => by
      show DR S' w (.slice true sz []) (.slice none 0 0) []
      exact nil_reads true sz)
    (.row id) (.slice none 0 0) (fun S' _ β' _ hb => by rw [VR]; exact ⟨hb.symm, none, 0, 0, rfl⟩)
  rw [hput] at this
  exact this

theorem EvP.of {P : Program} {ρ : Operand → V} {h : Nat → Option Ob} {o : Oper} {v v' : V} (e : v = v') (he : EvP P ρ h o v) : EvP P ρ h o v' := e ▸ he
theorem isSome_of {τ : Type} {o : Option τ} {x : τ} (h : o = some x) : o.isSome = true := by rw [h]; rfl
theorem remN {a b : Int} {n d : Nat} (ha : a = (n : Int)) (hb : b = (d : Int)) (hd : 0 < d) : intV .rem .i64 a b = some (.int .i64 ((n % d : Nat) : Int)) := by
  subst ha hb
  rw [intV, if_neg (by omega)]
  rfl
theorem quoN {a b : Int} {n d : Nat} (ha : a = (n : Int)) (hb : b = (d : Int)) (hd : 0 < d) (hn : n ≤ 9223372036854775807) : intV .quo .i64 a b = some (.int .i64 ((n / d : Nat) : Int)) := by
  subst ha hb
  rw [intV, if_neg (by omega)]
  have h1 : Int.tdiv (n : Int) (d : Int) = ((n / d : Nat) : Int) := rfl
  have h2 := Nat.div_le_self n d
  rw [h1]
  generalize n / d = q at *
  rw [IntWalk.i64_in _ (by omega)]
theorem convU8 {m : Int} {n : Nat} (h : m = (n : Int)) (hn : n < 256) : V.d (.int .u8 (IntKind.u8.wrap m)) = V.d (.int .u8 ((UInt8.ofNat n).toNat : Int)) := by
  subst h
  rw [IntWalk.u8_in _ (by omega)]
  have : (UInt8.ofNat n).toNat = n := by simp; omega
  rw [this]
theorem conv64 {m : Int} (h1 : -9223372036854775808 ≤ m) (h2 : m ≤ 9223372036854775807) : V.d (.int .i64 (IntKind.i64.wrap m)) = V.d (.int .i64 m) := by
  rw [IntWalk.i64_in _ ⟨h1, h2⟩]

def digs (k : Nat) (acc : List UInt8) : List UInt8 := if h : k = 0 then acc else digs (k / 10) (UInt8.ofNat (48 + k % 10) :: acc)
  termination_by k
  decreasing_by omega
theorem digs_zero (acc : List UInt8) : digs 0 acc = acc := by rw [digs]; rfl
theorem digs_step {k : Nat} (h : 0 < k) (acc : List UInt8) : digs k acc = digs (k / 10) (UInt8.ofNat (48 + k % 10) :: acc) := by
  rw [digs, dif_neg (by omega)]
def mtext (k : Nat) : List UInt8 := if k = 0 then [109, 48] else 109 :: digs k []
def marks (k n : Nat) : List (List UInt8) := tab n fun j => mtext (k + j)
def marked (xs : List (List UInt8)) (k m : Nat) : List (List UInt8) := tab xs.length fun j => if j < m then mtext (k + j) else xs.getD j default
@[simp] theorem marked_length (xs : List (List UInt8)) (k m : Nat) : (marked xs k m).length = xs.length := by simp [marked]
theorem marked_zero (xs : List (List UInt8)) (k : Nat) : marked xs k 0 = xs := by
  rw [marked, tab_eq default rfl]; intro j _; rw [if_neg (by omega)]
theorem marked_all (xs : List (List UInt8)) (k : Nat) {m : Nat} (hle : xs.length ≤ m) : marked xs k m = marks k xs.length := by
  unfold marked marks
  apply tab_congr
  intro j hj; rw [if_pos (by omega)]
theorem marked_set (xs : List (List UInt8)) (k : Nat) {m : Nat} (_h : m < xs.length) : (marked xs k m).set m (mtext (k + m)) = marked xs k (m + 1) := by
  apply List.ext_getElem
  · simp
  · intro j h1 h2
    simp at h2
    rw [List.getElem_set]
    split
    · rename_i e; subst e; simp [marked, tab]
    · rename_i e
      by_cases e2 : j < m
      · simp [marked, tab, e2, show j < m + 1 by omega]
      · simp [marked, tab, e2, show ¬ j < m + 1 by omega]
def heldB (xs : List (List UInt8)) (k : Nat) : Bool := allB xs.length fun j => decide (xs.getD j default = mtext (k + j))
def heldR (xs : List (List UInt8)) (k : Nat) : Int := if heldB xs k then ((k + xs.length : Nat) : Int) else -1
@[simp] theorem marks_length (k n : Nat) : (marks k n).length = n := by simp [marks]
theorem held_marks (k n : Nat) : heldR (marks k n) k = ((k + n : Nat) : Int) := by
  have : heldB (marks k n) k = true := allB_of fun j hj => by
    simp at hj
    rw [marks, tab_getD _ _ _ _ hj]; simp
  rw [heldR, if_pos this, marks_length]

theorem solids_c {d : D} {ds : List D} (h : d.solid = true) (h2 : solids ds = true) : solids (d :: ds) = true := by rw [solids, h, h2]; rfl
theorem slice_oneI {l : List UInt8} {a b : Nat} (h : a < l.length) (e : b = a + 1) : (l.take b).drop a = [l.getD a 0] := by subst e; exact slice_one h

def selTo {τ : Type} (n : Nat) (p : Nat → Bool) (f : Nat → τ) : List τ := ((List.range n).filter p).map f
theorem selTo_zero {τ : Type} (p : Nat → Bool) (f : Nat → τ) : selTo 0 p f = [] := rfl
theorem selTo_yes {τ : Type} {n : Nat} {p : Nat → Bool} {f : Nat → τ} (h : p n = true) : selTo n p f ++ [f n] = selTo (n + 1) p f := by simp [selTo, List.range_succ, h]
theorem selTo_no {τ : Type} {n : Nat} {p : Nat → Bool} {f : Nat → τ} (h : p n = false) : selTo n p f = selTo (n + 1) p f := by simp [selTo, List.range_succ, h]
theorem selTo_le {τ : Type} (n : Nat) (p : Nat → Bool) (f : Nat → τ) : (selTo n p f).length ≤ n := by
  have := List.length_filter_le p (List.range n)
  simpa [selTo] using this

end Go.AM
