/-
  The abstract machine, part O: small lemmas that the walks use: bytes, lists read by place, finite conjunctions.
-/
import Derived.Test.YtejplmkhicdfcaaAmN
namespace Go.AM

theorem u8_inj {a b : UInt8} : ((a.toNat : Int) = (b.toNat : Int)) ↔ a = b :=
  ⟨fun h => UInt8.toNat_inj.1 (Int.ofNat_inj.1 h), fun h => by rw [h]⟩
theorem u8_eql (a b : UInt8) {x y : Int} (hx : (a.toNat : Int) = x) (hy : (b.toNat : Int) = y) : intV .eql .u8 x y = some (.bool (decide (a = b))) := by
  subst hx hy; rw [intV]; exact congrArg (fun z => some (D.bool z)) (decide_eq_decide.2 u8_inj)
theorem u8_neq (a b : UInt8) {x y : Int} (hx : (a.toNat : Int) = x) (hy : (b.toNat : Int) = y) : intV .neq .u8 x y = some (.bool (!decide (a = b))) := by
  subst hx hy; rw [intV]; exact congrArg (fun z => some (D.bool (!z))) (decide_eq_decide.2 u8_inj)
theorem u8_lss (a b : UInt8) {x y : Int} (hx : (a.toNat : Int) = x) (hy : (b.toNat : Int) = y) : intV .lss .u8 x y = some (.bool (decide (a < b))) := by
  subst hx hy; rw [intV]; exact congrArg (fun z => some (D.bool z)) (decide_eq_decide.2 (by rw [UInt8.lt_iff_toNat_lt]; omega))
theorem u8_leq (a b : UInt8) {x y : Int} (hx : (a.toNat : Int) = x) (hy : (b.toNat : Int) = y) : intV .leq .u8 x y = some (.bool (decide (a ≤ b))) := by
  subst hx hy; rw [intV]; exact congrArg (fun z => some (D.bool z)) (decide_eq_decide.2 (by rw [UInt8.le_iff_toNat_le]; omega))
theorem u8_gtr (a b : UInt8) {x y : Int} (hx : (a.toNat : Int) = x) (hy : (b.toNat : Int) = y) : intV .gtr .u8 x y = some (.bool (decide (b < a))) := by
  subst hx hy; rw [intV]; exact congrArg (fun z => some (D.bool z)) (decide_eq_decide.2 (by rw [UInt8.lt_iff_toNat_lt]; omega))
theorem u8_geq (a b : UInt8) {x y : Int} (hx : (a.toNat : Int) = x) (hy : (b.toNat : Int) = y) : intV .geq .u8 x y = some (.bool (decide (b ≤ a))) := by
  subst hx hy; rw [intV]; exact congrArg (fun z => some (D.bool z)) (decide_eq_decide.2 (by rw [UInt8.le_iff_toNat_le]; omega))

/-! ### Finite conjunctions and tables by place -/

/-- All places below n have the property. -/
def allB (n : Nat) (p : Nat → Bool) : Bool := (List.range n).all p
theorem allB_true {n p} : allB n p = true ↔ ∀ j, j < n → p j = true := by simp [allB]
theorem allB_of {n p} (h : ∀ j, j < n → p j = true) : allB n p = true := allB_true.2 h
theorem allB_no {n p} (j : Nat) (hj : j < n) (h : p j = false) : allB n p = false := by
  cases hb : allB n p with
  | false => rfl
  | true => rw [allB_true.1 hb j hj] at h; cases h
theorem allB_congr {n p q} (h : ∀ j, j < n → p j = q j) : allB n p = allB n q := by
  rw [Bool.eq_iff_iff, allB_true, allB_true]
  exact ⟨fun k j hj => by rw [← h j hj]; exact k j hj, fun k j hj => by rw [h j hj]; exact k j hj⟩

/-- What holds below k holds below k + 1, if it holds at k. -/
theorem upto_succ {p : Nat → Prop} {k : Nat} (h : ∀ j, j < k → p j) (hk : p k) : ∀ j, j < k + 1 → p j := by
  intro j hj
  by_cases e : j = k
  · exact e ▸ hk
  · exact h j (by omega)

/-- A table of the first n places. -/
def tab {τ : Type} (n : Nat) (f : Nat → τ) : List τ := (List.range n).map f
@[simp] theorem tab_length {τ : Type} (n : Nat) (f : Nat → τ) : (tab n f).length = n := by simp [tab]
@[simp] theorem tab_zero {τ : Type} (f : Nat → τ) : tab 0 f = [] := rfl
theorem tab_succ {τ : Type} (n : Nat) (f : Nat → τ) : tab (n + 1) f = tab n f ++ [f n] := by simp [tab, List.range_succ]
theorem tab_get? {τ : Type} (n : Nat) (f : Nat → τ) (j : Nat) (h : j < n) : (tab n f)[j]? = some (f j) := by simp [tab, h]
theorem tab_getD {τ : Type} (n : Nat) (f : Nat → τ) (j : Nat) (d : τ) (h : j < n) : (tab n f).getD j d = f j := by simp [tab, h]
theorem tab_self {τ : Type} (l : List τ) (d : τ) : tab l.length (fun j => l.getD j d) = l := by
  apply List.ext_getElem
  · simp
  · intro i h1 h2; simp [tab, h2]
theorem tab_congr {τ : Type} {n : Nat} {f g : Nat → τ} (h : ∀ j, j < n → f j = g j) : tab n f = tab n g := by
  apply List.map_congr_left
  intro a ha; exact h a (List.mem_range.1 ha)
theorem tab_eq {τ : Type} {n : Nat} {f : Nat → τ} {l : List τ} (d : τ) (hn : l.length = n) : tab n f = l ↔ ∀ j, j < n → f j = l.getD j d := by
  constructor
  · rintro rfl j hj; rw [tab_getD _ _ _ _ hj]
  · intro h; subst hn; rw [tab_congr h, tab_self]

theorem slice_one {l : List UInt8} {k : Nat} (h : k < l.length) : (l.take (k + 1)).drop k = [l.getD k 0] := by
  apply List.ext_getElem
  · simp; omega
  · intro i h1 h2
    have : i = 0 := by simp at h2; exact h2
    subst this; simp [h]

theorem oB {a b : List V} (h : a = b) : some (Ob.box a) = some (Ob.box b) := by rw [h]

theorem push {τ : Type} {f : τ → D} {l l' : List τ} {x : τ} {y : D} (hy : f x = y) (h : l ++ [x] = l') : l.map f ++ [y] = l'.map f := by
  rw [← h, List.map_append, ← hy]; rfl
theorem pushes {τ : Type} {f : τ → D} {l l' m : List τ} (h : l ++ m = l') : l.map f ++ m.map f = l'.map f := by rw [← h, List.map_append]

theorem nott {b : Bool} (h : (!b) = true) : b = false := by cases b <;> simp at h ⊢
theorem notf {b : Bool} (h : (!b) = false) : b = true := by cases b <;> simp at h ⊢

theorem bndN {ρ : Operand → V} {d n : Nat} (h : n = d) : bnd ρ none d n := h
theorem bndS {ρ : Operand → V} {y : Operand} {d n : Nat} {k : IntKind} {m : Int} (h : ρ y = .d (.int k m)) (hm : m = (n : Int)) : bnd ρ (some y) d n := ⟨k, m, h, hm⟩

end Go.AM
