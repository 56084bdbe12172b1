/-
  The abstract machine, part O: small lemmas that the walks use: bytes, lists read by place, finite conjunctions.
-/
import Derived.Test.YtlnimdlpggnjeaaGreatDoorAmN
namespace Go.AM

theorem u8_inj {a b : UInt8} : ((a.toNat : Int) = (b.toNat : Int)) ↔ a = b :=
  ⟨fun h => UInt8.toNat_inj.1 (Int.ofNat_inj.1 h), fun h => by rw [h]⟩
theorem u8_eql (a b : UInt8) {x y : Int} (hx : (a.toNat : Int) = x) (hy : (b.toNat : Int) = y) : intV .eql .u8 x y = some (.bool (decide (a = b))) := by
  subst hx hy; rw [intV]; exact congrArg (fun z => some (D.bool z)) (decide_eq_decide.2 u8_inj)
theorem u8_neq (a b : UInt8) {x y : Int} (hx : (a.toNat : Int) = x) (hy : (b.toNat : Int) = y) : intV .neq .u8 x y = some (.bool (!decide (a = b))) := by
  subst hx hy; rw [intV]; exact congrArg (fun z => some (D.bool (!z))) (decide_eq_decide.2 u8_inj)
theorem u8_lss (a b : UInt8) {x y : Int} (hx : (a.toNat : Int) = x) (hy : (b.toNat : Int) = y) : intV .lss .u8 x y = some (.bool (decide (a < b))) := by
  subst hx hy; rw [intV]; exact congrArg (fun z => some (D.bool z)) (decide_eq_decide.2 (by rw [UInt8.lt_iff_toNat_lt]; omega))
theorem u8_leq (a b : UInt8) {x y : Int} (hx : (a.toNat : Int) = x) (hy : (b.toNat : Int) = y) : intV .leq .u8 x y = some (.bool (decide (a ≤ b))) := by
  subst hx hy; rw [intV]; exact congrArg (fun z => some (D.bool z)) (decide_eq_decide.2 (by rw [UInt8.le_iff_toNat_le]; omega))
theorem u8_gtr (a b : UInt8) {x y : Int} (hx : (a.toNat : Int) = x) (hy : (b.toNat : Int) = y) : intV .gtr .u8 x y = some (.bool (decide (b < a))) := by
  subst hx hy; rw [intV]; exact congrArg (fun z => some (D.bool z)) (decide_eq_decide.2 (by rw [UInt8.lt_iff_toNat_lt]; omega))
theorem u8_geq (a b : UInt8) {x y : Int} (hx : (a.toNat : Int) = x) (hy : (b.toNat : Int) = y) : intV .geq .u8 x y = some (.bool (decide (b ≤ a))) := by
  subst hx hy; rw [intV]; exact congrArg (fun z => some (D.bool z)) (decide_eq_decide.2 (by rw [UInt8.le_iff_toNat_le]; omega))

def allB (n : Nat) (p : Nat → Bool) : Bool := (List.range n).all p
theorem allB_true {n p} : allB n p = true ↔ ∀ j, j < n → p j = true := by simp [allB]
theorem allB_of {n p} (h : ∀ j, j < n → p j = true) : allB n p = true := allB_true.2 h
theorem allB_no {n p} (j : Nat) (hj : j < n) (h : p j = false) : allB n p = false := by
  cases hb : allB n p with
  | false => rfl
  | true => rw [allB_true.1 hb j hj] at h; cases h
theorem allB_congr {n p q} (h : ∀ j, j < n → p j = q j) : allB n p = allB n q := by
  rw [Bool.eq_iff_iff, allB_true, allB_true]
  exact ⟨fun k j hj => by rw [← h j hj]; exact k j hj, fun k j hj => by rw [h j hj]; exact k j hj⟩

theorem upto_succ {p : Nat → Prop} {k : Nat} (h : ∀ j, j < k → p j) (hk : p k) : ∀ j, j < k + 1 → p j := by
  intro j hj
  by_cases e : j = k
  · exact e ▸ hk
  · exact h j (by omega)

def tab {τ : Type} (n : Nat) (f : Nat → τ) : List τ := (List.range n).map f
@[simp] theorem tab_length {τ : Type} (n : Nat) (f : Nat → τ) : (tab n f).length = n := by simp [tab]
@[simp] theorem tab_zero {τ : Type} (f : Nat → τ) : tab 0 f = [] := rfl
theorem tab_succ {τ : Type} (n : Nat) (f : Nat → τ) : tab (n + 1) f = tab n f ++ [f n] := by simp [tab, List.range_succ]
theorem tab_get? {τ : Type} (n : Nat) (f : Nat → τ) (j : Nat) (h : j < n) : (tab n f)[j]? = some (f j) := by simp [tab, h]
theorem tab_getD {τ : Type} (n : Nat) (f : Nat → τ) (j : Nat) (d : τ) (h : j < n) : (tab n f).getD j d = f j := by simp [tab, h]
theorem tab_self {τ : Type} (l : List τ) (d : τ) : tab l.length (fun j => l.getD j d) = l := by
  apply List.ext_getElem
  · simp
  · intro i h1 h2; simp [tab, h2]
theorem tab_congr {τ : Type} {n : Nat} {f g : Nat → τ} (h : ∀ j, j < n → f j = g j) : tab n f = tab n g := by
  apply List.map_congr_left
  intro a ha; exact h a (List.mem_range.1 ha)
theorem tab_eq {τ : Type} {n : Nat} {f : Nat → τ} {l : List τ} (d : τ) (hn : l.length = n) : tab n f = l ↔ ∀ j, j < n → f j = l.getD j d := by
  constructor
  · rintro rfl j hj; rw [tab_getD _ _ _ _ hj]
  · intro h; subst hn; rw [tab_congr h, tab_self]

theorem slice_one {l : List UInt8} {k : Nat} (h : k < l.length) : (l.take (k + 1)).drop k = [l.getD k 0] := by
  apply List.ext_getElem
  · simp; omega
  · intro i h1 h2
    have : i = 0 := by simp at h2; exact h2
    subst this; simp [h]

theorem oB {a b : List V} (h : a = b) : some (Ob.box a) = some (Ob.box b) := by rw [h]

theorem push {τ : Type} {f : τ → D} {l l' : List τ} {x : τ} {y : D} (hy : f x = y) (h : l ++ [x] = l') : l.map f ++ [y] = l'.map f := by
  rw [← h, List.map_append, ← hy]; rfl
theorem pushes {τ : Type} {f : τ → D} {l l' m : List τ} (h : l ++ m = l') : l.map f ++ m.map f = l'.map f := by rw [← h, List.map_append]

theorem nott {b : Bool} (h : (!b) = true) : b = false := by cases b <;> simp at h ⊢
theorem notf {b : Bool} (h : (!b) = false) : b = true := by cases b <;> simp at h ⊢

def anys (ds : List D) : List D := ds.map fun _ => .any
theorem back_anys : ∀ ds : List D, Back (ds.map .d) (anys ds) []
  | [] => .nil
  | _ :: ds => .skip _ _ (back_anys ds)
theorem exps_ds {h hb : Nat → Option Ob} : ∀ ds : List D, Exps h hb (ds.map .d) ds []
  | [] => .nil
  | d :: ds => .cons (.d d) (exps_ds ds)

def ixF {τ : Type} (p : τ → Bool) (l : List τ) : Int := if l.any p then (l.findIdx p : Int) else -1
theorem ixF_some {τ : Type} {p : τ → Bool} {l : List τ} {k : Nat} {d : τ} (hk : k < l.length) (h : ∀ j, j < k → p (l.getD j d) = false) (hp : p (l.getD k d) = true) : ixF p l = k := by
  have hg : l.getD k d = l[k] := by simp [hk]
  have ha : l.any p = true := List.any_eq_true.2 ⟨l[k], List.getElem_mem _, by rw [← hg]; exact hp⟩
  rw [ixF, if_pos ha]
  congr 1
  rw [List.findIdx_eq hk]
  refine ⟨by rw [← hg]; exact hp, fun j hj => ?_⟩
  have := h j hj
  have hj' : j < l.length := by omega
  simpa [hj'] using this
theorem ixF_none {τ : Type} {p : τ → Bool} {l : List τ} {d : τ} (h : ∀ j, j < l.length → p (l.getD j d) = false) : ixF p l = -1 := by
  have ha : l.any p = false := by
    rw [List.any_eq_false]
    intro x hx
    obtain ⟨j, hj, rfl⟩ := List.mem_iff_getElem.1 hx
    have := h j hj
    simp [hj] at this
    simp [this]
  rw [ixF, ha]; rfl
theorem ixF_nonneg {τ : Type} (p : τ → Bool) (l : List τ) : decide (0 ≤ ixF p l) = l.any p := by
  unfold ixF
  cases h : l.any p with
  | true => simp
  | false => simp
theorem getD_mem {τ : Type} {l : List τ} {j : Nat} {d : τ} (h : j < l.length) : l.getD j d ∈ l := by simp [h]

def fill {τ : Type} (l : List τ) (z : τ) (k : Nat) : List τ := l.take k ++ List.replicate (l.length - k) z
@[simp] theorem fill_length {τ : Type} (l : List τ) (z : τ) (k : Nat) : (fill l z k).length = l.length := by
  simp [fill]; omega
theorem fill_zero {τ : Type} (l : List τ) (z : τ) : fill l z 0 = List.replicate l.length z := by simp [fill]
theorem fill_all {τ : Type} (l : List τ) (z : τ) {k : Nat} (h : l.length ≤ k) : fill l z k = l := by
  simp [fill, List.take_of_length_le h, Nat.sub_eq_zero_of_le h]
theorem fill_set {τ : Type} (l : List τ) (z d : τ) {k : Nat} (h : k < l.length) : (fill l z k).set k (l.getD k d) = fill l z (k + 1) := by
  have hg : l.getD k d = l[k] := by simp [h]
  rw [hg, fill, fill, List.set_append_right _ _ (by simp; omega)]
  have e : k - (l.take k).length = 0 := by simp; omega
  rw [e, show l.length - k = (l.length - (k + 1)) + 1 by omega, List.replicate_succ, List.set_cons_zero, List.take_succ_eq_append_getElem h, List.append_assoc]
  rfl

def bulkS (xs : List (List UInt8)) : Nat := xs.length + (xs.map List.length).sum
def sumTo (xs : List (List UInt8)) (k : Nat) : Nat := ((xs.take k).map List.length).sum
def szS (xs : List (List UInt8)) (left : Int) : Int := if (bulkS xs : Int) ≤ left then left - bulkS xs else -1
@[simp] theorem sumTo_zero (xs : List (List UInt8)) : sumTo xs 0 = 0 := by simp [sumTo]
theorem sumTo_succ {xs : List (List UInt8)} {k : Nat} (h : k < xs.length) : sumTo xs (k + 1) = sumTo xs k + (xs.getD k default).length := by
  rw [sumTo, sumTo, List.take_succ_eq_append_getElem h, List.map_append, List.sum_append_nat, List.map_cons, List.map_nil, List.sum_cons, List.sum_nil, Nat.add_zero, List.getD_eq_getElem?_getD, List.getElem?_eq_getElem h]; rfl
theorem sumTo_all {xs : List (List UInt8)} {k : Nat} (h : xs.length ≤ k) : sumTo xs k = (xs.map List.length).sum := by rw [sumTo, List.take_of_length_le h]
theorem sumTo_le (xs : List (List UInt8)) (k : Nat) : sumTo xs k ≤ (xs.map List.length).sum := by
  have : (xs.map List.length).sum = ((xs.take k).map List.length).sum + ((xs.drop k).map List.length).sum := by
    rw [← List.sum_append_nat, ← List.map_append, List.take_append_drop]
  rw [sumTo]; omega
theorem mem_sum {xs : List (List UInt8)} : ∀ {x : List UInt8}, x ∈ xs → x.length ≤ (xs.map List.length).sum := by
  induction xs with
  | nil => intro x h; cases h
  | cons y ys ih =>
    intro x h
    rcases List.mem_cons.1 h with rfl | h
    · simp
    · have := ih h; simp; omega
theorem szS_ok {xs : List (List UInt8)} {left : Int} (h : ¬ szS xs left < 0) : (bulkS xs : Int) ≤ left := by
  unfold szS at h
  split at h
  · assumption
  · omega
theorem bulk_len {xs : List (List UInt8)} {n : Nat} (h : bulkS xs ≤ n) : xs.length ≤ n := by unfold bulkS at h; omega
theorem bulk_mem {xs : List (List UInt8)} {n : Nat} (h : bulkS xs ≤ n) : ∀ x ∈ xs, x.length ≤ n := by
  intro x hx
  have := mem_sum hx
  unfold bulkS at h; omega

theorem eqL_len {τ : Type} [DecidableEq τ] {xs ys : List τ} (h : ¬ xs.length = ys.length) : false = decide (xs = ys) := by
  symm; rw [decide_eq_false_iff_not]; intro e; exact h (by rw [e])
theorem eqL_at {τ : Type} [DecidableEq τ] {xs ys : List τ} (d : τ) (j : Nat) (h : ¬ xs.getD j d = ys.getD j d) : false = decide (xs = ys) := by
  symm; rw [decide_eq_false_iff_not]; intro e; exact h (by rw [e])
theorem eqL_all {τ : Type} [DecidableEq τ] {xs ys : List τ} (d : τ) (hn : xs.length = ys.length) (h : ∀ j, j < xs.length → xs.getD j d = ys.getD j d) : true = decide (xs = ys) := by
  symm; rw [decide_eq_true_iff]
  apply List.ext_getElem hn
  intro j h1 h2
  have := h j h1
  simpa [h1, h2] using this

theorem sol {r : D} {ds : List D} (h1 : r.solid = true) (h2 : solids ds = true) : (r.solid && solids ds) = true := by rw [h1, h2]; rfl
theorem solid_row {τ : Type} {f : τ → D} {sz : Nat} (h : ∀ x, (f x).solid = true) (l : List τ) : (D.slice true sz (l.map f)).solid = true := by
  rw [D.solid]; exact solids_map h l

def cntB (n : Nat) (p : Nat → Bool) : Nat := (List.range n).countP p
def sumN (n : Nat) (f : Nat → Nat) : Nat := ((List.range n).map f).sum
@[simp] theorem cntB_zero (p : Nat → Bool) : cntB 0 p = 0 := rfl
theorem cntB_yes {n : Nat} {p : Nat → Bool} (h : p n = true) : cntB (n + 1) p = cntB n p + 1 := by simp [cntB, List.range_succ, h]
theorem cntB_no {n : Nat} {p : Nat → Bool} (h : p n = false) : cntB (n + 1) p = cntB n p := by simp [cntB, List.range_succ, h]
theorem cntB_le (n : Nat) (p : Nat → Bool) : cntB n p ≤ n := by
  have := List.countP_le_length (p := p) (l := List.range n)
  simpa [cntB] using this
@[simp] theorem sumN_zero (f : Nat → Nat) : sumN 0 f = 0 := rfl
theorem sumN_succ (n : Nat) (f : Nat → Nat) : sumN (n + 1) f = sumN n f + f n := by simp [sumN, List.range_succ]

theorem ext_indexByte {P : Program} {f : FuncId} {fn : Func} (hf : P.funcs[f]? = some fn) (hname : (fn.name == "runtime.NumGoroutine") = false) (hb : fn.body.isNone = true) (hn : Extern.findNext fn = none)
    (he : Extern.find fn = some Extern.BytealgIndexByte.indexByte) (s : List UInt8) (b : UInt8) : ExtP P f [.str s, .int .u8 (b.toNat : Int)] (.int .i64 (Lib.indexByte s b)) := by
  intro S w vs h
  rw [DRs] at h
  obtain ⟨v, vs1, F1, F2, rfl, _, h1, h⟩ := h
  rw [DRs] at h
  obtain ⟨v2, vs2, F3, F4, rfl, _, h2, h⟩ := h
  rw [DRs] at h
  have e1 : v = .string ⟨s.toArray⟩ := by rw [DR] at h1; exact h1.1
  have e2 : v2 = .int .u8 (b.toNat : Int) := by rw [DR] at h2; exact h2.1
  subst e1 e2
  obtain ⟨rfl, _⟩ := h
  refine ⟨.int .i64 (Lib.indexByte s b), ?_, by rw [DR]; exact ⟨rfl, rfl⟩⟩
  have := Lib.run_indexByteString (P := P) ⟨s.toArray⟩ (b.toNat : Int) w
  rw [run_callFunc_indexByte hf hname hb hn he]
  simp only [List.toArray] at this ⊢
  rw [this]
  simp [Result.andThen]

theorem ext_countString {P : Program} {f : FuncId} {fn : Func} (hf : P.funcs[f]? = some fn) (hname : (fn.name == "runtime.NumGoroutine") = false) (hb : fn.body.isNone = true) (hn : Extern.findNext fn = none)
    (he : Extern.find fn = some Extern.BytealgCount.count) (s : List UInt8) (b : UInt8) : ExtP P f [.str s, .int .u8 (b.toNat : Int)] (.int .i64 ((s.count b : Nat) : Int)) := by
  intro S w vs h
  rw [DRs] at h
  obtain ⟨v, vs1, F1, F2, rfl, _, h1, h⟩ := h
  rw [DRs] at h
  obtain ⟨v2, vs2, F3, F4, rfl, _, h2, h⟩ := h
  rw [DRs] at h
  have e1 : v = .string ⟨s.toArray⟩ := by rw [DR] at h1; exact h1.1
  have e2 : v2 = .int .u8 (b.toNat : Int) := by rw [DR] at h2; exact h2.1
  subst e1 e2
  obtain ⟨rfl, _⟩ := h
  refine ⟨.int .i64 ((s.count b : Nat) : Int), ?_, by rw [DR]; exact ⟨rfl, rfl⟩⟩
  have := Lib.run_countString (P := P) ⟨s.toArray⟩ (b.toNat : Int) w
  rw [run_callFunc_extern hf hname hb hn he]
  simp only [List.toArray] at this ⊢
  rw [this]
  simp [Result.andThen, Lib.countByte]

theorem bndN {ρ : Operand → V} {d n : Nat} (h : n = d) : bnd ρ none d n := h
theorem bndS {ρ : Operand → V} {y : Operand} {d n : Nat} {k : IntKind} {m : Int} (h : ρ y = .d (.int k m)) (hm : m = (n : Int)) : bnd ρ (some y) d n := ⟨k, m, h, hm⟩

end Go.AM
