/-
  The abstract machine, part C: the operations, as a relation between what the operands are and what is yielded; operations that turn nothing in memory, proved sound.
-/
import Derived.Test.YtlnimdlpggnjeaaGreatDoorAmB
namespace Go.AM

def constV0 : Value → V
  | .int k n => .d (.int k n)
  | .bool b => .d (.bool b)
  | .string s => .d (.str s.data.toList)
  | v => .c v
def constV : Value → V
  | .agg cs => .agg (cs.toList.map constV0)
  | v => constV0 v

def St.ev (α : St) : Operand → V
  | .tmp t => α.get t
  | .const v => constV v
  | .global g => .c (.pointer (some ⟨g, 0, none⟩))
  | .func f => .fn f []

theorem VR_const0 {S w β} (v : Value) : VR S w β (constV0 v) v := by
  cases v with
  | int => rw [constV0, VR, DR]; exact ⟨rfl, rfl⟩
  | bool => rw [constV0, VR, DR]; exact ⟨rfl, rfl⟩
  | string s => rw [constV0, VR, DR]; exact ⟨by simp, rfl⟩
  | _ => show VR S w β (.c _) _; rw [VR]

theorem VRs_const0 {S w β} : ∀ vs : List Value, VRs S w β (vs.map constV0) vs
  | [] => by rw [List.map_nil, VRs]
  | v :: vs => by rw [List.map_cons, VRs]; exact ⟨v, vs, rfl, VR_const0 v, VRs_const0 vs⟩

theorem VR_const {S w β} (v : Value) : VR S w β (constV v) v := by
  by_cases h : ∃ cs, v = .agg cs
  · obtain ⟨cs, rfl⟩ := h
    rw [constV, VR]; exact ⟨cs.toList, by simp, VRs_const0 _⟩
  · have : constV v = constV0 v := by cases v <;> first | rfl | exact absurd ⟨_, rfl⟩ h
    rw [this]; exact VR_const0 v

theorem Rel.ev {c α a w β φ} (h : Rel c α a w β φ) (x : Operand) : VR (Sof c α φ) w β (α.ev x) (a.eval x) := by
  cases x with
  | tmp t => exact h.slots t
  | const v => exact VR_const v
  | global g => rw [St.ev, VR]; rfl
  | func f => rw [St.ev, VR]; exact ⟨[], rfl, by rw [VRs]⟩

def intV : BinOp → IntKind → Int → Int → Option D
  | .add, k, a, b => some (.int k (k.wrap (a + b)))
  | .sub, k, a, b => some (.int k (k.wrap (a - b)))
  | .mul, k, a, b => some (.int k (k.wrap (a * b)))
  | .quo, k, a, b => if b = 0 then none else some (.int k (k.wrap (a.tdiv b)))
  | .rem, k, a, b => if b = 0 then none else some (.int k (a.tmod b))
  | .and, k, a, b => some (.int k (k.wrap (BitVec.ofInt k.bits a &&& BitVec.ofInt k.bits b).toNat))
  | .or, k, a, b => some (.int k (k.wrap (BitVec.ofInt k.bits a ||| BitVec.ofInt k.bits b).toNat))
  | .andNot, k, a, b => some (.int k (k.wrap (BitVec.ofInt k.bits a &&& ~~~ BitVec.ofInt k.bits b).toNat))
  | .eql, _, a, b => some (.bool (decide (a = b)))
  | .neq, _, a, b => some (.bool (!decide (a = b)))
  | .lss, _, a, b => some (.bool (decide (a < b)))
  | .leq, _, a, b => some (.bool (decide (a ≤ b)))
  | .gtr, _, a, b => some (.bool (decide (b < a)))
  | .geq, _, a, b => some (.bool (decide (b ≤ a)))
  | _, _, _, _ => none

def shiftV : BinOp → IntKind → Int → Int → Option D
  | .shl, k, x, y => if y < 0 then none else some (.int k (k.wrap (x * 2 ^ min y.toNat k.bits)))
  | .shr, k, x, y => if y < 0 then none else some (.int k (x.fdiv (2 ^ min y.toNat k.bits)))
  | _, _, _, _ => none

def strV : BinOp → List UInt8 → List UInt8 → Option D
  | .add, s, t => if s.length + t.length ≤ 9223372036854775807 then some (.str (s ++ t)) else none
  | .eql, s, t => some (.bool (decide (s = t)))
  | .neq, s, t => some (.bool (!decide (s = t)))
  | .lss, s, t => some (.bool (Op.bytesLess s t))
  | .leq, s, t => some (.bool (Op.bytesLess s t || decide (s = t)))
  | .gtr, s, t => some (.bool (!(Op.bytesLess s t || decide (s = t))))
  | .geq, s, t => some (.bool (!Op.bytesLess s t))
  | _, _, _ => none

def bnd (ρ : Operand → V) (x : Option Operand) (dflt n : Nat) : Prop :=
  match x with
  | none => n = dflt
  | some y => ∃ k m, ρ y = .d (.int k m) ∧ m = (n : Int)

def cellsD : D → List D
  | .agg cs => cs
  | d => [d]

def subD (e : D) (off n : Nat) (agg : Bool) : Option D :=
  if agg then (if off + n ≤ (cellsD e).length then some (.agg (((cellsD e).drop off).take n)) else none) else (cellsD e)[off]?

def subV (vs : List V) (off n : Nat) (agg : Bool) : Option V :=
  if agg then (if off + n ≤ vs.length then some (.agg ((vs.drop off).take n)) else none) else vs[off]?

def aggB : TypeDesc → Bool
  | .struct _ | .array _ _ => true
  | _ => false

def SizeIs (P : Program) (t : TypeId) (n : Nat) : Prop := (P.info? t).map (·.size) = some n
def AggIs (P : Program) (t : TypeId) (b : Bool) : Prop := (P.underlying t).map aggB = some b

section
variable {P : Program} (w : World)

theorem run_sizeOf {t n} (h : SizeIs P t n) : (sizeOf t).run P w = .ok n w := by
  unfold SizeIs at h
  cases hi : P.info? t with
  | none => simp [hi] at h
  | some i => simp [hi] at h; simp [sizeOf, typeInfo, hi, h]

theorem run_isAgg {t b} (h : AggIs P t b) : (isAgg t).run P w = .ok b w := by
  unfold AggIs at h
  cases hi : P.underlying t with
  | none => simp [hi] at h
  | some d =>
    simp [hi] at h
    cases d <;> simp [isAgg, run_underlying hi] <;> simpa [aggB] using h

theorem run_part_one {t cs off v} (h : AggIs P t false) (hv : (cs : Array Value)[off]? = some v) : (part t cs off).run P w = .ok v w := by
  simp [part, run_isAgg w h, hv]

theorem run_part_agg {t cs off n} (h : AggIs P t true) (hn : SizeIs P t n) : (part t cs off).run P w = .ok (.agg (cs.extract off (off + n))) w := by
  simp [part, run_isAgg w h, run_sizeOf w hn]

theorem run_binOp_int {op k a b r t} (h : intV op k a b = some r) : ∃ v, (binOp op t (.int k a) (.int k b)).run P w = .ok v w ∧ ∀ S, DR S w r v [] := by
  cases op <;> simp only [intV] at h <;> (try (cases h; done)) <;> (try split at h) <;> (try (cases h; done)) <;> cases h <;>
    refine ⟨_, by simp [binOp, Op.intArith, Op.intDiv, Op.intBits, Op.intCmp, *]; rfl, fun S => ?_⟩ <;> rw [DR] <;> refine ⟨?_, rfl⟩ <;> first | rfl | simp | (simp; rfl)

theorem run_binOp_shift {op k k' a b r t} (h : shiftV op k a b = some r) : ∃ v, (binOp op t (.int k a) (.int k' b)).run P w = .ok v w ∧ ∀ S, DR S w r v [] := by
  cases op <;> simp only [shiftV] at h <;> (try (cases h; done)) <;> split at h <;> (try (cases h; done)) <;> cases h <;>
    refine ⟨_, by simp [binOp, Op.shift, *]; rfl, fun S => ?_⟩ <;> rw [DR] <;> exact ⟨rfl, rfl⟩

theorem run_binOp_str {op s u r t} (h : strV op s u = some r) : ∃ v, (binOp op t (.string ⟨s.toArray⟩) (.string ⟨u.toArray⟩)).run P w = .ok v w ∧ ∀ S, DR S w r v [] := by
  have ts : ∀ l : List UInt8, (⟨l.toArray⟩ : ByteArray).toList = l := fun l => ByteArray.toList_mk l
  have be : ∀ a b : List UInt8, (a == b) = decide (a = b) := fun a b => by rw [Bool.eq_iff_iff]; simp
  cases op <;> simp only [strV] at h <;> (try (cases h; done))
  case add =>
    split at h <;> cases h
    rename_i hl
    have hr := run_string_add_sum (P := P) w ⟨s.toArray⟩ ⟨u.toArray⟩ (by simpa [ByteArray.size] using hl)
    refine ⟨_, by simp only [binOp]; exact hr, fun S => ?_⟩
    rw [DR]
    refine ⟨?_, rfl⟩
    congr 1
  all_goals
    cases h
    refine ⟨_, by simp [binOp, Op.stringOp, ts]; rfl, fun S => ?_⟩
    rw [DR]
    refine ⟨?_, rfl⟩
    simp [be]
end

end Go.AM
