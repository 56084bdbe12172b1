/-
  The contracts that the law FnExactNextStateFunction needs.
-/
import Derived.Test.YtnmlcebejnlikaaGreatZNextStateFunction2
import Derived.Test.YtnmlcebejnlikaaGreatSh
namespace Go.AM
open Go.Proofs
set_option linter.unusedVariables false
set_option linter.unusedSimpArgs false

theorem upTo_rise {α : Type} [Inhabited α] [DecidableEq α] {le : α → α → Bool} (h : Lin le) {zs : List α} (hz : zs.Pairwise fun a b => le a b = true) : ∀ m, m ≤ zs.length →
    Rise le (Lib.compactUpTo zs.toArray m) ∧ (∀ a, a ∈ Lib.compactUpTo zs.toArray m ↔ a ∈ zs.take m) ∧ ∀ a ∈ Lib.compactUpTo zs.toArray m, 0 < m ∧ le a (zs.getD (m - 1) default) = true
  | 0, _ => ⟨List.Pairwise.nil, fun a => by simp [Lib.compactUpTo], fun a ha => by simp [Lib.compactUpTo] at ha⟩
  | m + 1, hm => by
    obtain ⟨h1, h2, h3⟩ := upTo_rise h hz m (by omega)
    have hg : ∀ j, j < zs.length → zs.toArray[j]! = zs.getD j default := by intro j hj; simp [hj]
    have hml : zs.getD m default = zs[m] := by simp [show m < zs.length by omega]
    have hrefl : ∀ a : α, le a a = true := fun a => by have := h.total a a; rwa [Bool.or_self] at this
    have hstep : 0 < m → le (zs.getD (m - 1) default) (zs.getD m default) = true := by
      intro h0
      have := List.pairwise_iff_getElem.1 hz (m - 1) m (by omega) (by omega) (by omega)
      rw [hml, show zs.getD (m - 1) default = zs[m - 1] by simp [show m - 1 < zs.length by omega]]; exact this
    rw [Lib.compactUpTo_succ, List.take_succ_eq_append_getElem (by omega), ← hml]
    cases hk : Lib.keeps zs.toArray m with
    | false =>
      have h4 : ¬ (m = 0 ∨ zs.toArray[m]! ≠ zs.toArray[m - 1]!) := by
        unfold Lib.keeps at hk
        exact of_decide_eq_false hk
      have h0 : 0 < m := Nat.pos_of_ne_zero fun e => h4 (.inl e)
      have h5 : zs.getD m default = zs.getD (m - 1) default := by
        rw [← hg m (by omega), ← hg (m - 1) (by omega)]
        exact Classical.byContradiction fun e => h4 (.inr e)
      rw [if_neg (by decide), List.append_nil]
      refine ⟨h1, fun a => ?_, fun a ha => ⟨by omega, ?_⟩⟩
      · rw [h2, List.mem_append, List.mem_singleton]
        refine ⟨.inl, fun hh => hh.elim id fun e => ?_⟩
        rw [e, h5, show zs.getD (m - 1) default = zs[m - 1] by simp [show m - 1 < zs.length by omega]]
        exact List.mem_take_iff_getElem.2 ⟨m - 1, by omega, rfl⟩
      · show le a (zs.getD m default) = true
        rw [h5]; exact (h3 a ha).2
    | true =>
      have h4 : m = 0 ∨ zs.toArray[m]! ≠ zs.toArray[m - 1]! := by
        unfold Lib.keeps at hk
        exact of_decide_eq_true hk
      rw [if_pos rfl, hg m (by omega)]
      refine ⟨?_, fun a => ?_, fun a ha => ⟨by omega, ?_⟩⟩
      · unfold Rise at h1 ⊢
        rw [List.pairwise_append]
        refine ⟨h1, List.pairwise_singleton _ _, fun a ha b hb => ?_⟩
        rw [List.mem_singleton] at hb
        subst hb
        obtain ⟨h0, h5⟩ := h3 a ha
        refine ⟨h.trans _ _ _ h5 (hstep h0), fun e => ?_⟩
        rcases h4 with h4 | h4
        · omega
        · rw [hg m (by omega), hg (m - 1) (by omega)] at h4
          subst e
          exact h4 (h.anti _ _ h5 (hstep h0))
      · rw [List.mem_append, List.mem_append, h2]
      · show le a (zs.getD m default) = true
        rcases List.mem_append.1 ha with ha | ha
        · exact h.trans _ _ _ (h3 a ha).2 (hstep (h3 a ha).1)
        · rw [List.mem_singleton] at ha; subst ha; exact hrefl _

def tid {α : Type} [Inhabited α] [DecidableEq α] (le : α → α → Bool) (l : List α) : List α := Lib.compact (l.mergeSort le)

theorem tid_rise {α : Type} [Inhabited α] [DecidableEq α] {le : α → α → Bool} (h : Lin le) (l : List α) : Rise le (tid le l) :=
 (upTo_rise h (List.pairwise_mergeSort (fun a b c h1 h2 => h.trans a b c h1 h2) (fun a b => h.total a b) l) _ (Nat.le_refl _)).1

theorem tid_mem {α : Type} [Inhabited α] [DecidableEq α] {le : α → α → Bool} (h : Lin le) {l : List α} {a : α} : a ∈ tid le l ↔ a ∈ l := by
 have := (upTo_rise h (List.pairwise_mergeSort (fun a b c h1 h2 => h.trans a b c h1 h2) (fun a b => h.total a b) l) _ (Nat.le_refl _)).2.1 a
 rw [List.take_length, List.mem_mergeSort] at this
 exact this

theorem tid_nil {α : Type} [Inhabited α] [DecidableEq α] (le : α → α → Bool) : tid le ([] : List α) = [] := by
 rw [tid, List.mergeSort_nil]; rfl

theorem upTo_len {α : Type} [Inhabited α] [DecidableEq α] (d : Array α) (m : Nat) : (Lib.compactUpTo d m).length ≤ m := by
 unfold Lib.compactUpTo
 rw [List.length_map]
 have := List.length_filter_le (Lib.keeps d) (List.range m)
 rwa [List.length_range] at this

theorem compact_len {α : Type} [Inhabited α] [DecidableEq α] (l : List α) : (Lib.compact l).length ≤ l.length := upTo_len _ _

theorem tid_len {α : Type} [Inhabited α] [DecidableEq α] (le : α → α → Bool) (l : List α) : (tid le l).length ≤ l.length := by
 have := compact_len (l.mergeSort le)
 rwa [List.length_mergeSort] at this

theorem bl_irr : ∀ x : List UInt8, Op.bytesLess x x = false
 | [] => rfl
 | a :: x => by
  rw [Op.bytesLess, bl_irr x, Bool.and_false, Bool.or_false]
  simp

theorem u8_lt {a b : UInt8} : a < b ↔ a.toNat < b.toNat := UInt8.lt_iff_toNat_lt

theorem bl_cons {a b : UInt8} {x y : List UInt8} : Op.bytesLess (a :: x) (b :: y) = true ↔ a.toNat < b.toNat ∨ (a.toNat = b.toNat ∧ Op.bytesLess x y = true) := by
 rw [Op.bytesLess, Bool.or_eq_true, decide_eq_true_iff, Bool.and_eq_true, beq_iff_eq, u8_lt, UInt8.toNat_inj]

theorem bl_trans : ∀ {x y z : List UInt8}, Op.bytesLess x y = true → Op.bytesLess y z = true → Op.bytesLess x z = true
  | [], [], _, h, _ => by simp [Op.bytesLess] at h
  | [], b :: y, [], _, h => by simp [Op.bytesLess] at h
  | [], b :: y, c :: z, _, _ => rfl
  | a :: x, [], _, h, _ => by simp [Op.bytesLess] at h
  | a :: x, b :: y, [], _, h => by simp [Op.bytesLess] at h
  | a :: x, b :: y, c :: z, h1, h2 => by
    rw [bl_cons] at h1 h2 ⊢
    rcases h1 with h1 | ⟨h1, h3⟩ <;> rcases h2 with h2 | ⟨h2, h4⟩
    · exact .inl (by omega)
    · exact .inl (by omega)
    · exact .inl (by omega)
    · exact .inr ⟨by omega, bl_trans h3 h4⟩

theorem bl_tri : ∀ {x y : List UInt8}, ¬ Op.bytesLess x y = true → ¬ Op.bytesLess y x = true → x = y
 | [], [], _, _ => rfl
 | [], b :: y, h, _ => absurd rfl h
 | a :: x, [], _, h => absurd rfl h
 | a :: x, b :: y, h1, h2 => by
  rw [bl_cons] at h1 h2
  have e : a = b := UInt8.toNat_inj.1 (by
   have h3 : ¬ a.toNat < b.toNat := fun h => h1 (.inl h)
   have h4 : ¬ b.toNat < a.toNat := fun h => h2 (.inl h)
   omega)
  subst e
  rw [bl_tri (fun h => h1 (.inr ⟨rfl, h⟩)) (fun h => h2 (.inr ⟨rfl, h⟩))]

theorem bl_lt : ∀ x y : List UInt8, (Op.bytesLess x y = true) ↔ x < y
 | [], [] => by simp [Op.bytesLess]
 | _ :: _, [] => by simp [Op.bytesLess]
 | [], _ :: _ => by simp [Op.bytesLess]
 | a :: x, b :: y => by
  rw [bl_cons, List.cons_lt_cons_iff, u8_lt, bl_lt x y, UInt8.toNat_inj]

def leS (x y : List UInt8) : Bool := decide (x ≤ y)

theorem leS_bl (x y : List UInt8) : leS x y = !Op.bytesLess y x := by
 unfold leS
 rw [Bool.eq_iff_iff, decide_eq_true_iff, Bool.not_eq_true', ← List.not_lt, ← bl_lt]
 simp

theorem linS : Lin leS := by
  refine ⟨fun a b c h1 h2 => ?_, fun a b => ?_, fun a b h1 h2 => ?_⟩
  · rw [leS_bl, Bool.not_eq_true'] at h1 h2 ⊢
    rw [Bool.eq_false_iff] at *
    intro hc
    by_cases hab : a = b
    · subst hab; exact h2 hc
    · by_cases h3 : Op.bytesLess a b = true
      · exact h2 (bl_trans hc h3)
      · exact hab (bl_tri h3 h1)
  · rw [leS_bl, leS_bl]
    cases hab : Op.bytesLess a b with
    | false => simp
    | true =>
      cases hba : Op.bytesLess b a with
      | false => rfl
      | true => have := bl_trans hab hba; rw [bl_irr] at this; cases this
  · rw [leS_bl, Bool.not_eq_true', Bool.eq_false_iff] at h1 h2
    exact bl_tri h2 h1

def tidS (l : List (List UInt8)) : List (List UInt8) := tid leS l

def put14 (l : List (List UInt8)) (x : List UInt8) : List (List UInt8) := l.takeWhile (fun b => Op.bytesLess b x) ++ x :: l.dropWhile (fun b => Op.bytesLess b x)

def put15 (l : List (List UInt8)) (x : List UInt8) : List (List UInt8) := if hasS l x then l else put14 l x

theorem put14_mem {l : List (List UInt8)} {x a : List UInt8} : a ∈ put14 l x ↔ a ∈ l ∨ a = x := by
  unfold put14
  rw [List.mem_append, List.mem_cons]
  have e : a ∈ l ↔ a ∈ l.takeWhile (fun b => Op.bytesLess b x) ∨ a ∈ l.dropWhile (fun b => Op.bytesLess b x) := by
    rw [← List.mem_append, List.takeWhile_append_dropWhile]
  rw [e]
  constructor
  · rintro (h1 | h1 | h1)
    · exact .inl (.inl h1)
    · exact .inr h1
    · exact .inl (.inr h1)
  · rintro ((h1 | h1) | h1)
    · exact .inl h1
    · exact .inr (.inr h1)
    · exact .inr (.inl h1)

theorem put14_len (l : List (List UInt8)) (x : List UInt8) : (put14 l x).length = l.length + 1 := by
 have : (l.takeWhile (fun b => Op.bytesLess b x) ++ l.dropWhile (fun b => Op.bytesLess b x)).length = l.length := by rw [List.takeWhile_append_dropWhile]
 rw [List.length_append] at this
 unfold put14
 rw [List.length_append, List.length_cons]; omega

theorem hasS_mem {l : List (List UInt8)} {x : List UInt8} : hasS l x = true ↔ x ∈ l := by
  unfold hasS
  rw [List.any_eq_true]
  constructor
  · rintro ⟨a, ha, h⟩
    have := of_decide_eq_true h
    subst this; exact ha
  · intro h
    exact ⟨x, h, decide_eq_true rfl⟩

theorem put15_mem {l : List (List UInt8)} {x a : List UInt8} : a ∈ put15 l x ↔ a ∈ l ∨ a = x := by
  unfold put15
  split
  · rename_i h
    constructor
    · exact .inl
    · rintro (h1 | rfl)
      · exact h1
      · exact hasS_mem.1 h
  · exact put14_mem

theorem dropS_rise {x : List UInt8} : ∀ {l : List (List UInt8)}, Rise leS l → ¬ x ∈ l → ∀ a ∈ l.dropWhile (fun b => Op.bytesLess b x), leS x a = true ∧ x ≠ a
  | [], _, _, a, ha => by simp at ha
  | b :: l, hl, hx, a, ha => by
    unfold Rise at hl
    rw [List.pairwise_cons] at hl
    rw [List.dropWhile_cons] at ha
    split at ha
    · exact dropS_rise hl.2 (fun h => hx (List.mem_cons_of_mem _ h)) a ha
    · rename_i hb
      have h1 : leS x b = true := by rw [leS_bl]; simpa using hb
      rcases List.mem_cons.1 ha with rfl | ha
      · exact ⟨h1, fun e => hx (e ▸ List.mem_cons_self)⟩
      · exact ⟨linS.trans _ _ _ h1 (hl.1 a ha).1, fun e => hx (e ▸ List.mem_cons_of_mem _ ha)⟩

theorem whileS_lt {x : List UInt8} : ∀ {l : List (List UInt8)} {a : List UInt8}, a ∈ l.takeWhile (fun b => Op.bytesLess b x) → Op.bytesLess a x = true
  | [], a, h => by simp at h
  | b :: l, a, h => by
    rw [List.takeWhile_cons] at h
    split at h
    · rename_i hb
      rcases List.mem_cons.1 h with rfl | h
      · exact hb
      · exact whileS_lt h
    · simp at h

theorem bl_le {a b : List UInt8} (h : Op.bytesLess a b = true) : leS a b = true ∧ a ≠ b := by
  refine ⟨?_, fun e => ?_⟩
  · rw [leS_bl]
    cases hba : Op.bytesLess b a with
    | false => rfl
    | true => have := bl_trans h hba; rw [bl_irr] at this; cases this
  · subst e; rw [bl_irr] at h; cases h

theorem put15_rise {l : List (List UInt8)} {x : List UInt8} (hl : Rise leS l) : Rise leS (put15 l x) := by
  unfold put15
  split
  · exact hl
  · rename_i h
    have hn : ¬ x ∈ l := fun hm => h (hasS_mem.2 hm)
    have hd := dropS_rise hl hn
    unfold Rise at hl ⊢
    unfold put14
    rw [List.pairwise_append, List.pairwise_cons]
    refine ⟨hl.sublist (List.takeWhile_sublist _), ⟨hd, hl.sublist (List.dropWhile_sublist _)⟩, fun a ha b hb => ?_⟩
    have h3 := bl_le (whileS_lt ha)
    rcases List.mem_cons.1 hb with rfl | hb
    · exact h3
    · have h4 := hd b hb
      refine ⟨linS.trans _ _ _ h3.1 h4.1, fun e => ?_⟩
      subst e
      exact h3.2 (linS.anti _ _ h3.1 h4.1)

theorem put15_tid (l : List (List UInt8)) (x : List UInt8) : put15 (tidS l) x = tidS (l ++ [x]) :=
 rise_ext linS (put15_rise (tid_rise linS l)) (tid_rise linS _) fun a => by
  rw [put15_mem, tidS, tid_mem linS, tidS, tid_mem linS, List.mem_append, List.mem_singleton]

theorem sp_Sort_str (xs : List (List UInt8)) (hn : xs.length ≤ 1048576) : Sp Tryz.prog 124 [.slice true 1 (xs.map D.str)] [.slice true 1 ((xs.mergeSort leS).map D.str)] (.tup []) :=
 sp_turnRow encStrD (srt := fun l => l.mergeSort leS) (fun l => List.length_mergeSort l) List.mergeSort_nil Tryz.slices_Sort_string_none Tryz.slices_Sort_string xs hn

theorem sp_Compact_str (xs : List (List UInt8)) (hn : xs.length ≤ 1048576) : Sp Tryz.prog 209 [.slice true 1 (xs.map D.str)] [.any] (.slice true 1 ((Lib.compact xs).map D.str)) := by
 have h := sp_cutRow (P := Tryz.prog) (fn := 209) encStrD (more := []) (mvs := []) (fun S w vs F hd => by rw [DRs] at hd; exact hd) (fun S w => by rw [List.map_nil, DRs]; exact ⟨rfl, rfl⟩) xs (Lib.compact xs ++ List.replicate (xs.length - (Lib.compact xs).length) []) (Lib.compact xs).length
  (by have := compact_len xs; rw [List.length_append, List.length_replicate]; omega) (by rw [List.length_append]; omega) (fun _ p cap w => Tryz.slices_Compact_string_empty p cap w) (fun blk cap w hH hc hm => Tryz.slices_Compact_string blk 0 cap xs w hH (by omega) hc)
 rw [List.take_left] at h
 exact h

theorem en206 : Enters Tryz.prog 206 := ⟨_, Tryz.func206, by kernel_rfl, rfl⟩

theorem en93 : Enters Tryz.prog 93 := ⟨_, Tryz.func93, by kernel_rfl, rfl⟩

theorem en141 : Enters Tryz.prog 141 := ⟨_, Tryz.func141, by kernel_rfl, rfl⟩

theorem en147 : Enters Tryz.prog 147 := ⟨_, Tryz.func147, by kernel_rfl, rfl⟩

theorem zr29 : (Tryz.prog.info? 29).bind (·.zero) = some (.agg #[.slice none 0 0, .slice none 0 0]) := by kernel_rfl

theorem zer29 : ∃ i z, Tryz.prog.info? 29 = some i ∧ i.zero = some z ∧ z.cells = List.toArray [.slice none 0 0, .slice none 0 0] := zero_mk zr29 rfl

theorem stru29 : StructIs Tryz.prog 29 [.slice none 0 0, .slice none 0 0] [(0, 1), (1, 1)] := structIs_mk (by kernel_rfl) Tryz.underlying29 (by kernel_rfl)

theorem sz29 : SizeIs Tryz.prog 29 2 := by unfold SizeIs; kernel_rfl

theorem en152 : Enters Tryz.prog 152 := ⟨_, Tryz.func152, by kernel_rfl, rfl⟩

theorem ag29 : AggIs Tryz.prog 29 true := by unfold AggIs; kernel_rfl

theorem en139 : Enters Tryz.prog 139 := ⟨_, Tryz.func139, by kernel_rfl, rfl⟩

theorem en146 : Enters Tryz.prog 146 := ⟨_, Tryz.func146, by kernel_rfl, rfl⟩

theorem en148 : Enters Tryz.prog 148 := ⟨_, Tryz.func148, by kernel_rfl, rfl⟩

theorem en143 : Enters Tryz.prog 143 := ⟨_, Tryz.func143, by kernel_rfl, rfl⟩

theorem en183 : Enters Tryz.prog 183 := ⟨_, Tryz.func183, by kernel_rfl, rfl⟩

theorem en250 : Enters Tryz.prog 250 := ⟨_, Tryz.func250, by kernel_rfl, rfl⟩

theorem en158 : Enters Tryz.prog 158 := ⟨_, Tryz.func158, by kernel_rfl, rfl⟩

theorem en204 : Enters Tryz.prog 204 := ⟨_, Tryz.func204, by kernel_rfl, rfl⟩

theorem en134 : Enters Tryz.prog 134 := ⟨_, Tryz.func134, by kernel_rfl, rfl⟩

theorem en135 : Enters Tryz.prog 135 := ⟨_, Tryz.func135, by kernel_rfl, rfl⟩

theorem en69 : Enters Tryz.prog 69 := ⟨_, Tryz.func69, by kernel_rfl, rfl⟩

theorem en31 : Enters Tryz.prog 31 := ⟨_, Tryz.func31, by kernel_rfl, rfl⟩

theorem ag26 : AggIs Tryz.prog 26 true := by unfold AggIs; kernel_rfl

theorem sz26 : SizeIs Tryz.prog 26 3 := by unfold SizeIs; kernel_rfl

theorem en16 : Enters Tryz.prog 16 := ⟨_, Tryz.func16, by kernel_rfl, rfl⟩

theorem en18 : Enters Tryz.prog 18 := ⟨_, Tryz.func18, by kernel_rfl, rfl⟩

theorem en21 : Enters Tryz.prog 21 := ⟨_, Tryz.func21, by kernel_rfl, rfl⟩

theorem en22 : Enters Tryz.prog 22 := ⟨_, Tryz.func22, by kernel_rfl, rfl⟩

def bitQ (x : Sgr) (sig : Int) (j : Nat) : Bool := decide ((x.codes.getD j default).getD sig.toNat 0 = 49)

def wayN (w : List UInt8) : Nat := if w = [117, 112] then 1 else if w = [100, 111, 119, 110] then 2 else 0

def wayOn (w : Nat) (b e : Bool) : Bool := if w = 1 then e && !b else if w = 2 then e && b else !decide (e = b)

def wayOff (w : Nat) (b e : Bool) : Bool := if w = 1 then decide (e = b) else if w = 2 then !decide (e = b) else decide (e = b)

def onQ (x : Sgr) (sig : Int) (w : Nat) (j : Nat) : Bool := wayOn w (bitQ x sig j) (excB x (j : Int) sig)

def offQ (x : Sgr) (sig : Int) (w : Nat) (j : Nat) : Bool := wayOff w (bitQ x sig j) (excB x (j : Int) sig)

def selC (x : Sgr) (Q : Nat → Bool) (k : Nat) : List (List UInt8) := selTo k Q fun j => x.codes.getD j default

def osTo (x : Sgr) (Q : Nat → Bool) (k : Nat) : List (List UInt8) := tidS (selC x Q k)

def osL (x : Sgr) (Q : Nat → Bool) : List (List UInt8) := osTo x Q x.codes.length

theorem selC_le (x : Sgr) (Q : Nat → Bool) (k : Nat) : (selC x Q k).length ≤ k := selTo_le _ _ _

theorem osTo_le (x : Sgr) (Q : Nat → Bool) (k : Nat) : (osTo x Q k).length ≤ k := Nat.le_trans (tid_len leS _) (selC_le x Q k)

theorem selC_in {x : Sgr} {Q : Nat → Bool} {k : Nat} (hk : k ≤ x.codes.length) : ∀ u ∈ selC x Q k, u ∈ x.codes := by
 intro u hu
 obtain ⟨j, hj, rfl⟩ := List.mem_map.1 hu
 have := List.mem_range.1 (List.mem_filter.1 hj).1
 exact getD_mem (by omega)

theorem osTo_in {x : Sgr} {Q : Nat → Bool} {k : Nat} (hk : k ≤ x.codes.length) : ∀ u ∈ osTo x Q k, u ∈ x.codes := fun u hu => selC_in hk u ((tid_mem linS).1 hu)

theorem osTo_zero (x : Sgr) (Q : Nat → Bool) : osTo x Q 0 = [] := tid_nil leS

theorem osTo_yes {x : Sgr} {Q : Nat → Bool} {k : Nat} (h : Q k = true) : put15 (osTo x Q k) (x.codes.getD k default) = osTo x Q (k + 1) := by
 unfold osTo selC
 rw [put15_tid, selTo_yes (f := fun j => x.codes.getD j default) h]

theorem osTo_no {x : Sgr} {Q : Nat → Bool} {k : Nat} (h : Q k = false) : osTo x Q k = osTo x Q (k + 1) := by
 unfold osTo selC
 rw [selTo_no (f := fun j => x.codes.getD j default) h]

theorem put14_new {l : List (List UInt8)} {u : List UInt8} {k : Nat} (hk : k ≤ l.length) (h1 : ∀ j, j < k → Op.bytesLess (l.getD j default) u = true) (h2 : k < l.length → Op.bytesLess (l.getD k default) u = false) : l.take k ++ [u] ++ l.drop k = put14 l u := by
 have key : ∀ (l : List (List UInt8)) (k : Nat), k ≤ l.length → (∀ j, j < k → Op.bytesLess (l.getD j default) u = true) → (k < l.length → Op.bytesLess (l.getD k default) u = false) → l.takeWhile (fun b => Op.bytesLess b u) = l.take k ∧ l.dropWhile (fun b => Op.bytesLess b u) = l.drop k := by
  intro l
  induction l with
  | nil => intro k _ _ _; simp
  | cons b l ih =>
   intro k hk h1 h2
   cases k with
   | zero =>
    have h3 := h2 (by simp)
    have h4 : Op.bytesLess b u = false := by simpa using h3
    rw [List.takeWhile_cons, List.dropWhile_cons]
    simp [h4]
   | succ k =>
    have h3 : Op.bytesLess b u = true := by simpa using h1 0 (by omega)
    obtain ⟨e1, e2⟩ := ih k (by simpa using hk) (fun j hj => by simpa using h1 (j + 1) (by omega)) (fun hl => by simpa using h2 (by simpa using hl))
    rw [List.takeWhile_cons, List.dropWhile_cons]
    simp [h3, e1, e2]
 obtain ⟨e1, e2⟩ := key l k hk h1 h2
 unfold put14
 rw [e1, e2]
 simp

def outSig (x : Sgr) (sig : Int) : Bool := hasSigB x sig && !decide ((x.sigs.getD sig.toNat default).kind = 1)

theorem outSig_has {x : Sgr} {sig : Int} (h : outSig x sig = true) : sgB x = true ∧ (0 ≤ sig ∧ sig.toNat < x.sigs.length) := by
 unfold outSig at h
 exact has_sig (Bool.and_eq_true_iff.1 h).1

theorem sig_both {x : Sgr} {sig : Int} (h : sgB x = true) (h2 : withinB sig 0 ((x.sigs.length : Int) - 1) = true) : hasSigB x sig = true := by rw [hasSigB, h, h2]; rfl

def setsOk (x : Sgr) (p q : Nat → Bool) : Bool := onoffB (x.sigs.length : Int) (osL x p) (osL x q)

def setsOn (x : Sgr) (p q : Nat → Bool) : List (List UInt8) := if setsOk x p q then osL x p else []

def setsOff (x : Sgr) (p q : Nat → Bool) : List (List UInt8) := if setsOk x p q then osL x q else []

def osOk (x : Sgr) (sig : Int) (w : Nat) : Bool := outSig x sig && setsOk x (onQ x sig w) (offQ x sig w)

def osOn (x : Sgr) (sig : Int) (w : Nat) : List (List UInt8) := if outSig x sig then setsOn x (onQ x sig w) (offQ x sig w) else []

def osOff (x : Sgr) (sig : Int) (w : Nat) : List (List UInt8) := if outSig x sig then setsOff x (onQ x sig w) (offQ x sig w) else []

theorem setsOn_le (x : Sgr) (p q : Nat → Bool) : (setsOn x p q).length ≤ x.codes.length := by
  unfold setsOn; split
  · exact osTo_le _ _ _
  · exact Nat.zero_le _

theorem setsOff_le (x : Sgr) (p q : Nat → Bool) : (setsOff x p q).length ≤ x.codes.length := by
  unfold setsOff; split
  · exact osTo_le _ _ _
  · exact Nat.zero_le _

theorem osOn_le (x : Sgr) (sig : Int) (w : Nat) : (osOn x sig w).length ≤ x.codes.length := by
  unfold osOn; split
  · exact setsOn_le _ _ _
  · exact Nat.zero_le _

theorem osOff_le (x : Sgr) (sig : Int) (w : Nat) : (osOff x sig w).length ≤ x.codes.length := by
  unfold osOff; split
  · exact setsOff_le _ _ _
  · exact Nat.zero_le _

theorem onQ_next (x : Sgr) (sig : Int) (m : Nat) : (!decide (bitQ x sig m = excB x (m : Int) sig)) = onQ x sig 0 m := by
  unfold onQ wayOn
  rw [if_neg (by decide), if_neg (by decide)]
  cases bitQ x sig m <;> cases excB x (m : Int) sig <;> rfl

theorem selC_zero (x : Sgr) (Q : Nat → Bool) : selC x Q 0 = [] := by simp [selC, selTo]

theorem selC_yes {x : Sgr} {Q : Nat → Bool} {k : Nat} (h : Q k = true) : selC x Q k ++ [x.codes.getD k default] = selC x Q (k + 1) := selTo_yes (f := fun j => x.codes.getD j default) h

theorem selC_no {x : Sgr} {Q : Nat → Bool} {k : Nat} (h : Q k = false) : selC x Q k = selC x Q (k + 1) := selTo_no (f := fun j => x.codes.getD j default) h

theorem sets_is {x : Sgr} {p q : Nat → Bool} {k : Nat} {b : Bool} (hk : x.codes.length = k) (h : onoffB (x.sigs.length : Int) (Lib.compact ((selC x p k).mergeSort leS)) (Lib.compact ((selC x q k).mergeSort leS)) = b) : setsOk x p q = b := by subst hk; exact h

theorem setsOn_yes {x : Sgr} {p q : Nat → Bool} {k : Nat} (hk : x.codes.length = k) (h : onoffB (x.sigs.length : Int) (Lib.compact ((selC x p k).mergeSort leS)) (Lib.compact ((selC x q k).mergeSort leS)) = true) : setsOn x p q = Lib.compact ((selC x p k).mergeSort leS) := by
 rw [setsOn, sets_is hk h, if_pos rfl]; subst hk; rfl

theorem setsOff_yes {x : Sgr} {p q : Nat → Bool} {k : Nat} (hk : x.codes.length = k) (h : onoffB (x.sigs.length : Int) (Lib.compact ((selC x p k).mergeSort leS)) (Lib.compact ((selC x q k).mergeSort leS)) = true) : setsOff x p q = Lib.compact ((selC x q k).mergeSort leS) := by
 rw [setsOff, sets_is hk h, if_pos rfl]; subst hk; rfl

theorem setsOn_no {x : Sgr} {p q : Nat → Bool} (h : setsOk x p q = false) : setsOn x p q = [] := by rw [setsOn, h]; rfl

theorem setsOff_no {x : Sgr} {p q : Nat → Bool} (h : setsOk x p q = false) : setsOff x p q = [] := by rw [setsOff, h]; rfl

theorem sp_impl_isOutput (x : Sgr) (sig : Int) (hb : x.bulk ≤ 1048576) : Sp Tryz.prog 139 [(.agg [(.slice false 2 (x.sigs.map Sgn.d)), (.slice false 1 (x.codes.map D.str)), (.slice false 4 (x.arcs.map Arc.d))]), (.int .i64 sig)] [.any, .any] (.bool (outSig x sig)) := by
 refine Sp_intro (lend := true) Tryz.func139 rfl rfl rfl (fun _ => rfl) (fun c hc hX => ?_)
 obtain ⟨hp0, hp1, hp2⟩ := Sgr.parts hb
 have hn0 := bulkF_len hp0
 have hn1 := bulk_len hp1
 have hx1 := bulk_mem hp1
 have hn2 := bulkF_len hp2
 refine T_seq (T_region hc (Ch.s (.ptr 2000 0) (.box 2000 _ _ rfl (.aggD _)) (Ch.s (.d (.bool false)) pa (Ch.nil (T_seq (T_region hc (Ch.s (.agg (vX x)) (.pure (.loadPtrA _ _ rfl ag35 sz35 rfl rfl (lb rfl) rfl)) ?_)))))))
 refine Ch.s (.d (.int .i64 sig)) pm (Ch.s (.d (.bool (hasSigB x sig))) (.call 7000 206 _ _ _ en206 rfl (.inl rfl) (.cons lX (.cons (.d _) .nil)) rfl rfl (sp_impl_hasSignal x sig a31) (.skip _ _ (.skip _ _ .nil)) rfl) (Ch.s (.d (.bool (hasSigB x sig))) pm ?_))
 cases h1 : (hasSigB x sig) with
 | true =>
  try have hsg := has_sig h1
  refine Ch.s (.ptr 2000 0) (.pure (.fldPtr _ _ _ rfl fld35_0 rfl)) (Ch.s (.d (.slice false 2 (x.sigs.map Sgn.d))) (.pure (.loadPtr1 _ _ rfl ag32 rfl rfl rfl)) (Ch.s (.d (.int .i64 sig)) pm (Ch.s (.d (.ref (.agg [(.str ((x.sigs.getD ((sig).toNat) default).name)), (.int .i64 ((x.sigs.getD ((sig).toNat) default).kind))]))) (.pure (.idx _ _ _ 154 ((sig).toNat) rfl Tryz.underlying32 sz154 rfl rfl (by omega) get_mapA)) (Ch.s (.d (.ref (.int .i64 ((x.sigs.getD ((sig).toNat) default).kind)))) (.pure (.fldRef _ _ _ rfl fld154_1 rfl rfl rfl)) (Ch.s (.d (.int .i64 ((x.sigs.getD ((sig).toNat) default).kind))) (.pure (.loadRef1 _ _ rfl ag3 rfl rfl)) (Ch.s (.d (.bool (!(decide (((x.sigs.getD ((sig).toNat) default).kind) = 1))))) (iX rfl rfl rfl) (Ch.s (.d (.bool (!(decide (((x.sigs.getD ((sig).toNat) default).kind) = 1))))) (.pure (.pickT _ _ _ rfl rfl rfl)) ?_)))))))
  refine Ch.s (.d (.bool (!(decide (((x.sigs.getD ((sig).toNat) default).kind) = 1))))) pa (Ch.nil (T_ret ?_))
  exact endR [(.d (.bool (!(decide (((x.sigs.getD ((sig).toNat) default).kind) = 1)))))] [] [] (.cons (.tmp 4 rfl) .nil) (.cons (.any _) (.cons (.any _) .nil)) (Exp.of (congrArg D.bool a36) (.d _)) rfl rfl
 | false =>
  try have hsg := has_sig h1
  refine Ch.skip rfl rfl (Ch.skip rfl rfl (Ch.skip rfl rfl (Ch.skip rfl rfl (Ch.skip rfl rfl (Ch.skip rfl rfl (Ch.skip rfl rfl (Ch.s (.d (.bool false)) (.pure (.pickF _ _ _ rfl rfl rfl)) ?_)))))))
  refine Ch.s (.d (.bool false)) pa (Ch.nil (T_ret ?_))
  exact endR [(.d (.bool false))] [] [] (.cons (.tmp 4 rfl) .nil) (.cons (.any _) (.cons (.any _) .nil)) (Exp.of (congrArg D.bool a36) (.d _)) rfl rfl

theorem sp_spec_l15Asked (x : Sgr) (sig : Int) (hb : x.bulk ≤ 1048576) : Sp Tryz.prog 134 [(.agg [(.slice false 2 (x.sigs.map Sgn.d)), (.slice false 1 (x.codes.map D.str)), (.slice false 4 (x.arcs.map Arc.d))]), (.int .i64 sig)] [.any, .any] (.bool (outSig x sig)) := by
 refine Sp_intro (lend := true) Tryz.func134 rfl rfl rfl (fun _ => rfl) (fun c hc hX => ?_)
 obtain ⟨hp0, hp1, hp2⟩ := Sgr.parts hb
 have hn0 := bulkF_len hp0
 have hn1 := bulk_len hp1
 have hx1 := bulk_mem hp1
 have hn2 := bulkF_len hp2
 refine T_seq (T_region hc (Ch.s (.ptr 2000 0) (.box 2000 _ _ rfl (.aggD _)) (Ch.s (.d (.bool false)) pa (Ch.nil (T_seq (T_region hc (Ch.s (.agg (vX x)) (.pure (.loadPtrA _ _ rfl ag35 sz35 rfl rfl (lb rfl) rfl)) ?_)))))))
 refine Ch.s (.d (.bool (sgB x))) (.call 6000 93 _ _ _ en93 rfl (.inl rfl) (.cons lX .nil) rfl rfl (sp_spec_l5Good x a31) (.skip _ _ .nil) rfl) (Ch.s (.d (.bool (sgB x))) pm ?_)
 cases h1 : (sgB x) with
 | true =>
  refine Ch.s (.d (.int .i64 sig)) pm (Ch.s (.ptr 2000 0) (.pure (.fldPtr _ _ _ rfl fld35_0 rfl)) (Ch.s (.d (.slice false 2 (x.sigs.map Sgn.d))) (.pure (.loadPtr1 _ _ rfl ag32 rfl rfl rfl)) (Ch.s (.d (.int .i64 (x.sigs.length : Int))) (.pure (.len _ _ 154 rfl Tryz.underlying32 (.sh _ _) (by simp))) (Ch.s (.d (.int .i64 ((x.sigs.length : Int) - 1))) (iX rfl rfl intV_subA) (Ch.s (.d (.bool (withinB sig 0 ((x.sigs.length : Int) - 1)))) (.call 13000 89 _ _ _ en89 rfl (.inl rfl) (.cons (.d _) (.cons (.d _) (.cons (.d _) .nil))) rfl rfl (sp_spec_l1In sig 0 ((x.sigs.length : Int) - 1)) (.skip _ _ (.skip _ _ (.skip _ _ .nil))) rfl) (Ch.s (.d (.bool (withinB sig 0 ((x.sigs.length : Int) - 1)))) (.pure (.pickT _ _ _ rfl rfl rfl)) (Ch.s (.d (.bool (withinB sig 0 ((x.sigs.length : Int) - 1)))) pm ?_)))))))
  cases h2 : (withinB sig 0 ((x.sigs.length : Int) - 1)) with
  | true =>
   try have hsg := has_sig (sig_both h1 h2)
   refine Ch.s (.ptr 2000 0) (.pure (.fldPtr _ _ _ rfl fld35_0 rfl)) (Ch.s (.d (.slice false 2 (x.sigs.map Sgn.d))) (.pure (.loadPtr1 _ _ rfl ag32 rfl rfl rfl)) (Ch.s (.d (.int .i64 sig)) pm (Ch.s (.d (.ref (.agg [(.str ((x.sigs.getD ((sig).toNat) default).name)), (.int .i64 ((x.sigs.getD ((sig).toNat) default).kind))]))) (.pure (.idx _ _ _ 154 ((sig).toNat) rfl Tryz.underlying32 sz154 rfl rfl (by omega) get_mapA)) (Ch.s (.d (.ref (.int .i64 ((x.sigs.getD ((sig).toNat) default).kind)))) (.pure (.fldRef _ _ _ rfl fld154_1 rfl rfl rfl)) (Ch.s (.d (.int .i64 ((x.sigs.getD ((sig).toNat) default).kind))) (.pure (.loadRef1 _ _ rfl ag3 rfl rfl)) (Ch.s (.d (.bool (!(decide (((x.sigs.getD ((sig).toNat) default).kind) = 1))))) (iX rfl rfl rfl) (Ch.s (.d (.bool (!(decide (((x.sigs.getD ((sig).toNat) default).kind) = 1))))) (.pure (.pickT _ _ _ rfl rfl rfl)) ?_)))))))
   refine Ch.s (.d (.bool (!(decide (((x.sigs.getD ((sig).toNat) default).kind) = 1))))) pa (Ch.nil (T_ret ?_))
   exact endR [(.d (.bool (!(decide (((x.sigs.getD ((sig).toNat) default).kind) = 1)))))] [] [] (.cons (.tmp 4 rfl) .nil) (.cons (.any _) (.cons (.any _) .nil)) (Exp.of (congrArg D.bool a36) (.d _)) rfl rfl
  | false =>
   try have hsg := has_sig (sig_both h1 h2)
   refine Ch.skip rfl rfl (Ch.skip rfl rfl (Ch.skip rfl rfl (Ch.skip rfl rfl (Ch.skip rfl rfl (Ch.skip rfl rfl (Ch.skip rfl rfl (Ch.s (.d (.bool false)) (.pure (.pickF _ _ _ rfl rfl rfl)) ?_)))))))
   refine Ch.s (.d (.bool false)) pa (Ch.nil (T_ret ?_))
   exact endR [(.d (.bool false))] [] [] (.cons (.tmp 4 rfl) .nil) (.cons (.any _) (.cons (.any _) .nil)) (Exp.of (congrArg D.bool a36) (.d _)) rfl rfl
 | false =>
  refine Ch.skip rfl rfl (Ch.skip rfl rfl (Ch.skip rfl rfl (Ch.skip rfl rfl (Ch.skip rfl rfl (Ch.skip rfl rfl (Ch.s (.d (.bool false)) (.pure (.pickF _ _ _ rfl rfl rfl)) (Ch.s (.d (.bool false)) pm ?_)))))))
  refine Ch.skip rfl rfl (Ch.skip rfl rfl (Ch.skip rfl rfl (Ch.skip rfl rfl (Ch.skip rfl rfl (Ch.skip rfl rfl (Ch.skip rfl rfl (Ch.s (.d (.bool false)) (.pure (.pickF _ _ _ rfl rfl rfl)) ?_)))))))
  refine Ch.s (.d (.bool false)) pa (Ch.nil (T_ret ?_))
  exact endR [(.d (.bool false))] [] [] (.cons (.tmp 4 rfl) .nil) (.cons (.any _) (.cons (.any _) .nil)) (Exp.of (congrArg D.bool a36) (.d _)) rfl rfl

theorem sp_impl_nextIsOne (m : Nat) (x : Sgr) (sig : Int) (hb : x.bulk ≤ 1048576) (hx : SgOk x) (hs : 0 ≤ sig ∧ sig.toNat < x.sigs.length) (hm : m < x.codes.length) : Sp Tryz.prog 147 [(.agg [(.slice false 2 (x.sigs.map Sgn.d)), (.slice false 1 (x.codes.map D.str)), (.slice false 4 (x.arcs.map Arc.d))]), (.int .i64 (m : Int)), (.int .i64 sig)] [.any, .any, .any] (.bool (onQ x sig 0 m)) := by
 refine Sp_intro (lend := true) Tryz.func147 rfl rfl rfl (fun _ => rfl) (fun c hc hX => ?_)
 obtain ⟨hp0, hp1, hp2⟩ := Sgr.parts hb
 have hn0 := bulkF_len hp0
 have hn1 := bulk_len hp1
 have hx1 := bulk_mem hp1
 have hn2 := bulkF_len hp2; have hxl := hx.len; have hlk : (x.codes.getD m default).length = x.sigs.length := (codes_at hx.codes (m : Int) (by omega) (by omega)).2
 refine T_seq (T_region hc (Ch.s (.ptr 3000 0) (.box 3000 _ _ rfl (.aggD _)) (Ch.s (.d (.bool false)) pa (Ch.nil (T_seq ?_)))))
 refine T_regionD hc (by kernel_rfl) ?_
 refine ChD.s (.ptr 3000 1) [] (.pure (.fldPtr _ _ _ rfl fld35_1 rfl)) (ChD.s (.d (.slice false 1 (x.codes.map D.str))) [3000] (.pure (.loadPtr1 _ _ rfl ag23 rfl rfl rfl)) (ChD.s (.d (.int .i64 (m : Int))) [] pm (ChD.s (.d (.ref (.str (x.codes.getD m default)))) [] (.pure (.idx _ _ _ 9 (m) rfl Tryz.underlying23 sz9 rfl rfl rfl get_mapA)) (ChD.s (.d (.str (x.codes.getD m default))) [] (.pure (.loadRef1 _ _ rfl ag9 rfl rfl)) (ChD.s (.d (.int .i64 sig)) [] pm (ChD.s (.d (.int .u8 (((x.codes.getD m default).getD ((sig).toNat) 0).toNat : Int))) [] (.pure (.idxStr _ _ _ ((sig).toNat) rfl Tryz.underlying9 rfl rfl (by omega) get_strA)) (ChD.s (.d (.bool (decide ((((x.codes.getD m default).getD ((sig).toNat) 0) : UInt8) = 49)))) [] (iX rfl rfl (u8_eql (((x.codes.getD m default).getD ((sig).toNat) 0) : UInt8) 49 rfl rfl)) ?_)))))))
 refine ChD.s (.agg (vX x)) [3000] (.pure (.loadPtrA _ _ rfl ag35 sz35 rfl rfl (lb rfl) rfl)) (ChD.s (.d (.int .i64 (m : Int))) [] pm (ChD.s (.d (.int .i64 sig)) [] pm (ChD.s (.d (.bool (excB x (m : Int) sig))) [] (.call 18000 141 _ _ _ en141 rfl (.inl rfl) (.cons lX (.cons (.d _) (.cons (.d _) .nil))) rfl rfl (sp_impl_isExcited x (m : Int) sig a31) (.skip _ _ (.skip _ _ (.skip _ _ .nil))) rfl) (ChD.s (.d (.bool (!(decide ((decide ((((x.codes.getD m default).getD ((sig).toNat) 0) : UInt8) = 49)) = (excB x (m : Int) sig)))))) [] (.pure (.neB _ _ _ _ rfl Tryz.underlying4 rfl rfl)) (ChD.s (.d (.bool (!(decide ((decide ((((x.codes.getD m default).getD ((sig).toNat) 0) : UInt8) = 49)) = (excB x (m : Int) sig)))))) [] pa ?_)))))
 refine ChD.nil (And.intro ?_ (by kernel_rfl))
 refine T_ret ?_
 exact endR [(.d (.bool (!(decide ((decide ((((x.codes.getD m default).getD ((sig).toNat) 0) : UInt8) = 49)) = (excB x (m : Int) sig))))))] [] [] (.cons (.tmp 6 rfl) .nil) (.cons (.any _) (.cons (.any _) (.cons (.any _) .nil))) (Exp.of (congrArg D.bool a46) (.d _)) rfl rfl

theorem sp_impl_NextStateSets_1 (m : Nat) (x : Sgr) (sig : Int) (hb : x.bulk ≤ 1048576) (hx : SgOk x) (hs : 0 ≤ sig ∧ sig.toNat < x.sigs.length) (hm : m < x.codes.length) : Sp Tryz.prog 146 [(.int .i64 (m : Int)), (.ref (.agg [(.slice false 2 (x.sigs.map Sgn.d)), (.slice false 1 (x.codes.map D.str)), (.slice false 4 (x.arcs.map Arc.d))])), (.ref (.int .i64 sig))] [.any, .any, .any] (.bool (onQ x sig 0 m)) := by
 refine Sp_intro (lend := true) Tryz.func146 rfl rfl rfl (fun _ => rfl) (fun c hc hX => ?_)
 obtain ⟨hp0, hp1, hp2⟩ := Sgr.parts hb
 have hn0 := bulkF_len hp0
 have hn1 := bulk_len hp1
 have hx1 := bulk_mem hp1
 have hn2 := bulkF_len hp2; have hxl := hx.len; have hlk : (x.codes.getD m default).length = x.sigs.length := (codes_at hx.codes (m : Int) (by omega) (by omega)).2
 refine T_seq (T_region hc (Ch.s (.d (.bool false)) pa (Ch.nil (T_seq (T_region hc (Ch.s (.d (.agg [(.slice false 2 (x.sigs.map Sgn.d)), (.slice false 1 (x.codes.map D.str)), (.slice false 4 (x.arcs.map Arc.d))])) (.pure (.loadRefA _ _ rfl ag35 sz35 rfl)) (Ch.s (.d (.int .i64 (m : Int))) pm ?_)))))))
 refine Ch.s (.d (.int .i64 sig)) (.pure (.loadRef1 _ _ rfl ag3 rfl rfl)) (Ch.s (.d (.bool (onQ x sig 0 m))) (.call 8000 147 _ _ _ en147 rfl (.inl rfl) (.cons (.d _) (.cons (.d _) (.cons (.d _) .nil))) rfl rfl (sp_impl_nextIsOne m x sig a31 (by assumption) (by omega) (by omega)) (.skip _ _ (.skip _ _ (.skip _ _ .nil))) rfl) (Ch.s (.d (.bool (onQ x sig 0 m))) pa (Ch.nil (T_ret ?_))))
 exact endR [(.d (.bool (onQ x sig 0 m)))] [] [] (.cons (.tmp 4 rfl) .nil) (.cons (.any _) (.cons (.any _) (.cons (.any _) .nil))) (.d _) rfl rfl

theorem sp_impl_NextStateSets_2 (m : Nat) (x : Sgr) (sig : Int) (hb : x.bulk ≤ 1048576) (hx : SgOk x) (hs : 0 ≤ sig ∧ sig.toNat < x.sigs.length) (hm : m < x.codes.length) : Sp Tryz.prog 148 [(.int .i64 (m : Int)), (.ref (.agg [(.slice false 2 (x.sigs.map Sgn.d)), (.slice false 1 (x.codes.map D.str)), (.slice false 4 (x.arcs.map Arc.d))])), (.ref (.int .i64 sig))] [.any, .any, .any] (.bool (offQ x sig 0 m)) := by
 refine Sp_intro (lend := true) Tryz.func148 rfl rfl rfl (fun _ => rfl) (fun c hc hX => ?_)
 obtain ⟨hp0, hp1, hp2⟩ := Sgr.parts hb
 have hn0 := bulkF_len hp0
 have hn1 := bulk_len hp1
 have hx1 := bulk_mem hp1
 have hn2 := bulkF_len hp2; have hxl := hx.len; have hlk : (x.codes.getD m default).length = x.sigs.length := (codes_at hx.codes (m : Int) (by omega) (by omega)).2
 refine T_seq (T_region hc (Ch.s (.d (.bool false)) pa (Ch.nil (T_seq (T_region hc (Ch.s (.d (.agg [(.slice false 2 (x.sigs.map Sgn.d)), (.slice false 1 (x.codes.map D.str)), (.slice false 4 (x.arcs.map Arc.d))])) (.pure (.loadRefA _ _ rfl ag35 sz35 rfl)) (Ch.s (.d (.int .i64 (m : Int))) pm ?_)))))))
 refine Ch.s (.d (.int .i64 sig)) (.pure (.loadRef1 _ _ rfl ag3 rfl rfl)) (Ch.s (.d (.bool (onQ x sig 0 m))) (.call 8000 147 _ _ _ en147 rfl (.inl rfl) (.cons (.d _) (.cons (.d _) (.cons (.d _) .nil))) rfl rfl (sp_impl_nextIsOne m x sig a31 (by assumption) (by omega) (by omega)) (.skip _ _ (.skip _ _ (.skip _ _ .nil))) rfl) (Ch.s (.d (.bool (!(onQ x sig 0 m)))) (.pure (.not _ _ rfl rfl)) (Ch.s (.d (.bool (!(onQ x sig 0 m)))) pa (Ch.nil (T_ret ?_)))))
 exact endR [(.d (.bool (!(onQ x sig 0 m))))] [] [] (.cons (.tmp 4 rfl) .nil) (.cons (.any _) (.cons (.any _) (.cons (.any _) .nil))) (Exp.of (congrArg D.bool a46) (.d _)) rfl rfl

theorem sp_impl_setsOf (x : Sgr) (f1 f2 : FuncId) (caps1 caps2 : List D) (p q : Nat → Bool) (hf1 : Enters Tryz.prog f1) (hf2 : Enters Tryz.prog f2) (hp : ∀ k : Nat, k < x.codes.length → Sp Tryz.prog f1 (.int .i64 (k : Int) :: caps1) (.any :: anys caps1) (.bool (p k))) (hq : ∀ k : Nat, k < x.codes.length → Sp Tryz.prog f2 (.int .i64 (k : Int) :: caps2) (.any :: anys caps2) (.bool (q k))) (hb : x.bulk ≤ 1048576) (hx : SgOk x) : Sp Tryz.prog 143 [(.agg [(.slice false 2 (x.sigs.map Sgn.d)), (.slice false 1 (x.codes.map D.str)), (.slice false 4 (x.arcs.map Arc.d))]), (.fn f1 caps1), (.fn f2 caps2)] [.any, .any, .any] (.tup [(.agg [(.slice true 1 ((setsOn x p q).map D.str)), (.slice true 1 ((setsOff x p q).map D.str))]), (.bool (setsOk x p q))]) := by
 refine Sp_intro (lend := true) Tryz.func143 rfl rfl rfl (fun _ => rfl) (fun c hc hX => ?_)
 obtain ⟨hp0, hp1, hp2⟩ := Sgr.parts hb
 have hn0 := bulkF_len hp0
 have hn1 := bulk_len hp1
 have hx1 := bulk_mem hp1
 have hn2 := bulkF_len hp2; have hxl := hx.len; have hxf := hx.few; have hop := osTo_le x p x.codes.length; have hoq := osTo_le x q x.codes.length; have hsp := selC_le x p x.codes.length; have hsq := selC_le x q x.codes.length
 refine T_seq (T_region hc (Ch.s (.ptr 3000 0) (.box 3000 _ _ rfl (.aggD _)) (Ch.s (.ptr 6000 0) (.alloc 6000 _ rfl zer29) (Ch.s (.d (.bool false)) pa (Ch.nil (T_seq (T_region hc ?_)))))))
 refine Ch.s (.agg [(.c (.slice none 0 0)), (.c (.slice none 0 0))]) (.build _ _ rfl stru29 .nil rfl) (Ch.s (.ptr 8000 0) (.alloc 8000 _ rfl zer29) (Ch.s .junk (.storePtr _ _ _ rfl rfl rfl (.agg _ rfl) sz29 (lb rfl)) (Ch.nil (T_seq (T_seq (T_region hc (Ch.s (.ptr 3000 1) (.pure (.fldPtr _ _ _ rfl fld35_1 rfl)) ?_)))))))
 refine Ch.s (.d (.slice false 1 (x.codes.map D.str))) (.pure (.loadPtr1 _ _ rfl ag23 rfl rfl rfl)) (Ch.s (.d (.int .i64 (x.codes.length : Int))) (.pure (.len _ _ 9 rfl Tryz.underlying23 (.sh _ _) (by simp))) (Ch.s (.d (.int .i64 0)) pm (Ch.nil (T_block ?_))))
 refine T_loop (ι := Nat) (fun k => { n := 64, sl := [(1, (.d (.fn f1 caps1))), (2, (.d (.fn f2 caps2))), (3, (.ptr 3000 0)), (6, (.ptr 6000 0)), (8, (.ptr 8000 0)), (13, (.d (.slice false 1 (x.codes.map D.str)))), (14, (.d (.int .i64 (x.codes.length : Int)))), (15, (.d (.int .i64 (k : Int))))], hp := [(3000, (some (.box (vX x)))), (6000, (some (.box [(.c (.slice none 0 0)), (.c (.slice none 0 0))]))), (7700, (some (.row 1 ((selC x p k).map D.str)))), (7701, (some (.row 1 ((selC x q k).map D.str)))), (8000, (some (.box [(.row 7700), (.row 7701)])))], pin := [] }) (fun k => k ≤ x.codes.length) (fun k => x.codes.length - k) ⟨0, (by omega), (Wk.trans (Wk.nilcell 8000 0 990000 1 rfl rfl rfl) (Wk.trans (Wk.nilcell 8000 1 990001 1 rfl rfl rfl) (Wk.ren [(7700, 990000), (7701, 990001)] rfl rfl rfl rfl (ai rfl (ai rfl (ai rfl (ai rfl (ai rfl (ai rfl (ai rfl (ai (vI a93) trivial)))))))) (ai rfl (ai rfl (ai (oR a52) (ai (oR a52) (ai (oB (Eq.trans (b := [(.row 990000), (.row 990001)]) rfl (by rfl))) trivial))))))))⟩ (fun k hp0 => ?_)
 have hpk := selC_le x p k; have hqk := selC_le x q k; have hpo : (Lib.compact ((selC x p k).mergeSort leS)).length ≤ k := osTo_le x p k; have hqo : (Lib.compact ((selC x q k).mergeSort leS)).length ≤ k := osTo_le x q k; have hpx : ∀ u ∈ Lib.compact ((selC x p k).mergeSort leS), u.length ≤ 1048576 := fun u hu => hx1 u (osTo_in (Q := p) hp0 u hu); have hqx : ∀ u ∈ Lib.compact ((selC x q k).mergeSort leS), u.length ≤ 1048576 := fun u hu => hx1 u (osTo_in (Q := q) hp0 u hu)
 refine T_seq (T_region hc (Ch.s (.d (.bool (decide ((k : Int) < (x.codes.length : Int))))) (iX rfl rfl rfl) (Ch.nil (T_seq ?_))))
 refine T_condD (p := ((k : Int) < (x.codes.length : Int))) rfl (fun h1 => ?_) (fun h1 => ?_)
 ·
  refine T_skip (T_seq (T_block (T_seq (T_region hc (Ch.s (.d (.int .i64 (k : Int))) pm (Ch.s (.d (.ref (.str (x.codes.getD k default)))) (.pure (.idx _ _ _ 9 (k) rfl Tryz.underlying23 sz9 rfl rfl rfl get_mapA)) (Ch.s (.d (.str (x.codes.getD k default))) (.pure (.loadRef1 _ _ rfl ag9 rfl rfl)) ?_)))))))
  refine Ch.s (.d (.int .i64 (k : Int))) pa (Ch.s (.d (.str (x.codes.getD k default))) pa (Ch.nil (T_seq (T_seq (T_region hc (Ch.s (.d (.fn f1 caps1)) pm (Ch.s (.d (.int .i64 (k : Int))) pm ?_)))))))
  refine Ch.step (v := (.d (.bool (p k)))) rfl (.callS 22000 f1 _ #[.tmp 21] _ hf1 rfl (.inr ⟨caps1, rfl, rfl⟩) (.cons (.d _) (exps_ds caps1)) rfl (hp _ (by omega)) (.skip _ _ (back_anys caps1)) rfl) rfl rfl ?_
  refine Ch.nil ?_
  refine T_cond (b := (p k)) rfl (fun h2 => ?_) (fun h2 => ?_)
  ·
   refine T_region hc (Ch.s (.ptr 8000 0) (.pure (.fldPtr _ _ _ rfl fld29_0 rfl)) (Ch.s (.row 7700) (.pure (.loadPtr1 _ _ rfl ag23 rfl rfl rfl)) (Ch.s (.d (.str (x.codes.getD k default))) pm (Ch.s (.row 26000) (.slice 26000 _ 9 _ rfl sty23 (xs := [.tmp 25]) rfl rfl (.cons (.d _) .nil) rfl rfl (by decide)) ?_))))
   refine Ch.step (v := (.row 27000)) rfl (.append 27000 _ _ _ 9 rfl sty23 (by decide) (.rowK rfl) (.inr ⟨_, rfl, rfl⟩) (.row rfl rfl) rfl a51) rfl rfl ?_
   refine Ch.s (.ptr 8000 0) (.pure (.fldPtr _ _ _ rfl fld29_0 rfl)) (Ch.s .junk (.storePtr _ _ _ rfl rfl rfl (.one _ rfl) sz23 (lb rfl)) (Ch.nil (T_seq (T_region hc (Ch.s (.d (.fn f2 caps2)) pm (Ch.s (.d (.int .i64 (k : Int))) pm ?_))))))
   refine Ch.step (v := (.d (.bool (q k)))) rfl (.callS 31000 f2 _ #[.tmp 30] _ hf2 rfl (.inr ⟨caps2, rfl, rfl⟩) (.cons (.d _) (exps_ds caps2)) rfl (hq _ (by omega)) (.skip _ _ (back_anys caps2)) rfl) rfl rfl ?_
   refine Ch.nil ?_
   refine T_cond (b := (q k)) rfl (fun h3 => ?_) (fun h3 => ?_)
   ·
    refine T_region hc (Ch.s (.ptr 8000 1) (.pure (.fldPtr _ _ _ rfl fld29_1 rfl)) (Ch.s (.row 7701) (.pure (.loadPtr1 _ _ rfl ag23 rfl rfl rfl)) (Ch.s (.d (.str (x.codes.getD k default))) pm (Ch.s (.row 35000) (.slice 35000 _ 9 _ rfl sty23 (xs := [.tmp 34]) rfl rfl (.cons (.d _) .nil) rfl rfl (by decide)) ?_))))
    refine Ch.step (v := (.row 36000)) rfl (.append 36000 _ _ _ 9 rfl sty23 (by decide) (.rowK rfl) (.inr ⟨_, rfl, rfl⟩) (.row rfl rfl) rfl a51) rfl rfl ?_
    refine Ch.s (.ptr 8000 1) (.pure (.fldPtr _ _ _ rfl fld29_1 rfl)) (Ch.s .junk (.storePtr _ _ _ rfl rfl rfl (.one _ rfl) sz23 (lb rfl)) (Ch.nil (T_region hc (Ch.s (.d (.int .i64 ((k : Int) + 1))) (iX rfl rfl intV_addA) (Ch.s (.d (.int .i64 ((k : Int) + 1))) pm (Ch.nil ?_))))))
    exact nx (k + 1) (by omega) (Wk.ren [(7700, 27000), (7701, 36000)] rfl rfl rfl rfl (ai rfl (ai rfl (ai rfl (ai rfl (ai rfl (ai rfl (ai rfl (ai (vI a93) trivial)))))))) (ai rfl (ai rfl (ai (oR a52) (ai (oR a52) (ai (oB (Eq.trans (b := [(.row 27000), (.row 36000)]) rfl (by rfl))) trivial))))))
   ·
    refine T_skip (T_region hc (Ch.s (.d (.int .i64 ((k : Int) + 1))) (iX rfl rfl intV_addA) (Ch.s (.d (.int .i64 ((k : Int) + 1))) pm (Ch.nil ?_))))
    exact nx (k + 1) (by omega) (Wk.ren [(7700, 27000)] rfl rfl rfl rfl (ai rfl (ai rfl (ai rfl (ai rfl (ai rfl (ai rfl (ai rfl (ai (vI a93) trivial)))))))) (ai rfl (ai rfl (ai (oR a52) (ai (oR a52) (ai (oB (Eq.trans (b := [(.row 27000), (.row 7701)]) rfl (by rfl))) trivial))))))
  ·
   refine T_skip (T_seq (T_region hc (Ch.s (.d (.fn f2 caps2)) pm (Ch.s (.d (.int .i64 (k : Int))) pm ?_))))
   refine Ch.step (v := (.d (.bool (q k)))) rfl (.callS 31000 f2 _ #[.tmp 30] _ hf2 rfl (.inr ⟨caps2, rfl, rfl⟩) (.cons (.d _) (exps_ds caps2)) rfl (hq _ (by omega)) (.skip _ _ (back_anys caps2)) rfl) rfl rfl ?_
   refine Ch.nil ?_
   refine T_cond (b := (q k)) rfl (fun h4 => ?_) (fun h4 => ?_)
   ·
    refine T_region hc (Ch.s (.ptr 8000 1) (.pure (.fldPtr _ _ _ rfl fld29_1 rfl)) (Ch.s (.row 7701) (.pure (.loadPtr1 _ _ rfl ag23 rfl rfl rfl)) (Ch.s (.d (.str (x.codes.getD k default))) pm (Ch.s (.row 35000) (.slice 35000 _ 9 _ rfl sty23 (xs := [.tmp 34]) rfl rfl (.cons (.d _) .nil) rfl rfl (by decide)) ?_))))
    refine Ch.step (v := (.row 36000)) rfl (.append 36000 _ _ _ 9 rfl sty23 (by decide) (.rowK rfl) (.inr ⟨_, rfl, rfl⟩) (.row rfl rfl) rfl a51) rfl rfl ?_
    refine Ch.s (.ptr 8000 1) (.pure (.fldPtr _ _ _ rfl fld29_1 rfl)) (Ch.s .junk (.storePtr _ _ _ rfl rfl rfl (.one _ rfl) sz23 (lb rfl)) (Ch.nil (T_region hc (Ch.s (.d (.int .i64 ((k : Int) + 1))) (iX rfl rfl intV_addA) (Ch.s (.d (.int .i64 ((k : Int) + 1))) pm (Ch.nil ?_))))))
    exact nx (k + 1) (by omega) (Wk.ren [(7701, 36000)] rfl rfl rfl rfl (ai rfl (ai rfl (ai rfl (ai rfl (ai rfl (ai rfl (ai rfl (ai (vI a93) trivial)))))))) (ai rfl (ai rfl (ai (oR a52) (ai (oR a52) (ai (oB (Eq.trans (b := [(.row 7700), (.row 36000)]) rfl (by rfl))) trivial))))))
   ·
    refine T_skip (T_region hc (Ch.s (.d (.int .i64 ((k : Int) + 1))) (iX rfl rfl intV_addA) (Ch.s (.d (.int .i64 ((k : Int) + 1))) pm (Ch.nil ?_))))
    exact nx (k + 1) (by omega) (Wk.of rfl rfl (ai rfl (ai rfl (ai rfl (ai rfl (ai rfl (ai rfl (ai rfl (ai (vI a93) trivial)))))))) (ai rfl (ai rfl (ai (oR a52) (ai (oR a52) (ai rfl trivial))))))
 ·
  refine T_exit (T_seq (T_region hc (Ch.s (.ptr 8000 0) (.pure (.fldPtr _ _ _ rfl fld29_0 rfl)) (Ch.s (.row 7700) (.pure (.loadPtr1 _ _ rfl ag23 rfl rfl rfl)) ?_))))
  refine Ch.step (v := (.tup [])) rfl (.call 41000 124 _ _ _ en124 rfl (.inl rfl) (.cons (.row rfl) .nil) rfl (sol rfl (solids_c (solid_row (fun _ => rfl) _) rfl)) (sp_Sort_str (selC x p k) a31) (.row _ _ _ .nil) rfl) rfl rfl ?_
  refine Ch.nil (T_seq (T_region hc (Ch.s (.ptr 8000 1) (.pure (.fldPtr _ _ _ rfl fld29_1 rfl)) (Ch.s (.row 7701) (.pure (.loadPtr1 _ _ rfl ag23 rfl rfl rfl)) ?_))))
  refine Ch.step (v := (.tup [])) rfl (.call 44000 124 _ _ _ en124 rfl (.inl rfl) (.cons (.row rfl) .nil) rfl (sol rfl (solids_c (solid_row (fun _ => rfl) _) rfl)) (sp_Sort_str (selC x q k) a31) (.row _ _ _ .nil) rfl) rfl rfl ?_
  refine Ch.nil (T_seq ?_)
  refine T_regionD hc (by kernel_rfl) ?_
  refine ChD.s (.ptr 8000 0) [] (.pure (.fldPtr _ _ _ rfl fld29_0 rfl)) (ChD.s (.row 7700) [8000] (.pure (.loadPtr1 _ _ rfl ag23 rfl rfl rfl)) (ChD.s (.row 47000) [7700] (.call 47000 209 _ _ _ en209 rfl (.inl rfl) (.cons (.row rfl) .nil) rfl (sol (solid_row (fun _ => rfl) _) rfl) (sp_Compact_str ((selC x p k).mergeSort leS) a62) (.skip _ _ .nil) rfl) (ChD.s (.ptr 8000 1) [] (.pure (.fldPtr _ _ _ rfl fld29_1 rfl)) (ChD.s (.row 7701) [8000] (.pure (.loadPtr1 _ _ rfl ag23 rfl rfl rfl)) (ChD.s (.row 50000) [7701] (.call 50000 209 _ _ _ en209 rfl (.inl rfl) (.cons (.row rfl) .nil) rfl (sol (solid_row (fun _ => rfl) _) rfl) (sp_Compact_str ((selC x q k).mergeSort leS) a62) (.skip _ _ .nil) rfl) (ChD.s (.ptr 8000 0) [] (.pure (.fldPtr _ _ _ rfl fld29_0 rfl)) (ChD.s .junk [7700, 7701, 8000, 47000] (.storePtr _ _ _ rfl rfl rfl (.one _ rfl) sz23 (lb rfl)) ?_)))))))
  refine ChD.s (.ptr 8000 1) [] (.pure (.fldPtr _ _ _ rfl fld29_1 rfl)) (ChD.s .junk [7701, 8000, 47000, 50000] (.storePtr _ _ _ rfl rfl rfl (.one _ rfl) sz23 (lb rfl)) ?_)
  refine ChD.nil (And.intro ?_ (by kernel_rfl))
  refine T_seq (T_seq (T_region hc (Ch.s (.ptr 3000 0) (.pure (.fldPtr _ _ _ rfl fld35_0 rfl)) (Ch.s (.d (.slice false 2 (x.sigs.map Sgn.d))) (.pure (.loadPtr1 _ _ rfl ag32 rfl rfl rfl)) (Ch.s (.d (.int .i64 (x.sigs.length : Int))) (.pure (.len _ _ 154 rfl Tryz.underlying32 (.sh _ _) (by simp))) (Ch.s (.ptr 8000 0) (.pure (.fldPtr _ _ _ rfl fld29_0 rfl)) (Ch.s (.row 47000) (.pure (.loadPtr1 _ _ rfl ag23 rfl rfl rfl)) ?_)))))))
  refine Ch.s (.ptr 8000 1) (.pure (.fldPtr _ _ _ rfl fld29_1 rfl)) (Ch.s (.row 50000) (.pure (.loadPtr1 _ _ rfl ag23 rfl rfl rfl)) (Ch.s (.d (.bool (onoffB (x.sigs.length : Int) (Lib.compact ((selC x p k).mergeSort leS)) (Lib.compact ((selC x q k).mergeSort leS))))) (.call 60000 152 _ _ _ en152 rfl (.inl rfl) (.cons (.d _) (.cons (.lend (.row rfl (frozs_map (fun _ => rfl) _))) (.cons (.lend (.row rfl (frozs_map (fun _ => rfl) _))) .nil))) rfl rfl (sp_impl_IsValidOnOff (x.sigs.length : Int) (Lib.compact ((selC x p k).mergeSort leS)) (Lib.compact ((selC x q k).mergeSort leS)) a17 a17 a17 a17) (.skip _ _ (.skip _ _ (.skip _ _ .nil))) rfl) (Ch.s (.d (.bool (!(onoffB (x.sigs.length : Int) (Lib.compact ((selC x p k).mergeSort leS)) (Lib.compact ((selC x q k).mergeSort leS)))))) (.pure (.not _ _ rfl rfl)) (Ch.nil ?_))))
  refine T_condN (b := (onoffB (x.sigs.length : Int) (Lib.compact ((selC x p k).mergeSort leS)) (Lib.compact ((selC x q k).mergeSort leS)))) rfl (fun h5 => ?_) (fun h5 => ?_)
  ·
   refine T_seq (T_region hc (Ch.s (.agg [(.c (.slice none 0 0)), (.c (.slice none 0 0))]) (.build _ _ rfl stru29 .nil rfl) (Ch.s .junk (.storePtr _ _ _ rfl rfl rfl (.agg _ rfl) sz29 (lb rfl)) (Ch.s (.d (.bool false)) pa (Ch.nil (T_ret ?_))))))
   exact endR [(.agg [(.c (.slice none 0 0)), (.c (.slice none 0 0))]), (.d (.bool false))] [] [] (.cons (.cellA _ _ rfl rfl ag29 sz29) (.cons (.tmp 7 rfl) .nil)) (.cons (.any _) (.cons (.any _) (.cons (.any _) .nil))) (.tup (.cons (.agg (.cons (Exp.of (congrArg (D.slice true 1) (by have hke : x.codes.length = k := (by omega); first | (rw [setsOn_yes hke (by assumption)]; done) | (rw [setsOff_yes hke (by assumption)]; done) | (rw [setsOn_no (sets_is hke (by assumption))]; rfl) | (rw [setsOff_no (sets_is hke (by assumption))]; rfl) | (rw [sets_is hke (by assumption)]; done) | (exact (sets_is hke (by assumption)).symm))) (.nil true 1)) (.cons (Exp.of (congrArg (D.slice true 1) (by have hke : x.codes.length = k := (by omega); first | (rw [setsOn_yes hke (by assumption)]; done) | (rw [setsOff_yes hke (by assumption)]; done) | (rw [setsOn_no (sets_is hke (by assumption))]; rfl) | (rw [setsOff_no (sets_is hke (by assumption))]; rfl) | (rw [sets_is hke (by assumption)]; done) | (exact (sets_is hke (by assumption)).symm))) (.nil true 1)) .nil)) rfl) (.cons (Exp.of (congrArg D.bool (by have hke : x.codes.length = k := (by omega); first | (rw [setsOn_yes hke (by assumption)]; done) | (rw [setsOff_yes hke (by assumption)]; done) | (rw [setsOn_no (sets_is hke (by assumption))]; rfl) | (rw [setsOff_no (sets_is hke (by assumption))]; rfl) | (rw [sets_is hke (by assumption)]; done) | (exact (sets_is hke (by assumption)).symm))) (.d _)) .nil))) rfl rfl
  ·
   refine T_skip (T_seq (T_region hc (Ch.s (.agg [(.row 47000), (.row 50000)]) (.pure (.loadPtrA _ _ rfl ag29 sz29 rfl rfl (lb rfl) rfl)) (Ch.s .junk (.storePtr _ _ _ rfl rfl rfl (.agg _ rfl) sz29 (lb rfl)) (Ch.s (.d (.bool true)) pa (Ch.nil (T_ret ?_)))))))
   exact endR [(.agg [(.row 47000), (.row 50000)]), (.d (.bool true))] [] [47000, 50000] (.cons (.cellA _ _ rfl rfl ag29 sz29) (.cons (.tmp 7 rfl) .nil)) (.cons (.any _) (.cons (.any _) (.cons (.any _) .nil))) (.tup (.cons (.agg (.cons (Exp.of (congrArg (D.slice true 1) (by have hke : x.codes.length = k := (by omega); first | (rw [setsOn_yes hke (by assumption)]; done) | (rw [setsOff_yes hke (by assumption)]; done) | (rw [setsOn_no (sets_is hke (by assumption))]; rfl) | (rw [setsOff_no (sets_is hke (by assumption))]; rfl) | (rw [sets_is hke (by assumption)]; done) | (exact (sets_is hke (by assumption)).symm))) (.row rfl)) (.cons (Exp.of (congrArg (D.slice true 1) (by have hke : x.codes.length = k := (by omega); first | (rw [setsOn_yes hke (by assumption)]; done) | (rw [setsOff_yes hke (by assumption)]; done) | (rw [setsOn_no (sets_is hke (by assumption))]; rfl) | (rw [setsOff_no (sets_is hke (by assumption))]; rfl) | (rw [sets_is hke (by assumption)]; done) | (exact (sets_is hke (by assumption)).symm))) (.row rfl)) .nil)) rfl) (.cons (Exp.of (congrArg D.bool (by have hke : x.codes.length = k := (by omega); first | (rw [setsOn_yes hke (by assumption)]; done) | (rw [setsOff_yes hke (by assumption)]; done) | (rw [setsOn_no (sets_is hke (by assumption))]; rfl) | (rw [setsOff_no (sets_is hke (by assumption))]; rfl) | (rw [sets_is hke (by assumption)]; done) | (exact (sets_is hke (by assumption)).symm))) (.d _)) .nil))) rfl rfl

theorem sp_impl_NextStateSets (x : Sgr) (sig : Int) (hb : x.bulk ≤ 1048576) : Sp Tryz.prog 80 [(.agg [(.slice false 2 (x.sigs.map Sgn.d)), (.slice false 1 (x.codes.map D.str)), (.slice false 4 (x.arcs.map Arc.d))]), (.int .i64 sig)] [.any, .any] (.tup [(.agg [(.slice true 1 ((osOn x sig 0).map D.str)), (.slice true 1 ((osOff x sig 0).map D.str))]), (.bool (osOk x sig 0))]) := by
 refine Sp_intro (lend := true) Tryz.func80 rfl rfl rfl (fun _ => rfl) (fun c hc hX => ?_)
 obtain ⟨hp0, hp1, hp2⟩ := Sgr.parts hb
 have hn0 := bulkF_len hp0
 have hn1 := bulk_len hp1
 have hx1 := bulk_mem hp1
 have hn2 := bulkF_len hp2
 refine T_seq (T_region hc (Ch.s (.ptr 2000 0) (.box 2000 _ _ rfl (.aggD _)) (Ch.s (.ptr 3000 0) (.box 3000 _ _ rfl (.one _ rfl)) (Ch.s (.ptr 4000 0) (.alloc 4000 _ rfl zer29) (Ch.s (.d (.bool false)) pa (Ch.nil (T_seq ?_)))))))
 refine T_seq (T_region hc (Ch.s (.agg (vX x)) (.pure (.loadPtrA _ _ rfl ag35 sz35 rfl rfl (lb rfl) rfl)) (Ch.s (.d (.int .i64 sig)) (.pure (.loadPtr1 _ _ rfl ag3 rfl rfl rfl)) (Ch.s (.d (.bool (outSig x sig))) (.call 8000 139 _ _ _ en139 rfl (.inl rfl) (.cons lX (.cons (.d _) .nil)) rfl rfl (sp_impl_isOutput x sig a31) (.skip _ _ (.skip _ _ .nil)) rfl) (Ch.s (.d (.bool (!(outSig x sig)))) (.pure (.not _ _ rfl rfl)) (Ch.nil ?_))))))
 refine T_condN (b := (outSig x sig)) rfl (fun h1 => ?_) (fun h1 => ?_)
 ·
  try have hsr := outSig_has h1
  try have hx := sg_has hsr.1
  try have hsx := hsr.2
  refine T_seq (T_region hc (Ch.s (.agg [(.c (.slice none 0 0)), (.c (.slice none 0 0))]) (.build _ _ rfl stru29 .nil rfl) (Ch.s .junk (.storePtr _ _ _ rfl rfl rfl (.agg _ rfl) sz29 (lb rfl)) (Ch.s (.d (.bool false)) pa (Ch.nil (T_ret ?_))))))
  exact endR [(.agg [(.c (.slice none 0 0)), (.c (.slice none 0 0))]), (.d (.bool false))] [] [] (.cons (.cellA _ _ rfl rfl ag29 sz29) (.cons (.tmp 5 rfl) .nil)) (.cons (.any _) (.cons (.any _) .nil)) (.tup (.cons (.agg (.cons (Exp.of (congrArg (D.slice true 1) a30) (.nil true 1)) (.cons (Exp.of (congrArg (D.slice true 1) a30) (.nil true 1)) .nil)) rfl) (.cons (Exp.of (congrArg D.bool a30) (.d _)) .nil))) rfl rfl
 ·
  try have hsr := outSig_has h1
  try have hx := sg_has hsr.1
  try have hsx := hsr.2
  refine T_skip (T_seq (T_region hc (Ch.s (.agg (vX x)) (.pure (.loadPtrA _ _ rfl ag35 sz35 rfl rfl (lb rfl) rfl)) (Ch.s (.fn 146 [(.ptr 2000 0), (.ptr 3000 0)]) (.pure (.func _ _ rfl rfl)) (Ch.s (.fn 148 [(.ptr 2000 0), (.ptr 3000 0)]) (.pure (.func _ _ rfl rfl)) ?_)))))
  refine Ch.step (v := (.tup [(.agg [(.row 14000), (.row 14001)]), (.d (.bool (setsOk x (onQ x sig 0) (offQ x sig 0))))])) rfl (.call 14000 143 _ _ _ en143 rfl (.inl rfl) (.cons lX (.cons (.lend (.fn (.cons (.ptr rfl (.agg (.cons (.d _) (.cons (.d _) (.cons (.d _) .nil))) rfl)) (.cons (.ptr rfl (.one (.d _) rfl)) .nil)))) (.cons (.lend (.fn (.cons (.ptr rfl (.agg (.cons (.d _) (.cons (.d _) (.cons (.d _) .nil))) rfl)) (.cons (.ptr rfl (.one (.d _) rfl)) .nil)))) .nil))) rfl (sol a50 rfl) (sp_impl_setsOf x 146 148 [(.ref (.agg [(.slice false 2 (x.sigs.map Sgn.d)), (.slice false 1 (x.codes.map D.str)), (.slice false 4 (x.arcs.map Arc.d))])), (.ref (.int .i64 sig))] [(.ref (.agg [(.slice false 2 (x.sigs.map Sgn.d)), (.slice false 1 (x.codes.map D.str)), (.slice false 4 (x.arcs.map Arc.d))])), (.ref (.int .i64 sig))] (onQ x sig 0) (offQ x sig 0) en146 en148 (fun m hm => sp_impl_NextStateSets_1 m x sig a31 (by assumption) (by omega) hm) (fun m hm => sp_impl_NextStateSets_2 m x sig a31 (by assumption) (by omega) hm) a31 (by assumption)) (.skip _ _ (.skip _ _ (.skip _ _ .nil))) rfl) rfl rfl ?_
  refine Ch.s (.agg [(.row 14000), (.row 14001)]) (.pure (.extract _ rfl rfl rfl)) (Ch.s (.d (.bool (setsOk x (onQ x sig 0) (offQ x sig 0)))) (.pure (.extract _ rfl rfl rfl)) (Ch.s .junk (.storePtr _ _ _ rfl rfl rfl (.agg _ rfl) sz29 (lb rfl)) (Ch.s (.d (.bool (setsOk x (onQ x sig 0) (offQ x sig 0)))) pa (Ch.nil (T_ret ?_)))))
  exact endR [(.agg [(.row 14000), (.row 14001)]), (.d (.bool (setsOk x (onQ x sig 0) (offQ x sig 0))))] [] [14000, 14001] (.cons (.cellA _ _ rfl rfl ag29 sz29) (.cons (.tmp 5 rfl) .nil)) (.cons (.any _) (.cons (.any _) .nil)) (.tup (.cons (.agg (.cons (Exp.of (congrArg (D.slice true 1) a30) (.row rfl)) (.cons (Exp.of (congrArg (D.slice true 1) a30) (.row rfl)) .nil)) rfl) (.cons (Exp.of (congrArg D.bool a30) (.d _)) .nil))) rfl rfl

theorem sp_spec_l14Put (xs : List (List UInt8)) (u : List UInt8) (hn : xs.length ≤ 1000000) : Sp Tryz.prog 250 [(.slice false 1 (xs.map D.str)), (.str u)] [.any, .any] (.slice true 1 ((put14 xs u).map D.str)) := by
 refine Sp_intro (lend := true) Tryz.func250 rfl rfl rfl (fun _ => rfl) (fun c hc hX => ?_)
 refine T_seq (T_region hc (Ch.s (.c (.slice none 0 0)) pa (Ch.nil (T_seq (T_region hc (Ch.s (.d (.int .i64 0)) pa (Ch.nil ?_)))))))
 refine T_seq (T_block ?_)
 refine T_loop (ι := Nat) (fun k => { n := 31, sl := [(0, (.d (.slice false 1 (xs.map D.str)))), (1, (.d (.str u))), (5, (.d (.int .i64 (k : Int))))], hp := [], pin := [] }) (fun k => k ≤ xs.length ∧ ∀ j, j < k → Op.bytesLess (xs.getD j default) u = true) (fun k => xs.length - k) ⟨0, ⟨by omega, fun j hj => by omega⟩, (Wk.of rfl rfl (ai rfl (ai rfl (ai (vI a93) trivial))) trivial)⟩ (fun k hp0 => ?_)
 refine T_seq (T_seq (T_region hc (Ch.s (.d (.int .i64 (k : Int))) pm (Ch.s (.d (.slice false 1 (xs.map D.str))) pm (Ch.s (.d (.int .i64 (xs.length : Int))) (.pure (.len _ _ 9 rfl Tryz.underlying23 (.sh _ _) (by simp))) (Ch.s (.d (.bool (decide ((k : Int) < (xs.length : Int))))) (iX rfl rfl rfl) (Ch.s (.d (.bool (decide ((k : Int) < (xs.length : Int))))) pm ?_)))))))
 cases h1 : (decide ((k : Int) < (xs.length : Int))) with
 | true =>
  replace h1 := of_decide_eq_true h1
  refine Ch.s (.d (.slice false 1 (xs.map D.str))) pm (Ch.s (.d (.int .i64 (k : Int))) pm (Ch.s (.d (.ref (.str (xs.getD k default)))) (.pure (.idx _ _ _ 9 (k) rfl Tryz.underlying23 sz9 rfl rfl rfl get_mapA)) (Ch.s (.d (.str (xs.getD k default))) (.pure (.loadRef1 _ _ rfl ag9 rfl rfl)) (Ch.s (.d (.str u)) pm (Ch.s (.d (.bool (Op.bytesLess (xs.getD k default) u))) (.pure (.str _ _ _ _ _ rfl rfl rfl rfl)) (Ch.s (.d (.bool (Op.bytesLess (xs.getD k default) u))) (.pure (.pickT _ _ _ rfl rfl rfl)) (Ch.nil ?_)))))))
  refine T_cond (b := (Op.bytesLess (xs.getD k default) u)) rfl (fun h2 => ?_) (fun h2 => ?_)
  ·
   refine T_skip (T_block (T_region hc (Ch.s (.d (.int .i64 (k : Int))) pm (Ch.s (.d (.int .i64 ((k : Int) + 1))) (iX rfl rfl intV_addA) (Ch.s (.d (.int .i64 ((k : Int) + 1))) pa (Ch.nil ?_))))))
   exact nx (k + 1) ⟨by omega, upto_succ hp0.2 (by assumption)⟩ (Wk.of rfl rfl (ai rfl (ai rfl (ai (vI a93) trivial))) trivial)
  ·
   refine T_exit (T_seq ?_)
   refine T_regionD hc (by kernel_rfl) ?_
   refine ChD.s (.d (.slice false 1 (xs.map D.str))) [] pm (ChD.s (.d (.int .i64 (k : Int))) [] pm (ChD.s (.d (.slice false 1 ((xs.take k).map D.str))) [] (.pure (.sliceSh _ _ _ _ 9 (0) (k) rfl Tryz.underlying23 sz9 rfl (bndN rfl) (bndS rfl rfl) (by simp <;> omega) (by simp <;> omega) a66)) (ChD.s (.row 23000) [] (.call 23000 183 _ _ _ en183 rfl (.inl rfl) (.cons (.d _) .nil) rfl (sol (solid_row (fun _ => rfl) _) rfl) (sp_spec_l1OwnS (xs.take k) a17) (.skip _ _ .nil) rfl) (ChD.s (.d (.str u)) [] pm (ChD.s (.row 25000) [] (.slice 25000 _ 9 _ rfl sty23 (xs := [.tmp 24]) rfl rfl (.cons (.d _) .nil) rfl rfl (by decide)) (ChD.s (.row 26000) [23000, 25000] (.append 26000 _ _ _ 9 rfl sty23 (by decide) (.rowK rfl) (.inr ⟨_, rfl, rfl⟩) (.row rfl rfl) rfl a51) (ChD.s (.d (.slice false 1 (xs.map D.str))) [] pm ?_)))))))
   refine ChD.s (.d (.int .i64 (k : Int))) [] pm (ChD.s (.d (.slice false 1 ((xs.drop k).map D.str))) [] (.pure (.sliceSh _ _ _ _ 9 (k) ((xs.map D.str).length) rfl Tryz.underlying23 sz9 rfl (bndS rfl rfl) (bndN rfl) (by simp <;> omega) (by simp <;> omega) a66)) (ChD.s (.row 30000) [26000] (.append 30000 _ _ _ 9 rfl sty23 (by decide) (.rowK rfl) (.inr ⟨_, rfl, rfl⟩) (.sh _ _) rfl a51) (ChD.s (.row 30000) [] pa ?_)))
   refine ChD.nil (And.intro ?_ (by kernel_rfl))
   refine T_ret ?_
   exact endR [(.row 30000)] [] [30000] (.cons (.tmp 4 rfl) .nil) (.cons (.any _) (.cons (.any _) .nil)) (Exp.of (congrArg (D.slice true 1) a40) (.row rfl)) rfl rfl
 | false =>
  replace h1 := of_decide_eq_false h1
  refine Ch.skip rfl rfl (Ch.skip rfl rfl (Ch.skip rfl rfl (Ch.skip rfl rfl (Ch.skip rfl rfl (Ch.skip rfl rfl (Ch.s (.d (.bool false)) (.pure (.pickF _ _ _ rfl rfl rfl)) (Ch.nil ?_)))))))
  refine T_cond (b := false) rfl (fun h => nomatch h) (fun _ => ?_)
  refine T_exit (T_seq ?_)
  refine T_regionD hc (by kernel_rfl) ?_
  refine ChD.s (.d (.slice false 1 (xs.map D.str))) [] pm (ChD.s (.d (.int .i64 (k : Int))) [] pm (ChD.s (.d (.slice false 1 ((xs.take k).map D.str))) [] (.pure (.sliceSh _ _ _ _ 9 (0) (k) rfl Tryz.underlying23 sz9 rfl (bndN rfl) (bndS rfl rfl) (by simp <;> omega) (by simp <;> omega) a66)) (ChD.s (.row 23000) [] (.call 23000 183 _ _ _ en183 rfl (.inl rfl) (.cons (.d _) .nil) rfl (sol (solid_row (fun _ => rfl) _) rfl) (sp_spec_l1OwnS (xs.take k) a17) (.skip _ _ .nil) rfl) (ChD.s (.d (.str u)) [] pm (ChD.s (.row 25000) [] (.slice 25000 _ 9 _ rfl sty23 (xs := [.tmp 24]) rfl rfl (.cons (.d _) .nil) rfl rfl (by decide)) (ChD.s (.row 26000) [23000, 25000] (.append 26000 _ _ _ 9 rfl sty23 (by decide) (.rowK rfl) (.inr ⟨_, rfl, rfl⟩) (.row rfl rfl) rfl a51) (ChD.s (.d (.slice false 1 (xs.map D.str))) [] pm ?_)))))))
  refine ChD.s (.d (.int .i64 (k : Int))) [] pm (ChD.s (.d (.slice false 1 ((xs.drop k).map D.str))) [] (.pure (.sliceSh _ _ _ _ 9 (k) ((xs.map D.str).length) rfl Tryz.underlying23 sz9 rfl (bndS rfl rfl) (bndN rfl) (by simp <;> omega) (by simp <;> omega) a66)) (ChD.s (.row 30000) [26000] (.append 30000 _ _ _ 9 rfl sty23 (by decide) (.rowK rfl) (.inr ⟨_, rfl, rfl⟩) (.sh _ _) rfl a51) (ChD.s (.row 30000) [] pa ?_)))
  refine ChD.nil (And.intro ?_ (by kernel_rfl))
  refine T_ret ?_
  exact endR [(.row 30000)] [] [30000] (.cons (.tmp 4 rfl) .nil) (.cons (.any _) (.cons (.any _) .nil)) (Exp.of (congrArg (D.slice true 1) a40) (.row rfl)) rfl rfl

theorem sp_spec_l15Put (xs : List (List UInt8)) (u : List UInt8) (hn : xs.length ≤ 1000000) : Sp Tryz.prog 204 [(.slice true 1 (xs.map D.str)), (.str u)] [.any, .any] (.slice true 1 ((put15 xs u).map D.str)) := by
 refine Sp_intro (lend := false) Tryz.func204 rfl rfl rfl (fun h => nomatch h) (fun c hc hX => ?_)
 refine T_seq (T_region hc (Ch.s (.c (.slice none 0 0)) pa (Ch.nil (T_seq (T_seq (T_region hc (Ch.s (.row 1) pm ?_)))))))
 refine Ch.s (.d (.str u)) pm (Ch.s (.d (.bool (hasS xs u))) (.call 7000 79 _ _ _ en79 rfl (.inl rfl) (.cons (.lend (.row rfl (frozs_map (fun _ => rfl) _))) (.cons (.d _) .nil)) rfl rfl (sp_spec_l1HasS xs u a17) (.skip _ _ (.skip _ _ .nil)) rfl) (Ch.nil ?_))
 refine T_cond (b := (hasS xs u)) rfl (fun h1 => ?_) (fun h1 => ?_)
 ·
  refine T_seq (T_region hc (Ch.s (.row 1) pm (Ch.s (.row 1) pa (Ch.nil (T_ret ?_)))))
  exact endR [(.row 1)] [] [1] (.cons (.tmp 4 rfl) .nil) (.cons (.any _) (.cons (.any _) .nil)) (Exp.of (congrArg (D.slice true 1) a90) (.row rfl)) rfl rfl
 ·
  refine T_skip (T_seq (T_region hc (Ch.s (.row 1) pm (Ch.s (.d (.str u)) pm ?_))))
  refine Ch.step (v := (.row 11000)) rfl (.call 11000 250 _ _ _ en250 rfl (.inl rfl) (.cons (.lend (.row rfl (frozs_map (fun _ => rfl) _))) (.cons (.d _) .nil)) rfl (sol (solid_row (fun _ => rfl) _) rfl) (sp_spec_l14Put xs u a31) (.skip _ _ (.skip _ _ .nil)) rfl) rfl rfl ?_
  refine Ch.s (.row 11000) pa (Ch.nil (T_ret ?_))
  exact endR [(.row 11000)] [] [11000] (.cons (.tmp 4 rfl) .nil) (.cons (.any _) (.cons (.any _) .nil)) (Exp.of (congrArg (D.slice true 1) a90) (.row rfl)) rfl rfl

set_option maxHeartbeats 2000000 in
theorem sp_spec_l15Sets (x : Sgr) (sig : Int) (w : List UInt8) (hb : x.bulk ≤ 1048576) (hx : SgOk x) (hs : 0 ≤ sig ∧ sig.toNat < x.sigs.length) : Sp Tryz.prog 135 [(.agg [(.slice false 2 (x.sigs.map Sgn.d)), (.slice false 1 (x.codes.map D.str)), (.slice false 4 (x.arcs.map Arc.d))]), (.int .i64 sig), (.str w)] [.any, .any, .any] (.agg [(.slice true 1 ((osL x (onQ x sig (wayN w))).map D.str)), (.slice true 1 ((osL x (offQ x sig (wayN w))).map D.str))]) := by
 refine Sp_intro (lend := true) Tryz.func135 rfl rfl rfl (fun _ => rfl) (fun c hc hX => ?_)
 obtain ⟨hp0, hp1, hp2⟩ := Sgr.parts hb
 have hn0 := bulkF_len hp0
 have hn1 := bulk_len hp1
 have hx1 := bulk_mem hp1
 have hn2 := bulkF_len hp2; have hxl := hx.len; have hxf := hx.few; have hck := codes_at hx.codes
 refine T_seq (T_region hc (Ch.s (.ptr 3000 0) (.box 3000 _ _ rfl (.aggD _)) (Ch.s (.ptr 6000 0) (.alloc 6000 _ rfl zer29) (Ch.nil (T_seq (T_region hc (Ch.s (.ptr 7000 0) (.alloc 7000 _ rfl zer29) ?_)))))))
 refine Ch.nil (T_seq (T_seq (T_region hc (Ch.s (.ptr 3000 1) (.pure (.fldPtr _ _ _ rfl fld35_1 rfl)) (Ch.s (.d (.slice false 1 (x.codes.map D.str))) (.pure (.loadPtr1 _ _ rfl ag23 rfl rfl rfl)) (Ch.s (.d (.int .i64 (x.codes.length : Int))) (.pure (.len _ _ 9 rfl Tryz.underlying23 (.sh _ _) (by simp))) (Ch.s (.d (.int .i64 0)) pm ?_)))))))
 refine Ch.nil (T_block ?_)
 refine T_loop (ι := Nat) (fun k => { n := 69, sl := [(1, (.d (.int .i64 sig))), (2, (.d (.str w))), (3, (.ptr 3000 0)), (6, (.ptr 6000 0)), (7, (.ptr 7000 0)), (15, (.d (.slice false 1 (x.codes.map D.str)))), (16, (.d (.int .i64 (x.codes.length : Int)))), (17, (.d (.int .i64 (k : Int))))], hp := [(3000, (some (.box (vX x)))), (6000, (some (.box [(.c (.slice none 0 0)), (.c (.slice none 0 0))]))), (7000, (some (.box [(.row 7700), (.row 7701)]))), (7700, (some (.row 1 ((osTo x (onQ x sig (wayN w)) k).map D.str)))), (7701, (some (.row 1 ((osTo x (offQ x sig (wayN w)) k).map D.str))))], pin := [] }) (fun k => k ≤ x.codes.length) (fun k => x.codes.length - k) ⟨0, (by omega), (Wk.trans (Wk.nilcell 7000 0 980000 1 rfl rfl rfl) (Wk.trans (Wk.nilcell 7000 1 980001 1 rfl rfl rfl) (Wk.ren [(7700, 980000), (7701, 980001)] rfl rfl rfl rfl (ai rfl (ai rfl (ai rfl (ai rfl (ai rfl (ai rfl (ai rfl (ai (vI a93) trivial)))))))) (ai rfl (ai rfl (ai (oB (Eq.trans (b := [(.row 980000), (.row 980001)]) rfl (by rfl))) (ai (oR a22) (ai (oR a22) trivial))))))))⟩ (fun k hp0 => ?_)
 have hpk := osTo_le x (onQ x sig (wayN w)) k; have hqk := osTo_le x (offQ x sig (wayN w)) k
 refine T_seq (T_region hc (Ch.s (.d (.bool (decide ((k : Int) < (x.codes.length : Int))))) (iX rfl rfl rfl) (Ch.nil (T_seq ?_))))
 refine T_condD (p := ((k : Int) < (x.codes.length : Int))) rfl (fun h1 => ?_) (fun h1 => ?_)
 ·
  try have hlk : (x.codes.getD k default).length = x.sigs.length := (hck (k : Int) (by omega) (by omega)).2
  refine T_skip (T_seq (T_block (T_seq (T_region hc (Ch.s (.d (.int .i64 (k : Int))) pm (Ch.s (.d (.ref (.str (x.codes.getD k default)))) (.pure (.idx _ _ _ 9 (k) rfl Tryz.underlying23 sz9 rfl rfl rfl get_mapA)) (Ch.s (.d (.str (x.codes.getD k default))) (.pure (.loadRef1 _ _ rfl ag9 rfl rfl)) ?_)))))))
  refine Ch.s (.d (.int .i64 (k : Int))) pa (Ch.s (.d (.str (x.codes.getD k default))) pa (Ch.nil (T_seq ?_)))
  refine T_regionD hc (by kernel_rfl) ?_
  refine ChD.s (.d (.str (x.codes.getD k default))) [] pm (ChD.s (.d (.int .i64 sig)) [] pm (ChD.s (.d (.int .u8 (((x.codes.getD k default).getD ((sig).toNat) 0).toNat : Int))) [] (.pure (.idxStr _ _ _ ((sig).toNat) rfl Tryz.underlying9 rfl rfl (by omega) get_strA)) (ChD.s (.d (.bool (decide ((((x.codes.getD k default).getD ((sig).toNat) 0) : UInt8) = 49)))) [] (iX rfl rfl (u8_eql (((x.codes.getD k default).getD ((sig).toNat) 0) : UInt8) 49 rfl rfl)) (ChD.s (.agg (vX x)) [3000] (.pure (.loadPtrA _ _ rfl ag35 sz35 rfl rfl (lb rfl) rfl)) (ChD.s (.d (.int .i64 (k : Int))) [] pm (ChD.s (.d (.int .i64 sig)) [] pm (ChD.s (.d (.bool (excB x (k : Int) sig))) [] (.call 29000 158 _ _ _ en158 rfl (.inl rfl) (.cons lX (.cons (.d _) (.cons (.d _) .nil))) rfl rfl (sp_spec_l5Excited x (k : Int) sig a31) (.skip _ _ (.skip _ _ (.skip _ _ .nil))) rfl) ?_)))))))
  refine ChD.s (.d (.bool (decide ((((x.codes.getD k default).getD ((sig).toNat) 0) : UInt8) = 49)))) [] pa (ChD.s (.d (.bool (excB x (k : Int) sig))) [] pa ?_)
  refine ChD.nil (And.intro ?_ (by kernel_rfl))
  refine T_seq (T_region hc (Ch.s (.d (.bool (excB x (k : Int) sig))) pm (Ch.s (.d (.bool (decide ((((x.codes.getD k default).getD ((sig).toNat) 0) : UInt8) = 49)))) pm (Ch.s (.d (.bool (!(decide ((excB x (k : Int) sig) = (decide ((((x.codes.getD k default).getD ((sig).toNat) 0) : UInt8) = 49))))))) (.pure (.neB _ _ _ _ rfl Tryz.underlying4 rfl rfl)) (Ch.s (.d (.bool (excB x (k : Int) sig))) pm (Ch.s (.d (.bool (decide ((((x.codes.getD k default).getD ((sig).toNat) 0) : UInt8) = 49)))) pm (Ch.s (.d (.bool (decide ((excB x (k : Int) sig) = (decide ((((x.codes.getD k default).getD ((sig).toNat) 0) : UInt8) = 49)))))) (.pure (.eqB _ _ _ _ rfl Tryz.underlying4 rfl rfl)) ?_)))))))
  refine Ch.s (.d (.bool (!(decide ((excB x (k : Int) sig) = (decide ((((x.codes.getD k default).getD ((sig).toNat) 0) : UInt8) = 49))))))) pa (Ch.s (.d (.bool (decide ((excB x (k : Int) sig) = (decide ((((x.codes.getD k default).getD ((sig).toNat) 0) : UInt8) = 49)))))) pa (Ch.nil (T_seq (T_seq (T_region hc (Ch.s (.d (.str w)) pm (Ch.s (.d (.bool (decide (w = [117, 112])))) (.pure (.str _ _ _ _ _ rfl rfl rfl rfl)) ?_)))))))
  refine Ch.nil ?_
  refine T_condD (p := (w = [117, 112])) rfl (fun h2 => ?_) (fun h2 => ?_)
  ·
   refine T_region hc (Ch.s (.d (.bool (excB x (k : Int) sig))) pm (Ch.s (.d (.bool (excB x (k : Int) sig))) pm ?_))
   cases h3 : (excB x (k : Int) sig) with
   | true =>
    refine Ch.s (.d (.bool (decide ((((x.codes.getD k default).getD ((sig).toNat) 0) : UInt8) = 49)))) pm (Ch.s (.d (.bool (!(decide ((((x.codes.getD k default).getD ((sig).toNat) 0) : UInt8) = 49))))) (.pure (.not _ _ rfl rfl)) (Ch.s (.d (.bool (!(decide ((((x.codes.getD k default).getD ((sig).toNat) 0) : UInt8) = 49))))) (.pure (.pickT _ _ _ rfl rfl rfl)) (Ch.s (.d (.bool true)) pm (Ch.s (.d (.bool (decide ((((x.codes.getD k default).getD ((sig).toNat) 0) : UInt8) = 49)))) pm (Ch.s (.d (.bool (decide (true = (decide ((((x.codes.getD k default).getD ((sig).toNat) 0) : UInt8) = 49)))))) (.pure (.eqB _ _ _ _ rfl Tryz.underlying4 rfl rfl)) (Ch.s (.d (.bool (!(decide ((((x.codes.getD k default).getD ((sig).toNat) 0) : UInt8) = 49))))) pa (Ch.s (.d (.bool (decide (true = (decide ((((x.codes.getD k default).getD ((sig).toNat) 0) : UInt8) = 49)))))) pa ?_)))))))
    refine Ch.nil (T_seq (T_seq (T_region hc (Ch.s (.d (.str w)) pm (Ch.s (.d (.bool (decide (w = [100, 111, 119, 110])))) (.pure (.str _ _ _ _ _ rfl rfl rfl rfl)) (Ch.nil ?_))))))
    refine T_condD (p := (w = [100, 111, 119, 110])) rfl (fun h4 => ?_) (fun h4 => ?_)
    ·
     refine T_region hc (Ch.s (.d (.bool true)) pm (Ch.s (.d (.bool true)) pm (Ch.s (.d (.bool (decide ((((x.codes.getD k default).getD ((sig).toNat) 0) : UInt8) = 49)))) pm (Ch.s (.d (.bool (decide ((((x.codes.getD k default).getD ((sig).toNat) 0) : UInt8) = 49)))) (.pure (.pickT _ _ _ rfl rfl rfl)) (Ch.s (.d (.bool true)) pm (Ch.s (.d (.bool (decide ((((x.codes.getD k default).getD ((sig).toNat) 0) : UInt8) = 49)))) pm (Ch.s (.d (.bool (!(decide (true = (decide ((((x.codes.getD k default).getD ((sig).toNat) 0) : UInt8) = 49))))))) (.pure (.neB _ _ _ _ rfl Tryz.underlying4 rfl rfl)) ?_)))))))
     refine Ch.s (.d (.bool (decide ((((x.codes.getD k default).getD ((sig).toNat) 0) : UInt8) = 49)))) pa (Ch.s (.d (.bool (!(decide (true = (decide ((((x.codes.getD k default).getD ((sig).toNat) 0) : UInt8) = 49))))))) pa (Ch.nil (T_seq (T_seq (T_region hc (Ch.s (.d (.bool (decide ((((x.codes.getD k default).getD ((sig).toNat) 0) : UInt8) = 49)))) pm (Ch.nil ?_)))))))
     refine T_condD (p := ((((x.codes.getD k default).getD ((sig).toNat) 0) : UInt8) = 49)) rfl (fun h5 => ?_) (fun h5 => ?_)
     ·
      refine T_region hc (Ch.s (.ptr 7000 0) (.pure (.fldPtr _ _ _ rfl fld29_0 rfl)) (Ch.s (.row 7700) (.pure (.loadPtr1 _ _ rfl ag23 rfl rfl rfl)) (Ch.s (.d (.str (x.codes.getD k default))) pm ?_)))
      refine Ch.step (v := (.row 59000)) rfl (.call 59000 204 _ _ _ en204 rfl (.inl rfl) (.cons (.row rfl) (.cons (.d _) .nil)) rfl (sol (solid_row (fun _ => rfl) _) rfl) (sp_spec_l15Put (osTo x (onQ x sig (wayN w)) k) (x.codes.getD k default) a31) (.skip _ _ (.skip _ _ .nil)) rfl) rfl rfl ?_
      refine Ch.s (.ptr 7000 0) (.pure (.fldPtr _ _ _ rfl fld29_0 rfl)) (Ch.s .junk (.storePtr _ _ _ rfl rfl rfl (.one _ rfl) sz23 (lb rfl)) (Ch.nil (T_seq (T_region hc (Ch.s (.d (.bool (!(decide (true = (decide ((((x.codes.getD k default).getD ((sig).toNat) 0) : UInt8) = 49))))))) pm (Ch.nil ?_))))))
      refine T_condN (b := (decide (true = (decide ((((x.codes.getD k default).getD ((sig).toNat) 0) : UInt8) = 49))))) rfl (fun h6 => ?_) (fun h6 => ?_)
      ·
       replace h6 := of_decide_eq_false h6
       refine T_region hc (Ch.s (.ptr 7000 1) (.pure (.fldPtr _ _ _ rfl fld29_1 rfl)) (Ch.s (.row 7701) (.pure (.loadPtr1 _ _ rfl ag23 rfl rfl rfl)) (Ch.s (.d (.str (x.codes.getD k default))) pm ?_)))
       refine Ch.step (v := (.row 65000)) rfl (.call 65000 204 _ _ _ en204 rfl (.inl rfl) (.cons (.row rfl) (.cons (.d _) .nil)) rfl (sol (solid_row (fun _ => rfl) _) rfl) (sp_spec_l15Put (osTo x (offQ x sig (wayN w)) k) (x.codes.getD k default) a31) (.skip _ _ (.skip _ _ .nil)) rfl) rfl rfl ?_
       refine Ch.s (.ptr 7000 1) (.pure (.fldPtr _ _ _ rfl fld29_1 rfl)) (Ch.s .junk (.storePtr _ _ _ rfl rfl rfl (.one _ rfl) sz23 (lb rfl)) (Ch.nil (T_region hc (Ch.s (.d (.int .i64 ((k : Int) + 1))) (iX rfl rfl intV_addA) (Ch.s (.d (.int .i64 ((k : Int) + 1))) pm (Ch.nil ?_))))))
       exact nx (k + 1) (by omega) (Wk.ren [(7700, 59000), (7701, 65000)] rfl rfl rfl rfl (ai rfl (ai rfl (ai rfl (ai rfl (ai rfl (ai rfl (ai rfl (ai (vI a93) trivial)))))))) (ai rfl (ai rfl (ai (oB (Eq.trans (b := [(.row 59000), (.row 65000)]) rfl (by rfl))) (ai (oR a22) (ai (oR a22) trivial))))))
      ·
       replace h6 := of_decide_eq_true h6
       refine T_skip (T_region hc (Ch.s (.d (.int .i64 ((k : Int) + 1))) (iX rfl rfl intV_addA) (Ch.s (.d (.int .i64 ((k : Int) + 1))) pm (Ch.nil ?_))))
       exact nx (k + 1) (by omega) (Wk.ren [(7700, 59000)] rfl rfl rfl rfl (ai rfl (ai rfl (ai rfl (ai rfl (ai rfl (ai rfl (ai rfl (ai (vI a93) trivial)))))))) (ai rfl (ai rfl (ai (oB (Eq.trans (b := [(.row 59000), (.row 7701)]) rfl (by rfl))) (ai (oR a22) (ai (oR a22) trivial))))))
     ·
      refine T_skip (T_seq (T_region hc (Ch.s (.d (.bool (!(decide (true = (decide ((((x.codes.getD k default).getD ((sig).toNat) 0) : UInt8) = 49))))))) pm (Ch.nil ?_))))
      refine T_condN (b := (decide (true = (decide ((((x.codes.getD k default).getD ((sig).toNat) 0) : UInt8) = 49))))) rfl (fun h7 => ?_) (fun h7 => ?_)
      ·
       replace h7 := of_decide_eq_false h7
       refine T_region hc (Ch.s (.ptr 7000 1) (.pure (.fldPtr _ _ _ rfl fld29_1 rfl)) (Ch.s (.row 7701) (.pure (.loadPtr1 _ _ rfl ag23 rfl rfl rfl)) (Ch.s (.d (.str (x.codes.getD k default))) pm ?_)))
       refine Ch.step (v := (.row 65000)) rfl (.call 65000 204 _ _ _ en204 rfl (.inl rfl) (.cons (.row rfl) (.cons (.d _) .nil)) rfl (sol (solid_row (fun _ => rfl) _) rfl) (sp_spec_l15Put (osTo x (offQ x sig (wayN w)) k) (x.codes.getD k default) a31) (.skip _ _ (.skip _ _ .nil)) rfl) rfl rfl ?_
       refine Ch.s (.ptr 7000 1) (.pure (.fldPtr _ _ _ rfl fld29_1 rfl)) (Ch.s .junk (.storePtr _ _ _ rfl rfl rfl (.one _ rfl) sz23 (lb rfl)) (Ch.nil (T_region hc (Ch.s (.d (.int .i64 ((k : Int) + 1))) (iX rfl rfl intV_addA) (Ch.s (.d (.int .i64 ((k : Int) + 1))) pm (Ch.nil ?_))))))
       exact nx (k + 1) (by omega) (Wk.ren [(7701, 65000)] rfl rfl rfl rfl (ai rfl (ai rfl (ai rfl (ai rfl (ai rfl (ai rfl (ai rfl (ai (vI a93) trivial)))))))) (ai rfl (ai rfl (ai (oB (Eq.trans (b := [(.row 7700), (.row 65000)]) rfl (by rfl))) (ai (oR a22) (ai (oR a22) trivial))))))
      ·
       replace h7 := of_decide_eq_true h7
       refine T_skip (T_region hc (Ch.s (.d (.int .i64 ((k : Int) + 1))) (iX rfl rfl intV_addA) (Ch.s (.d (.int .i64 ((k : Int) + 1))) pm (Ch.nil ?_))))
       exact nx (k + 1) (by omega) (Wk.of rfl rfl (ai rfl (ai rfl (ai rfl (ai rfl (ai rfl (ai rfl (ai rfl (ai (vI a93) trivial)))))))) (ai rfl (ai rfl (ai rfl (ai (oR a22) (ai (oR a22) trivial))))))
    ·
     refine T_skip (T_seq (T_seq (T_region hc (Ch.s (.d (.bool (!(decide ((((x.codes.getD k default).getD ((sig).toNat) 0) : UInt8) = 49))))) pm (Ch.nil ?_)))))
     refine T_condN (b := (decide ((((x.codes.getD k default).getD ((sig).toNat) 0) : UInt8) = 49))) rfl (fun h8 => ?_) (fun h8 => ?_)
     ·
      replace h8 := of_decide_eq_false h8
      refine T_region hc (Ch.s (.ptr 7000 0) (.pure (.fldPtr _ _ _ rfl fld29_0 rfl)) (Ch.s (.row 7700) (.pure (.loadPtr1 _ _ rfl ag23 rfl rfl rfl)) (Ch.s (.d (.str (x.codes.getD k default))) pm ?_)))
      refine Ch.step (v := (.row 59000)) rfl (.call 59000 204 _ _ _ en204 rfl (.inl rfl) (.cons (.row rfl) (.cons (.d _) .nil)) rfl (sol (solid_row (fun _ => rfl) _) rfl) (sp_spec_l15Put (osTo x (onQ x sig (wayN w)) k) (x.codes.getD k default) a31) (.skip _ _ (.skip _ _ .nil)) rfl) rfl rfl ?_
      refine Ch.s (.ptr 7000 0) (.pure (.fldPtr _ _ _ rfl fld29_0 rfl)) (Ch.s .junk (.storePtr _ _ _ rfl rfl rfl (.one _ rfl) sz23 (lb rfl)) (Ch.nil (T_seq (T_region hc (Ch.s (.d (.bool (decide (true = (decide ((((x.codes.getD k default).getD ((sig).toNat) 0) : UInt8) = 49)))))) pm (Ch.nil ?_))))))
      refine T_condD (p := (true = (decide ((((x.codes.getD k default).getD ((sig).toNat) 0) : UInt8) = 49)))) rfl (fun h9 => ?_) (fun h9 => ?_)
      ·
       refine T_region hc (Ch.s (.ptr 7000 1) (.pure (.fldPtr _ _ _ rfl fld29_1 rfl)) (Ch.s (.row 7701) (.pure (.loadPtr1 _ _ rfl ag23 rfl rfl rfl)) (Ch.s (.d (.str (x.codes.getD k default))) pm ?_)))
       refine Ch.step (v := (.row 65000)) rfl (.call 65000 204 _ _ _ en204 rfl (.inl rfl) (.cons (.row rfl) (.cons (.d _) .nil)) rfl (sol (solid_row (fun _ => rfl) _) rfl) (sp_spec_l15Put (osTo x (offQ x sig (wayN w)) k) (x.codes.getD k default) a31) (.skip _ _ (.skip _ _ .nil)) rfl) rfl rfl ?_
       refine Ch.s (.ptr 7000 1) (.pure (.fldPtr _ _ _ rfl fld29_1 rfl)) (Ch.s .junk (.storePtr _ _ _ rfl rfl rfl (.one _ rfl) sz23 (lb rfl)) (Ch.nil (T_region hc (Ch.s (.d (.int .i64 ((k : Int) + 1))) (iX rfl rfl intV_addA) (Ch.s (.d (.int .i64 ((k : Int) + 1))) pm (Ch.nil ?_))))))
       exact nx (k + 1) (by omega) (Wk.ren [(7700, 59000), (7701, 65000)] rfl rfl rfl rfl (ai rfl (ai rfl (ai rfl (ai rfl (ai rfl (ai rfl (ai rfl (ai (vI a93) trivial)))))))) (ai rfl (ai rfl (ai (oB (Eq.trans (b := [(.row 59000), (.row 65000)]) rfl (by rfl))) (ai (oR a22) (ai (oR a22) trivial))))))
      ·
       refine T_skip (T_region hc (Ch.s (.d (.int .i64 ((k : Int) + 1))) (iX rfl rfl intV_addA) (Ch.s (.d (.int .i64 ((k : Int) + 1))) pm (Ch.nil ?_))))
       exact nx (k + 1) (by omega) (Wk.ren [(7700, 59000)] rfl rfl rfl rfl (ai rfl (ai rfl (ai rfl (ai rfl (ai rfl (ai rfl (ai rfl (ai (vI a93) trivial)))))))) (ai rfl (ai rfl (ai (oB (Eq.trans (b := [(.row 59000), (.row 7701)]) rfl (by rfl))) (ai (oR a22) (ai (oR a22) trivial))))))
     ·
      replace h8 := of_decide_eq_true h8
      refine T_skip (T_seq (T_region hc (Ch.s (.d (.bool (decide (true = (decide ((((x.codes.getD k default).getD ((sig).toNat) 0) : UInt8) = 49)))))) pm (Ch.nil ?_))))
      refine T_condD (p := (true = (decide ((((x.codes.getD k default).getD ((sig).toNat) 0) : UInt8) = 49)))) rfl (fun h10 => ?_) (fun h10 => ?_)
      ·
       refine T_region hc (Ch.s (.ptr 7000 1) (.pure (.fldPtr _ _ _ rfl fld29_1 rfl)) (Ch.s (.row 7701) (.pure (.loadPtr1 _ _ rfl ag23 rfl rfl rfl)) (Ch.s (.d (.str (x.codes.getD k default))) pm ?_)))
       refine Ch.step (v := (.row 65000)) rfl (.call 65000 204 _ _ _ en204 rfl (.inl rfl) (.cons (.row rfl) (.cons (.d _) .nil)) rfl (sol (solid_row (fun _ => rfl) _) rfl) (sp_spec_l15Put (osTo x (offQ x sig (wayN w)) k) (x.codes.getD k default) a31) (.skip _ _ (.skip _ _ .nil)) rfl) rfl rfl ?_
       refine Ch.s (.ptr 7000 1) (.pure (.fldPtr _ _ _ rfl fld29_1 rfl)) (Ch.s .junk (.storePtr _ _ _ rfl rfl rfl (.one _ rfl) sz23 (lb rfl)) (Ch.nil (T_region hc (Ch.s (.d (.int .i64 ((k : Int) + 1))) (iX rfl rfl intV_addA) (Ch.s (.d (.int .i64 ((k : Int) + 1))) pm (Ch.nil ?_))))))
       exact nx (k + 1) (by omega) (Wk.ren [(7701, 65000)] rfl rfl rfl rfl (ai rfl (ai rfl (ai rfl (ai rfl (ai rfl (ai rfl (ai rfl (ai (vI a93) trivial)))))))) (ai rfl (ai rfl (ai (oB (Eq.trans (b := [(.row 7700), (.row 65000)]) rfl (by rfl))) (ai (oR a22) (ai (oR a22) trivial))))))
      ·
       refine T_skip (T_region hc (Ch.s (.d (.int .i64 ((k : Int) + 1))) (iX rfl rfl intV_addA) (Ch.s (.d (.int .i64 ((k : Int) + 1))) pm (Ch.nil ?_))))
       exact nx (k + 1) (by omega) (Wk.of rfl rfl (ai rfl (ai rfl (ai rfl (ai rfl (ai rfl (ai rfl (ai rfl (ai (vI a93) trivial)))))))) (ai rfl (ai rfl (ai rfl (ai (oR a22) (ai (oR a22) trivial))))))
   | false =>
    refine Ch.skip rfl rfl (Ch.skip rfl rfl (Ch.s (.d (.bool false)) (.pure (.pickF _ _ _ rfl rfl rfl)) (Ch.s (.d (.bool false)) pm (Ch.s (.d (.bool (decide ((((x.codes.getD k default).getD ((sig).toNat) 0) : UInt8) = 49)))) pm (Ch.s (.d (.bool (decide (false = (decide ((((x.codes.getD k default).getD ((sig).toNat) 0) : UInt8) = 49)))))) (.pure (.eqB _ _ _ _ rfl Tryz.underlying4 rfl rfl)) (Ch.s (.d (.bool false)) pa (Ch.s (.d (.bool (decide (false = (decide ((((x.codes.getD k default).getD ((sig).toNat) 0) : UInt8) = 49)))))) pa ?_)))))))
    refine Ch.nil (T_seq (T_seq (T_region hc (Ch.s (.d (.str w)) pm (Ch.s (.d (.bool (decide (w = [100, 111, 119, 110])))) (.pure (.str _ _ _ _ _ rfl rfl rfl rfl)) (Ch.nil ?_))))))
    refine T_condD (p := (w = [100, 111, 119, 110])) rfl (fun h11 => ?_) (fun h11 => ?_)
    ·
     refine T_region hc (Ch.s (.d (.bool false)) pm (Ch.s (.d (.bool false)) pm (Ch.skip rfl rfl (Ch.s (.d (.bool false)) (.pure (.pickF _ _ _ rfl rfl rfl)) (Ch.s (.d (.bool false)) pm (Ch.s (.d (.bool (decide ((((x.codes.getD k default).getD ((sig).toNat) 0) : UInt8) = 49)))) pm (Ch.s (.d (.bool (!(decide (false = (decide ((((x.codes.getD k default).getD ((sig).toNat) 0) : UInt8) = 49))))))) (.pure (.neB _ _ _ _ rfl Tryz.underlying4 rfl rfl)) ?_)))))))
     refine Ch.s (.d (.bool false)) pa (Ch.s (.d (.bool (!(decide (false = (decide ((((x.codes.getD k default).getD ((sig).toNat) 0) : UInt8) = 49))))))) pa (Ch.nil (T_seq (T_seq (T_region hc (Ch.s (.d (.bool false)) pm (Ch.nil ?_)))))))
     refine T_cond (b := false) rfl (fun h => nomatch h) (fun _ => ?_)
     refine T_skip (T_seq (T_region hc (Ch.s (.d (.bool (!(decide (false = (decide ((((x.codes.getD k default).getD ((sig).toNat) 0) : UInt8) = 49))))))) pm (Ch.nil ?_))))
     refine T_condN (b := (decide (false = (decide ((((x.codes.getD k default).getD ((sig).toNat) 0) : UInt8) = 49))))) rfl (fun h12 => ?_) (fun h12 => ?_)
     ·
      replace h12 := of_decide_eq_false h12
      refine T_region hc (Ch.s (.ptr 7000 1) (.pure (.fldPtr _ _ _ rfl fld29_1 rfl)) (Ch.s (.row 7701) (.pure (.loadPtr1 _ _ rfl ag23 rfl rfl rfl)) (Ch.s (.d (.str (x.codes.getD k default))) pm ?_)))
      refine Ch.step (v := (.row 65000)) rfl (.call 65000 204 _ _ _ en204 rfl (.inl rfl) (.cons (.row rfl) (.cons (.d _) .nil)) rfl (sol (solid_row (fun _ => rfl) _) rfl) (sp_spec_l15Put (osTo x (offQ x sig (wayN w)) k) (x.codes.getD k default) a31) (.skip _ _ (.skip _ _ .nil)) rfl) rfl rfl ?_
      refine Ch.s (.ptr 7000 1) (.pure (.fldPtr _ _ _ rfl fld29_1 rfl)) (Ch.s .junk (.storePtr _ _ _ rfl rfl rfl (.one _ rfl) sz23 (lb rfl)) (Ch.nil (T_region hc (Ch.s (.d (.int .i64 ((k : Int) + 1))) (iX rfl rfl intV_addA) (Ch.s (.d (.int .i64 ((k : Int) + 1))) pm (Ch.nil ?_))))))
      exact nx (k + 1) (by omega) (Wk.ren [(7701, 65000)] rfl rfl rfl rfl (ai rfl (ai rfl (ai rfl (ai rfl (ai rfl (ai rfl (ai rfl (ai (vI a93) trivial)))))))) (ai rfl (ai rfl (ai (oB (Eq.trans (b := [(.row 7700), (.row 65000)]) rfl (by rfl))) (ai (oR a22) (ai (oR a22) trivial))))))
     ·
      replace h12 := of_decide_eq_true h12
      refine T_skip (T_region hc (Ch.s (.d (.int .i64 ((k : Int) + 1))) (iX rfl rfl intV_addA) (Ch.s (.d (.int .i64 ((k : Int) + 1))) pm (Ch.nil ?_))))
      exact nx (k + 1) (by omega) (Wk.of rfl rfl (ai rfl (ai rfl (ai rfl (ai rfl (ai rfl (ai rfl (ai rfl (ai (vI a93) trivial)))))))) (ai rfl (ai rfl (ai rfl (ai (oR a22) (ai (oR a22) trivial))))))
    ·
     refine T_skip (T_seq (T_seq (T_region hc (Ch.s (.d (.bool false)) pm (Ch.nil ?_)))))
     refine T_cond (b := false) rfl (fun h => nomatch h) (fun _ => ?_)
     refine T_skip (T_seq (T_region hc (Ch.s (.d (.bool (decide (false = (decide ((((x.codes.getD k default).getD ((sig).toNat) 0) : UInt8) = 49)))))) pm (Ch.nil ?_))))
     refine T_condD (p := (false = (decide ((((x.codes.getD k default).getD ((sig).toNat) 0) : UInt8) = 49)))) rfl (fun h13 => ?_) (fun h13 => ?_)
     ·
      refine T_region hc (Ch.s (.ptr 7000 1) (.pure (.fldPtr _ _ _ rfl fld29_1 rfl)) (Ch.s (.row 7701) (.pure (.loadPtr1 _ _ rfl ag23 rfl rfl rfl)) (Ch.s (.d (.str (x.codes.getD k default))) pm ?_)))
      refine Ch.step (v := (.row 65000)) rfl (.call 65000 204 _ _ _ en204 rfl (.inl rfl) (.cons (.row rfl) (.cons (.d _) .nil)) rfl (sol (solid_row (fun _ => rfl) _) rfl) (sp_spec_l15Put (osTo x (offQ x sig (wayN w)) k) (x.codes.getD k default) a31) (.skip _ _ (.skip _ _ .nil)) rfl) rfl rfl ?_
      refine Ch.s (.ptr 7000 1) (.pure (.fldPtr _ _ _ rfl fld29_1 rfl)) (Ch.s .junk (.storePtr _ _ _ rfl rfl rfl (.one _ rfl) sz23 (lb rfl)) (Ch.nil (T_region hc (Ch.s (.d (.int .i64 ((k : Int) + 1))) (iX rfl rfl intV_addA) (Ch.s (.d (.int .i64 ((k : Int) + 1))) pm (Ch.nil ?_))))))
      exact nx (k + 1) (by omega) (Wk.ren [(7701, 65000)] rfl rfl rfl rfl (ai rfl (ai rfl (ai rfl (ai rfl (ai rfl (ai rfl (ai rfl (ai (vI a93) trivial)))))))) (ai rfl (ai rfl (ai (oB (Eq.trans (b := [(.row 7700), (.row 65000)]) rfl (by rfl))) (ai (oR a22) (ai (oR a22) trivial))))))
     ·
      refine T_skip (T_region hc (Ch.s (.d (.int .i64 ((k : Int) + 1))) (iX rfl rfl intV_addA) (Ch.s (.d (.int .i64 ((k : Int) + 1))) pm (Ch.nil ?_))))
      exact nx (k + 1) (by omega) (Wk.of rfl rfl (ai rfl (ai rfl (ai rfl (ai rfl (ai rfl (ai rfl (ai rfl (ai (vI a93) trivial)))))))) (ai rfl (ai rfl (ai rfl (ai (oR a22) (ai (oR a22) trivial))))))
  ·
   refine T_skip (T_seq (T_seq (T_region hc (Ch.s (.d (.str w)) pm (Ch.s (.d (.bool (decide (w = [100, 111, 119, 110])))) (.pure (.str _ _ _ _ _ rfl rfl rfl rfl)) (Ch.nil ?_))))))
   refine T_condD (p := (w = [100, 111, 119, 110])) rfl (fun h14 => ?_) (fun h14 => ?_)
   ·
    refine T_region hc (Ch.s (.d (.bool (excB x (k : Int) sig))) pm (Ch.s (.d (.bool (excB x (k : Int) sig))) pm ?_))
    cases h15 : (excB x (k : Int) sig) with
    | true =>
     refine Ch.s (.d (.bool (decide ((((x.codes.getD k default).getD ((sig).toNat) 0) : UInt8) = 49)))) pm (Ch.s (.d (.bool (decide ((((x.codes.getD k default).getD ((sig).toNat) 0) : UInt8) = 49)))) (.pure (.pickT _ _ _ rfl rfl rfl)) (Ch.s (.d (.bool true)) pm (Ch.s (.d (.bool (decide ((((x.codes.getD k default).getD ((sig).toNat) 0) : UInt8) = 49)))) pm (Ch.s (.d (.bool (!(decide (true = (decide ((((x.codes.getD k default).getD ((sig).toNat) 0) : UInt8) = 49))))))) (.pure (.neB _ _ _ _ rfl Tryz.underlying4 rfl rfl)) (Ch.s (.d (.bool (decide ((((x.codes.getD k default).getD ((sig).toNat) 0) : UInt8) = 49)))) pa (Ch.s (.d (.bool (!(decide (true = (decide ((((x.codes.getD k default).getD ((sig).toNat) 0) : UInt8) = 49))))))) pa (Ch.nil ?_)))))))
     refine T_seq (T_seq (T_region hc (Ch.s (.d (.bool (decide ((((x.codes.getD k default).getD ((sig).toNat) 0) : UInt8) = 49)))) pm (Ch.nil ?_))))
     refine T_condD (p := ((((x.codes.getD k default).getD ((sig).toNat) 0) : UInt8) = 49)) rfl (fun h16 => ?_) (fun h16 => ?_)
     ·
      refine T_region hc (Ch.s (.ptr 7000 0) (.pure (.fldPtr _ _ _ rfl fld29_0 rfl)) (Ch.s (.row 7700) (.pure (.loadPtr1 _ _ rfl ag23 rfl rfl rfl)) (Ch.s (.d (.str (x.codes.getD k default))) pm ?_)))
      refine Ch.step (v := (.row 59000)) rfl (.call 59000 204 _ _ _ en204 rfl (.inl rfl) (.cons (.row rfl) (.cons (.d _) .nil)) rfl (sol (solid_row (fun _ => rfl) _) rfl) (sp_spec_l15Put (osTo x (onQ x sig (wayN w)) k) (x.codes.getD k default) a31) (.skip _ _ (.skip _ _ .nil)) rfl) rfl rfl ?_
      refine Ch.s (.ptr 7000 0) (.pure (.fldPtr _ _ _ rfl fld29_0 rfl)) (Ch.s .junk (.storePtr _ _ _ rfl rfl rfl (.one _ rfl) sz23 (lb rfl)) (Ch.nil (T_seq (T_region hc (Ch.s (.d (.bool (!(decide (true = (decide ((((x.codes.getD k default).getD ((sig).toNat) 0) : UInt8) = 49))))))) pm (Ch.nil ?_))))))
      refine T_condN (b := (decide (true = (decide ((((x.codes.getD k default).getD ((sig).toNat) 0) : UInt8) = 49))))) rfl (fun h17 => ?_) (fun h17 => ?_)
      ·
       replace h17 := of_decide_eq_false h17
       refine T_region hc (Ch.s (.ptr 7000 1) (.pure (.fldPtr _ _ _ rfl fld29_1 rfl)) (Ch.s (.row 7701) (.pure (.loadPtr1 _ _ rfl ag23 rfl rfl rfl)) (Ch.s (.d (.str (x.codes.getD k default))) pm ?_)))
       refine Ch.step (v := (.row 65000)) rfl (.call 65000 204 _ _ _ en204 rfl (.inl rfl) (.cons (.row rfl) (.cons (.d _) .nil)) rfl (sol (solid_row (fun _ => rfl) _) rfl) (sp_spec_l15Put (osTo x (offQ x sig (wayN w)) k) (x.codes.getD k default) a31) (.skip _ _ (.skip _ _ .nil)) rfl) rfl rfl ?_
       refine Ch.s (.ptr 7000 1) (.pure (.fldPtr _ _ _ rfl fld29_1 rfl)) (Ch.s .junk (.storePtr _ _ _ rfl rfl rfl (.one _ rfl) sz23 (lb rfl)) (Ch.nil (T_region hc (Ch.s (.d (.int .i64 ((k : Int) + 1))) (iX rfl rfl intV_addA) (Ch.s (.d (.int .i64 ((k : Int) + 1))) pm (Ch.nil ?_))))))
       exact nx (k + 1) (by omega) (Wk.ren [(7700, 59000), (7701, 65000)] rfl rfl rfl rfl (ai rfl (ai rfl (ai rfl (ai rfl (ai rfl (ai rfl (ai rfl (ai (vI a93) trivial)))))))) (ai rfl (ai rfl (ai (oB (Eq.trans (b := [(.row 59000), (.row 65000)]) rfl (by rfl))) (ai (oR a22) (ai (oR a22) trivial))))))
      ·
       replace h17 := of_decide_eq_true h17
       refine T_skip (T_region hc (Ch.s (.d (.int .i64 ((k : Int) + 1))) (iX rfl rfl intV_addA) (Ch.s (.d (.int .i64 ((k : Int) + 1))) pm (Ch.nil ?_))))
       exact nx (k + 1) (by omega) (Wk.ren [(7700, 59000)] rfl rfl rfl rfl (ai rfl (ai rfl (ai rfl (ai rfl (ai rfl (ai rfl (ai rfl (ai (vI a93) trivial)))))))) (ai rfl (ai rfl (ai (oB (Eq.trans (b := [(.row 59000), (.row 7701)]) rfl (by rfl))) (ai (oR a22) (ai (oR a22) trivial))))))
     ·
      refine T_skip (T_seq (T_region hc (Ch.s (.d (.bool (!(decide (true = (decide ((((x.codes.getD k default).getD ((sig).toNat) 0) : UInt8) = 49))))))) pm (Ch.nil ?_))))
      refine T_condN (b := (decide (true = (decide ((((x.codes.getD k default).getD ((sig).toNat) 0) : UInt8) = 49))))) rfl (fun h18 => ?_) (fun h18 => ?_)
      ·
       replace h18 := of_decide_eq_false h18
       refine T_region hc (Ch.s (.ptr 7000 1) (.pure (.fldPtr _ _ _ rfl fld29_1 rfl)) (Ch.s (.row 7701) (.pure (.loadPtr1 _ _ rfl ag23 rfl rfl rfl)) (Ch.s (.d (.str (x.codes.getD k default))) pm ?_)))
       refine Ch.step (v := (.row 65000)) rfl (.call 65000 204 _ _ _ en204 rfl (.inl rfl) (.cons (.row rfl) (.cons (.d _) .nil)) rfl (sol (solid_row (fun _ => rfl) _) rfl) (sp_spec_l15Put (osTo x (offQ x sig (wayN w)) k) (x.codes.getD k default) a31) (.skip _ _ (.skip _ _ .nil)) rfl) rfl rfl ?_
       refine Ch.s (.ptr 7000 1) (.pure (.fldPtr _ _ _ rfl fld29_1 rfl)) (Ch.s .junk (.storePtr _ _ _ rfl rfl rfl (.one _ rfl) sz23 (lb rfl)) (Ch.nil (T_region hc (Ch.s (.d (.int .i64 ((k : Int) + 1))) (iX rfl rfl intV_addA) (Ch.s (.d (.int .i64 ((k : Int) + 1))) pm (Ch.nil ?_))))))
       exact nx (k + 1) (by omega) (Wk.ren [(7701, 65000)] rfl rfl rfl rfl (ai rfl (ai rfl (ai rfl (ai rfl (ai rfl (ai rfl (ai rfl (ai (vI a93) trivial)))))))) (ai rfl (ai rfl (ai (oB (Eq.trans (b := [(.row 7700), (.row 65000)]) rfl (by rfl))) (ai (oR a22) (ai (oR a22) trivial))))))
      ·
       replace h18 := of_decide_eq_true h18
       refine T_skip (T_region hc (Ch.s (.d (.int .i64 ((k : Int) + 1))) (iX rfl rfl intV_addA) (Ch.s (.d (.int .i64 ((k : Int) + 1))) pm (Ch.nil ?_))))
       exact nx (k + 1) (by omega) (Wk.of rfl rfl (ai rfl (ai rfl (ai rfl (ai rfl (ai rfl (ai rfl (ai rfl (ai (vI a93) trivial)))))))) (ai rfl (ai rfl (ai rfl (ai (oR a22) (ai (oR a22) trivial))))))
    | false =>
     refine Ch.skip rfl rfl (Ch.s (.d (.bool false)) (.pure (.pickF _ _ _ rfl rfl rfl)) (Ch.s (.d (.bool false)) pm (Ch.s (.d (.bool (decide ((((x.codes.getD k default).getD ((sig).toNat) 0) : UInt8) = 49)))) pm (Ch.s (.d (.bool (!(decide (false = (decide ((((x.codes.getD k default).getD ((sig).toNat) 0) : UInt8) = 49))))))) (.pure (.neB _ _ _ _ rfl Tryz.underlying4 rfl rfl)) (Ch.s (.d (.bool false)) pa (Ch.s (.d (.bool (!(decide (false = (decide ((((x.codes.getD k default).getD ((sig).toNat) 0) : UInt8) = 49))))))) pa (Ch.nil ?_)))))))
     refine T_seq (T_seq (T_region hc (Ch.s (.d (.bool false)) pm (Ch.nil ?_))))
     refine T_cond (b := false) rfl (fun h => nomatch h) (fun _ => ?_)
     refine T_skip (T_seq (T_region hc (Ch.s (.d (.bool (!(decide (false = (decide ((((x.codes.getD k default).getD ((sig).toNat) 0) : UInt8) = 49))))))) pm (Ch.nil ?_))))
     refine T_condN (b := (decide (false = (decide ((((x.codes.getD k default).getD ((sig).toNat) 0) : UInt8) = 49))))) rfl (fun h19 => ?_) (fun h19 => ?_)
     ·
      replace h19 := of_decide_eq_false h19
      refine T_region hc (Ch.s (.ptr 7000 1) (.pure (.fldPtr _ _ _ rfl fld29_1 rfl)) (Ch.s (.row 7701) (.pure (.loadPtr1 _ _ rfl ag23 rfl rfl rfl)) (Ch.s (.d (.str (x.codes.getD k default))) pm ?_)))
      refine Ch.step (v := (.row 65000)) rfl (.call 65000 204 _ _ _ en204 rfl (.inl rfl) (.cons (.row rfl) (.cons (.d _) .nil)) rfl (sol (solid_row (fun _ => rfl) _) rfl) (sp_spec_l15Put (osTo x (offQ x sig (wayN w)) k) (x.codes.getD k default) a31) (.skip _ _ (.skip _ _ .nil)) rfl) rfl rfl ?_
      refine Ch.s (.ptr 7000 1) (.pure (.fldPtr _ _ _ rfl fld29_1 rfl)) (Ch.s .junk (.storePtr _ _ _ rfl rfl rfl (.one _ rfl) sz23 (lb rfl)) (Ch.nil (T_region hc (Ch.s (.d (.int .i64 ((k : Int) + 1))) (iX rfl rfl intV_addA) (Ch.s (.d (.int .i64 ((k : Int) + 1))) pm (Ch.nil ?_))))))
      exact nx (k + 1) (by omega) (Wk.ren [(7701, 65000)] rfl rfl rfl rfl (ai rfl (ai rfl (ai rfl (ai rfl (ai rfl (ai rfl (ai rfl (ai (vI a93) trivial)))))))) (ai rfl (ai rfl (ai (oB (Eq.trans (b := [(.row 7700), (.row 65000)]) rfl (by rfl))) (ai (oR a22) (ai (oR a22) trivial))))))
     ·
      replace h19 := of_decide_eq_true h19
      refine T_skip (T_region hc (Ch.s (.d (.int .i64 ((k : Int) + 1))) (iX rfl rfl intV_addA) (Ch.s (.d (.int .i64 ((k : Int) + 1))) pm (Ch.nil ?_))))
      exact nx (k + 1) (by omega) (Wk.of rfl rfl (ai rfl (ai rfl (ai rfl (ai rfl (ai rfl (ai rfl (ai rfl (ai (vI a93) trivial)))))))) (ai rfl (ai rfl (ai rfl (ai (oR a22) (ai (oR a22) trivial))))))
   ·
    refine T_skip (T_seq (T_seq (T_region hc (Ch.s (.d (.bool (!(decide ((excB x (k : Int) sig) = (decide ((((x.codes.getD k default).getD ((sig).toNat) 0) : UInt8) = 49))))))) pm (Ch.nil ?_)))))
    refine T_condN (b := (decide ((excB x (k : Int) sig) = (decide ((((x.codes.getD k default).getD ((sig).toNat) 0) : UInt8) = 49))))) rfl (fun h20 => ?_) (fun h20 => ?_)
    ·
     replace h20 := of_decide_eq_false h20
     refine T_region hc (Ch.s (.ptr 7000 0) (.pure (.fldPtr _ _ _ rfl fld29_0 rfl)) (Ch.s (.row 7700) (.pure (.loadPtr1 _ _ rfl ag23 rfl rfl rfl)) (Ch.s (.d (.str (x.codes.getD k default))) pm ?_)))
     refine Ch.step (v := (.row 59000)) rfl (.call 59000 204 _ _ _ en204 rfl (.inl rfl) (.cons (.row rfl) (.cons (.d _) .nil)) rfl (sol (solid_row (fun _ => rfl) _) rfl) (sp_spec_l15Put (osTo x (onQ x sig (wayN w)) k) (x.codes.getD k default) a31) (.skip _ _ (.skip _ _ .nil)) rfl) rfl rfl ?_
     refine Ch.s (.ptr 7000 0) (.pure (.fldPtr _ _ _ rfl fld29_0 rfl)) (Ch.s .junk (.storePtr _ _ _ rfl rfl rfl (.one _ rfl) sz23 (lb rfl)) (Ch.nil (T_seq (T_region hc (Ch.s (.d (.bool (decide ((excB x (k : Int) sig) = (decide ((((x.codes.getD k default).getD ((sig).toNat) 0) : UInt8) = 49)))))) pm (Ch.nil ?_))))))
     refine T_condD (p := ((excB x (k : Int) sig) = (decide ((((x.codes.getD k default).getD ((sig).toNat) 0) : UInt8) = 49)))) rfl (fun h21 => ?_) (fun h21 => ?_)
     ·
      refine T_region hc (Ch.s (.ptr 7000 1) (.pure (.fldPtr _ _ _ rfl fld29_1 rfl)) (Ch.s (.row 7701) (.pure (.loadPtr1 _ _ rfl ag23 rfl rfl rfl)) (Ch.s (.d (.str (x.codes.getD k default))) pm ?_)))
      refine Ch.step (v := (.row 65000)) rfl (.call 65000 204 _ _ _ en204 rfl (.inl rfl) (.cons (.row rfl) (.cons (.d _) .nil)) rfl (sol (solid_row (fun _ => rfl) _) rfl) (sp_spec_l15Put (osTo x (offQ x sig (wayN w)) k) (x.codes.getD k default) a31) (.skip _ _ (.skip _ _ .nil)) rfl) rfl rfl ?_
      refine Ch.s (.ptr 7000 1) (.pure (.fldPtr _ _ _ rfl fld29_1 rfl)) (Ch.s .junk (.storePtr _ _ _ rfl rfl rfl (.one _ rfl) sz23 (lb rfl)) (Ch.nil (T_region hc (Ch.s (.d (.int .i64 ((k : Int) + 1))) (iX rfl rfl intV_addA) (Ch.s (.d (.int .i64 ((k : Int) + 1))) pm (Ch.nil ?_))))))
      exact nx (k + 1) (by omega) (Wk.ren [(7700, 59000), (7701, 65000)] rfl rfl rfl rfl (ai rfl (ai rfl (ai rfl (ai rfl (ai rfl (ai rfl (ai rfl (ai (vI a93) trivial)))))))) (ai rfl (ai rfl (ai (oB (Eq.trans (b := [(.row 59000), (.row 65000)]) rfl (by rfl))) (ai (oR a22) (ai (oR a22) trivial))))))
     ·
      refine T_skip (T_region hc (Ch.s (.d (.int .i64 ((k : Int) + 1))) (iX rfl rfl intV_addA) (Ch.s (.d (.int .i64 ((k : Int) + 1))) pm (Ch.nil ?_))))
      exact nx (k + 1) (by omega) (Wk.ren [(7700, 59000)] rfl rfl rfl rfl (ai rfl (ai rfl (ai rfl (ai rfl (ai rfl (ai rfl (ai rfl (ai (vI a93) trivial)))))))) (ai rfl (ai rfl (ai (oB (Eq.trans (b := [(.row 59000), (.row 7701)]) rfl (by rfl))) (ai (oR a22) (ai (oR a22) trivial))))))
    ·
     replace h20 := of_decide_eq_true h20
     refine T_skip (T_seq (T_region hc (Ch.s (.d (.bool (decide ((excB x (k : Int) sig) = (decide ((((x.codes.getD k default).getD ((sig).toNat) 0) : UInt8) = 49)))))) pm (Ch.nil ?_))))
     refine T_condD (p := ((excB x (k : Int) sig) = (decide ((((x.codes.getD k default).getD ((sig).toNat) 0) : UInt8) = 49)))) rfl (fun h22 => ?_) (fun h22 => ?_)
     ·
      refine T_region hc (Ch.s (.ptr 7000 1) (.pure (.fldPtr _ _ _ rfl fld29_1 rfl)) (Ch.s (.row 7701) (.pure (.loadPtr1 _ _ rfl ag23 rfl rfl rfl)) (Ch.s (.d (.str (x.codes.getD k default))) pm ?_)))
      refine Ch.step (v := (.row 65000)) rfl (.call 65000 204 _ _ _ en204 rfl (.inl rfl) (.cons (.row rfl) (.cons (.d _) .nil)) rfl (sol (solid_row (fun _ => rfl) _) rfl) (sp_spec_l15Put (osTo x (offQ x sig (wayN w)) k) (x.codes.getD k default) a31) (.skip _ _ (.skip _ _ .nil)) rfl) rfl rfl ?_
      refine Ch.s (.ptr 7000 1) (.pure (.fldPtr _ _ _ rfl fld29_1 rfl)) (Ch.s .junk (.storePtr _ _ _ rfl rfl rfl (.one _ rfl) sz23 (lb rfl)) (Ch.nil (T_region hc (Ch.s (.d (.int .i64 ((k : Int) + 1))) (iX rfl rfl intV_addA) (Ch.s (.d (.int .i64 ((k : Int) + 1))) pm (Ch.nil ?_))))))
      exact nx (k + 1) (by omega) (Wk.ren [(7701, 65000)] rfl rfl rfl rfl (ai rfl (ai rfl (ai rfl (ai rfl (ai rfl (ai rfl (ai rfl (ai (vI a93) trivial)))))))) (ai rfl (ai rfl (ai (oB (Eq.trans (b := [(.row 7700), (.row 65000)]) rfl (by rfl))) (ai (oR a22) (ai (oR a22) trivial))))))
     ·
      refine T_skip (T_region hc (Ch.s (.d (.int .i64 ((k : Int) + 1))) (iX rfl rfl intV_addA) (Ch.s (.d (.int .i64 ((k : Int) + 1))) pm (Ch.nil ?_))))
      exact nx (k + 1) (by omega) (Wk.of rfl rfl (ai rfl (ai rfl (ai rfl (ai rfl (ai rfl (ai rfl (ai rfl (ai (vI a93) trivial)))))))) (ai rfl (ai rfl (ai rfl (ai (oR a22) (ai (oR a22) trivial))))))
 ·
  try have hlk : (x.codes.getD k default).length = x.sigs.length := (hck (k : Int) (by omega) (by omega)).2
  refine T_exit (T_seq (T_region hc (Ch.s (.agg [(.row 7700), (.row 7701)]) (.pure (.loadPtrA _ _ rfl ag29 sz29 rfl rfl (lb rfl) rfl)) (Ch.s .junk (.storePtr _ _ _ rfl rfl rfl (.agg _ rfl) sz29 (lb rfl)) (Ch.nil (T_ret ?_))))))
  exact endR [(.agg [(.row 7700), (.row 7701)])] [] [7700, 7701] (.cons (.cellA _ _ rfl rfl ag29 sz29) .nil) (.cons (.any _) (.cons (.any _) (.cons (.any _) .nil))) (.agg (.cons (Exp.of (congrArg (D.slice true 1) (by rw [osL, show x.codes.length = k by omega])) (.row rfl)) (.cons (Exp.of (congrArg (D.slice true 1) (by rw [osL, show x.codes.length = k by omega])) (.row rfl)) .nil)) rfl) rfl rfl

theorem sp_spec_l15Told (x : Sgr) (sig : Int) (w : List UInt8) (hb : x.bulk ≤ 1048576) : Sp Tryz.prog 69 [(.agg [(.slice false 2 (x.sigs.map Sgn.d)), (.slice false 1 (x.codes.map D.str)), (.slice false 4 (x.arcs.map Arc.d))]), (.int .i64 sig), (.str w)] [.any, .any, .any] (.tup [(.agg [(.slice true 1 ((osOn x sig (wayN w)).map D.str)), (.slice true 1 ((osOff x sig (wayN w)).map D.str))]), (.bool (osOk x sig (wayN w)))]) := by
 refine Sp_intro (lend := true) Tryz.func69 rfl rfl rfl (fun _ => rfl) (fun c hc hX => ?_)
 obtain ⟨hp0, hp1, hp2⟩ := Sgr.parts hb
 have hn0 := bulkF_len hp0
 have hn1 := bulk_len hp1
 have hx1 := bulk_mem hp1
 have hn2 := bulkF_len hp2
 refine T_seq (T_region hc (Ch.s (.ptr 3000 0) (.box 3000 _ _ rfl (.aggD _)) (Ch.s (.ptr 6000 0) (.alloc 6000 _ rfl zer29) (Ch.s (.d (.bool false)) pa (Ch.nil (T_seq (T_seq ?_)))))))
 refine T_region hc (Ch.s (.agg (vX x)) (.pure (.loadPtrA _ _ rfl ag35 sz35 rfl rfl (lb rfl) rfl)) (Ch.s (.d (.int .i64 sig)) pm (Ch.s (.d (.bool (outSig x sig))) (.call 11000 134 _ _ _ en134 rfl (.inl rfl) (.cons lX (.cons (.d _) .nil)) rfl rfl (sp_spec_l15Asked x sig a31) (.skip _ _ (.skip _ _ .nil)) rfl) (Ch.s (.d (.bool (!(outSig x sig)))) (.pure (.not _ _ rfl rfl)) (Ch.nil ?_)))))
 refine T_condN (b := (outSig x sig)) rfl (fun h1 => ?_) (fun h1 => ?_)
 ·
  try have hsr := outSig_has h1
  try have hx := sg_has hsr.1
  try have hsx := hsr.2
  try have hxl := hx.len
  try have hop : (osL x (onQ x sig (wayN w))).length ≤ x.codes.length := osTo_le x (onQ x sig (wayN w)) x.codes.length
  try have hoq : (osL x (offQ x sig (wayN w))).length ≤ x.codes.length := osTo_le x (offQ x sig (wayN w)) x.codes.length
  try have hpx : ∀ u ∈ osL x (onQ x sig (wayN w)), u.length ≤ 1048576 := fun u hu => hx1 u (osTo_in (Nat.le_refl _) u hu)
  try have hqx : ∀ u ∈ osL x (offQ x sig (wayN w)), u.length ≤ 1048576 := fun u hu => hx1 u (osTo_in (Nat.le_refl _) u hu)
  refine T_seq (T_region hc (Ch.s (.agg [(.c (.slice none 0 0)), (.c (.slice none 0 0))]) (.build _ _ rfl stru29 .nil rfl) (Ch.s .junk (.storePtr _ _ _ rfl rfl rfl (.agg _ rfl) sz29 (lb rfl)) (Ch.s (.d (.bool false)) pa (Ch.nil (T_ret ?_))))))
  exact endR [(.agg [(.c (.slice none 0 0)), (.c (.slice none 0 0))]), (.d (.bool false))] [] [] (.cons (.cellA _ _ rfl rfl ag29 sz29) (.cons (.tmp 7 rfl) .nil)) (.cons (.any _) (.cons (.any _) (.cons (.any _) .nil))) (.tup (.cons (.agg (.cons (Exp.of (congrArg (D.slice true 1) a7) (.nil true 1)) (.cons (Exp.of (congrArg (D.slice true 1) a7) (.nil true 1)) .nil)) rfl) (.cons (Exp.of (congrArg D.bool a7) (.d _)) .nil))) rfl rfl
 ·
  try have hsr := outSig_has h1
  try have hx := sg_has hsr.1
  try have hsx := hsr.2
  try have hxl := hx.len
  try have hop : (osL x (onQ x sig (wayN w))).length ≤ x.codes.length := osTo_le x (onQ x sig (wayN w)) x.codes.length
  try have hoq : (osL x (offQ x sig (wayN w))).length ≤ x.codes.length := osTo_le x (offQ x sig (wayN w)) x.codes.length
  try have hpx : ∀ u ∈ osL x (onQ x sig (wayN w)), u.length ≤ 1048576 := fun u hu => hx1 u (osTo_in (Nat.le_refl _) u hu)
  try have hqx : ∀ u ∈ osL x (offQ x sig (wayN w)), u.length ≤ 1048576 := fun u hu => hx1 u (osTo_in (Nat.le_refl _) u hu)
  refine T_skip (T_seq (T_region hc (Ch.s (.agg (vX x)) (.pure (.loadPtrA _ _ rfl ag35 sz35 rfl rfl (lb rfl) rfl)) (Ch.s (.d (.int .i64 sig)) pm (Ch.s (.d (.str w)) pm ?_)))))
  refine Ch.step (v := (.agg [(.row 17000), (.row 17001)])) rfl (.call 17000 135 _ _ _ en135 rfl (.inl rfl) (.cons lX (.cons (.d _) (.cons (.d _) .nil))) rfl (sol (by rw [D.solid]; exact solids_c (solid_row (fun _ => rfl) _) (solids_c (solid_row (fun _ => rfl) _) rfl)) rfl) (sp_spec_l15Sets x sig w a31 (by assumption) (by omega)) (.skip _ _ (.skip _ _ (.skip _ _ .nil))) rfl) rfl rfl ?_
  refine Ch.s (.ptr 8000 0) (.alloc 8000 _ rfl zer29) (Ch.s .junk (.storePtr _ _ _ rfl rfl rfl (.agg _ rfl) sz29 (lb rfl)) (Ch.nil (T_seq (T_seq (T_region hc (Ch.s (.ptr 3000 0) (.pure (.fldPtr _ _ _ rfl fld35_0 rfl)) (Ch.s (.d (.slice false 2 (x.sigs.map Sgn.d))) (.pure (.loadPtr1 _ _ rfl ag32 rfl rfl rfl)) ?_)))))))
  refine Ch.s (.d (.int .i64 (x.sigs.length : Int))) (.pure (.len _ _ 154 rfl Tryz.underlying32 (.sh _ _) (by simp))) (Ch.s (.ptr 8000 0) (.pure (.fldPtr _ _ _ rfl fld29_0 rfl)) (Ch.s (.row 17000) (.pure (.loadPtr1 _ _ rfl ag23 rfl rfl rfl)) (Ch.s (.ptr 8000 1) (.pure (.fldPtr _ _ _ rfl fld29_1 rfl)) (Ch.s (.row 17001) (.pure (.loadPtr1 _ _ rfl ag23 rfl rfl rfl)) (Ch.s (.d (.bool (onoffB (x.sigs.length : Int) (osL x (onQ x sig (wayN w))) (osL x (offQ x sig (wayN w)))))) (.call 25000 136 _ _ _ en136 rfl (.inl rfl) (.cons (.d _) (.cons (.lend (.row rfl (frozs_map (fun _ => rfl) _))) (.cons (.lend (.row rfl (frozs_map (fun _ => rfl) _))) .nil))) rfl rfl (sp_spec_l14Sets (x.sigs.length : Int) (osL x (onQ x sig (wayN w))) (osL x (offQ x sig (wayN w))) a17 a17 a17 a17) (.skip _ _ (.skip _ _ (.skip _ _ .nil))) rfl) (Ch.s (.d (.bool (!(onoffB (x.sigs.length : Int) (osL x (onQ x sig (wayN w))) (osL x (offQ x sig (wayN w))))))) (.pure (.not _ _ rfl rfl)) (Ch.nil ?_)))))))
  refine T_condN (b := (onoffB (x.sigs.length : Int) (osL x (onQ x sig (wayN w))) (osL x (offQ x sig (wayN w))))) rfl (fun h2 => ?_) (fun h2 => ?_)
  ·
   refine T_seq (T_region hc (Ch.s (.agg [(.c (.slice none 0 0)), (.c (.slice none 0 0))]) (.build _ _ rfl stru29 .nil rfl) (Ch.s .junk (.storePtr _ _ _ rfl rfl rfl (.agg _ rfl) sz29 (lb rfl)) (Ch.s (.d (.bool false)) pa (Ch.nil (T_ret ?_))))))
   exact endR [(.agg [(.c (.slice none 0 0)), (.c (.slice none 0 0))]), (.d (.bool false))] [] [] (.cons (.cellA _ _ rfl rfl ag29 sz29) (.cons (.tmp 7 rfl) .nil)) (.cons (.any _) (.cons (.any _) (.cons (.any _) .nil))) (.tup (.cons (.agg (.cons (Exp.of (congrArg (D.slice true 1) a7) (.nil true 1)) (.cons (Exp.of (congrArg (D.slice true 1) a7) (.nil true 1)) .nil)) rfl) (.cons (Exp.of (congrArg D.bool a7) (.d _)) .nil))) rfl rfl
  ·
   refine T_skip (T_seq (T_region hc (Ch.s (.agg [(.row 17000), (.row 17001)]) (.pure (.loadPtrA _ _ rfl ag29 sz29 rfl rfl (lb rfl) rfl)) (Ch.s .junk (.storePtr _ _ _ rfl rfl rfl (.agg _ rfl) sz29 (lb rfl)) (Ch.s (.d (.bool true)) pa (Ch.nil (T_ret ?_)))))))
   exact endR [(.agg [(.row 17000), (.row 17001)]), (.d (.bool true))] [] [17000, 17001] (.cons (.cellA _ _ rfl rfl ag29 sz29) (.cons (.tmp 7 rfl) .nil)) (.cons (.any _) (.cons (.any _) (.cons (.any _) .nil))) (.tup (.cons (.agg (.cons (Exp.of (congrArg (D.slice true 1) a7) (.row rfl)) (.cons (Exp.of (congrArg (D.slice true 1) a7) (.row rfl)) .nil)) rfl) (.cons (Exp.of (congrArg D.bool a7) (.d _)) .nil))) rfl rfl

theorem sp_spec_NextStateSets (x : Sgr) (sig : Int) (hb : x.bulk ≤ 1048576) : Sp Tryz.prog 78 [(.agg [(.slice false 2 (x.sigs.map Sgn.d)), (.slice false 1 (x.codes.map D.str)), (.slice false 4 (x.arcs.map Arc.d))]), (.int .i64 sig)] [.any, .any] (.tup [(.agg [(.slice true 1 ((osOn x sig 0).map D.str)), (.slice true 1 ((osOff x sig 0).map D.str))]), (.bool (osOk x sig 0))]) := by
 refine Sp_intro (lend := true) Tryz.func78 rfl rfl rfl (fun _ => rfl) (fun c hc hX => ?_)
 obtain ⟨hp0, hp1, hp2⟩ := Sgr.parts hb
 have hn0 := bulkF_len hp0
 have hn1 := bulk_len hp1
 have hx1 := bulk_mem hp1
 have hn2 := bulkF_len hp2
 refine T_seq (T_region hc (Ch.s (.ptr 2000 0) (.box 2000 _ _ rfl (.aggD _)) (Ch.s (.ptr 4000 0) (.alloc 4000 _ rfl zer29) (Ch.s (.d (.bool false)) pa (Ch.nil (T_seq (T_region hc ?_)))))))
 refine Ch.s (.agg (vX x)) (.pure (.loadPtrA _ _ rfl ag35 sz35 rfl rfl (lb rfl) rfl)) (Ch.s (.d (.int .i64 sig)) pm ?_)
 refine Ch.step (v := (.tup [(.agg [(.row 8000), (.row 8001)]), (.d (.bool (osOk x sig (wayN ([110, 101, 120, 116])))))])) rfl (.call 8000 69 _ _ _ en69 rfl (.inl rfl) (.cons lX (.cons (.d _) (.cons (.d _) .nil))) rfl (sol a50 rfl) (sp_spec_l15Told x sig ([110, 101, 120, 116]) a31) (.skip _ _ (.skip _ _ (.skip _ _ .nil))) rfl) rfl rfl ?_
 refine Ch.s (.agg [(.row 8000), (.row 8001)]) (.pure (.extract _ rfl rfl rfl)) (Ch.s (.d (.bool (osOk x sig (wayN ([110, 101, 120, 116]))))) (.pure (.extract _ rfl rfl rfl)) (Ch.s .junk (.storePtr _ _ _ rfl rfl rfl (.agg _ rfl) sz29 (lb rfl)) (Ch.s (.d (.bool (osOk x sig (wayN ([110, 101, 120, 116]))))) pa (Ch.nil (T_ret ?_)))))
 exact endR [(.agg [(.row 8000), (.row 8001)]), (.d (.bool (osOk x sig (wayN ([110, 101, 120, 116])))))] [] [8000, 8001] (.cons (.cellA _ _ rfl rfl ag29 sz29) (.cons (.tmp 5 rfl) .nil)) (.cons (.any _) (.cons (.any _) .nil)) (.tup (.cons (.agg (.cons (Exp.of (congrArg (D.slice true 1) (by rfl)) (.row rfl)) (.cons (Exp.of (congrArg (D.slice true 1) (by rfl)) (.row rfl)) .nil)) rfl) (.cons (Exp.of (congrArg D.bool (by rfl)) (.d _)) .nil))) rfl rfl

theorem en80 : Enters Tryz.prog 80 := ⟨_, Tryz.func80, by kernel_rfl, rfl⟩

theorem en78 : Enters Tryz.prog 78 := ⟨_, Tryz.func78, by kernel_rfl, rfl⟩

def addQ (x : Sgr) (sig : Int) (o : List Int) (k : Int) : List Int := if !excB x k sig && !hasI o k then o ++ [k] else o

def q1 (x : Sgr) (sig c : Int) (o : List Int) (a : Arc) : List Int := if decide (a.src = c) then addQ x sig o a.dst else o

theorem en202 : Enters Tryz.prog 202 := ⟨_, Tryz.func202, by kernel_rfl, rfl⟩

theorem en200 : Enters Tryz.prog 200 := ⟨_, Tryz.func200, by kernel_rfl, rfl⟩

theorem en279 : Enters Tryz.prog 279 := ⟨_, Tryz.func279, by kernel_rfl, rfl⟩

theorem en285 : Enters Tryz.prog 285 := ⟨_, Tryz.func285, by kernel_rfl, rfl⟩

theorem fld183_1 : FieldIs Tryz.prog 183 1 1 1 false := FieldIs.mk Tryz.underlying183 rfl rfl sz23 ag23 rfl

theorem fld183_2 : FieldIs Tryz.prog 183 2 2 1 false := FieldIs.mk Tryz.underlying183 rfl rfl sz4 ag4 rfl

theorem en260 : Enters Tryz.prog 260 := ⟨_, Tryz.func260, by kernel_rfl, rfl⟩

theorem en227 : Enters Tryz.prog 227 := ⟨_, Tryz.func227, by kernel_rfl, rfl⟩

theorem en228 : Enters Tryz.prog 228 := ⟨_, Tryz.func228, by kernel_rfl, rfl⟩

theorem fld183_0 : FieldIs Tryz.prog 183 0 0 1 false := FieldIs.mk Tryz.underlying183 rfl rfl sz23 ag23 rfl

theorem en229 : Enters Tryz.prog 229 := ⟨_, Tryz.func229, by kernel_rfl, rfl⟩

theorem en176 : Enters Tryz.prog 176 := ⟨_, Tryz.func176, by kernel_rfl, rfl⟩

theorem en175 : Enters Tryz.prog 175 := ⟨_, Tryz.func175, by kernel_rfl, rfl⟩

theorem stru183 : StructIs Tryz.prog 183 [.slice none 0 0, .slice none 0 0, .bool false] [(0, 1), (1, 1), (2, 1)] := structIs_mk (by kernel_rfl) Tryz.underlying183 (by kernel_rfl)

theorem fld207_2 : FieldIs Tryz.prog 207 2 2 1 false := FieldIs.mk Tryz.underlying207 rfl rfl sz23 ag23 rfl

theorem fld207_3 : FieldIs Tryz.prog 207 3 3 1 false := FieldIs.mk Tryz.underlying207 rfl rfl sz4 ag4 rfl

theorem fld207_1 : FieldIs Tryz.prog 207 1 1 1 false := FieldIs.mk Tryz.underlying207 rfl rfl sz23 ag23 rfl

theorem en254 : Enters Tryz.prog 254 := ⟨_, Tryz.func254, by kernel_rfl, rfl⟩

theorem fld207_0 : FieldIs Tryz.prog 207 0 0 1 false := FieldIs.mk Tryz.underlying207 rfl rfl sz23 ag23 rfl

theorem en211 : Enters Tryz.prog 211 := ⟨_, Tryz.func211, by kernel_rfl, rfl⟩

theorem en255 : Enters Tryz.prog 255 := ⟨_, Tryz.func255, by kernel_rfl, rfl⟩

theorem stru207 : StructIs Tryz.prog 207 [.slice none 0 0, .slice none 0 0, .slice none 0 0, .bool false] [(0, 1), (1, 1), (2, 1), (3, 1)] := structIs_mk (by kernel_rfl) Tryz.underlying207 (by kernel_rfl)

theorem en104 : Enters Tryz.prog 104 := ⟨_, Tryz.func104, by kernel_rfl, rfl⟩

theorem en150 : Enters Tryz.prog 150 := ⟨_, Tryz.func150, by kernel_rfl, rfl⟩

theorem en151 : Enters Tryz.prog 151 := ⟨_, Tryz.func151, by kernel_rfl, rfl⟩

def unc (on l : List (List UInt8)) : List (List UInt8) := on.filter fun c => !inB l c

def lexB : List (List UInt8) → List (List UInt8) → Bool
 | a :: l, b :: m => if a = b then lexB l m else Op.bytesLess a b
 | _, _ => false

def cmpS (a b : (List UInt8)) : Int := if Op.bytesLess a b then -1 else if Op.bytesLess b a then 1 else 0

def cmpL : List (List UInt8) → List (List UInt8) → Int
 | [], [] => 0
 | [], _ :: _ => -1
 | _ :: _, [] => 1
 | a :: l, b :: m => if cmpS a b = 0 then cmpL l m else cmpS a b

theorem cmpS_zero {a b : (List UInt8)} : cmpS a b = 0 ↔ a = b := by
  unfold cmpS
  constructor
  · intro h
    by_cases h1 : Op.bytesLess a b = true
    · rw [if_pos h1] at h; omega
    · rw [if_neg h1] at h
      by_cases h2 : Op.bytesLess b a = true
      · rw [if_pos h2] at h; omega
      · exact bl_tri h1 h2
  · rintro rfl
    rw [bl_irr]; rfl

theorem cmpS_neg {a b : (List UInt8)} : cmpS a b < 0 ↔ Op.bytesLess a b = true := by
  unfold cmpS
  by_cases h1 : Op.bytesLess a b = true
  · rw [if_pos h1]; exact ⟨fun _ => h1, fun _ => by omega⟩
  · rw [if_neg h1]
    refine ⟨fun h => ?_, fun h => absurd h h1⟩
    split at h <;> omega

theorem cmp_lex : ∀ {l m : List (List UInt8)}, l.length = m.length → decide (cmpL l m < 0) = lexB l m
  | [], [], _ => rfl
  | [], _ :: _, h => by simp at h
  | _ :: _, [], h => by simp at h
  | a :: l, b :: m, h => by
    rw [cmpL, lexB]
    by_cases e : a = b
    · rw [if_pos e, if_pos (cmpS_zero.2 e), cmp_lex (by simpa using h)]
    · rw [if_neg e, if_neg (fun q => e (cmpS_zero.1 q))]
      rw [Bool.eq_iff_iff, decide_eq_true_iff, cmpS_neg]

def betB (l : List (List UInt8)) (p : List (List UInt8) × Bool) : Bool := !p.2 || (decide (lits l < lits p.1) || (decide (lits l = lits p.1) && lexB l p.1))

def betI (l : List (List UInt8)) (p : List (List UInt8) × Bool) : Bool := !p.2 || (decide (lits l < lits p.1) || (decide (lits l = lits p.1) && decide (cmpL l p.1 < 0)))

def endS (t : List (List UInt8)) (p : List (List UInt8) × Bool) : List (List UInt8) × Bool := if betB t p then (t, true) else p

def srF (pr on : List (List UInt8)) : Nat → List (List UInt8) → List (List UInt8) × Bool → List (List UInt8) × Bool
 | 0, t, p => if unc on t = [] then endS t p else p
 | m + 1, t, p => if unc on t = [] then endS t p else pr.foldl (fun p q => if hasB q ((unc on t).getD 0 default) then srF pr on m (put14 t q) p else p) p

def srTo (pr on : List (List UInt8)) (m : Nat) (t : List (List UInt8)) (p : List (List UInt8) × Bool) (k : Nat) : List (List UInt8) × Bool := (pr.take k).foldl (fun p q => if hasB q ((unc on t).getD 0 default) then srF pr on m (put14 t q) p else p) p

def endI (l : List (List UInt8)) (m : Nat) (p : List (List UInt8) × Bool) : List (List UInt8) × Bool := if decide ((Lib.compact (l.mergeSort leS)).length = l.length) && (decide (m = 0) && betI (l.mergeSort leS) p) then (l.mergeSort leS, true) else p

def chF (pr : List (List UInt8)) : Nat → List (List UInt8) → List (List UInt8) → List (List UInt8) × Bool → List (List UInt8) × Bool
 | 0, on, l, p => if on = [] then endI l 0 p else p
 | m + 1, on, l, p => if on = [] then endI l (m + 1) p else pr.foldl (fun p q => if hasB q (on.getD 0 default) then chF pr m (on.filter fun c => !hasB q c) (l ++ [q]) p else p) p

def chTo (pr : List (List UInt8)) (m : Nat) (on l : List (List UInt8)) (p : List (List UInt8) × Bool) (k : Nat) : List (List UInt8) × Bool := (pr.take k).foldl (fun p q => if hasB q (on.getD 0 default) then chF pr m (on.filter fun c => !hasB q c) (l ++ [q]) p else p) p

theorem chTo_succ {pr : List (List UInt8)} {m : Nat} {on l : List (List UInt8)} {p : List (List UInt8) × Bool} {k : Nat} (h : k < pr.length) : chTo pr m on l p (k + 1) = if hasB (pr.getD k default) (on.getD 0 default) then chF pr m (on.filter fun c => !hasB (pr.getD k default) c) (l ++ [pr.getD k default]) (chTo pr m on l p k) else chTo pr m on l p k := by
 have hg : pr.getD k default = pr[k] := by simp [h]
 unfold chTo
 rw [List.take_succ_eq_append_getElem h, List.foldl_append, hg]; rfl

theorem srTo_succ {pr on : List (List UInt8)} {m : Nat} {t : List (List UInt8)} {p : List (List UInt8) × Bool} {k : Nat} (h : k < pr.length) : srTo pr on m t p (k + 1) = if hasB (pr.getD k default) ((unc on t).getD 0 default) then srF pr on m (put14 t (pr.getD k default)) (srTo pr on m t p k) else srTo pr on m t p k := by
 have hg : pr.getD k default = pr[k] := by simp [h]
 unfold srTo
 rw [List.take_succ_eq_append_getElem h, List.foldl_append, hg]; rfl

theorem chF_next {pr : List (List UInt8)} {m : Nat} {on l : List (List UInt8)} {p : List (List UInt8) × Bool} {k : Nat} (h : ¬ on.length = 0) (hk : pr.length ≤ k) : chF pr (m + 1) on l p = chTo pr m on l p k := by
 rw [chF, if_neg (fun e => h (by rw [e]; rfl)), chTo, List.take_of_length_le hk]

theorem srF_next {pr on : List (List UInt8)} {m : Nat} {t : List (List UInt8)} {p : List (List UInt8) × Bool} {k : Nat} (h : ¬ unc on t = []) (hk : pr.length ≤ k) : srF pr on (m + 1) t p = srTo pr on m t p k := by
 rw [srF, if_neg h, srTo, List.take_of_length_le hk]

theorem chF_end {pr : List (List UInt8)} {on l : List (List UInt8)} {p : List (List UInt8) × Bool} (m : Nat) (h : on.length = 0) : chF pr m on l p = endI l m p := by
  have e : on = [] := List.eq_nil_of_length_eq_zero h
  cases m <;> rw [chF, if_pos e]

theorem chF_zero {pr : List (List UInt8)} {on l : List (List UInt8)} {p : List (List UInt8) × Bool} (h : ¬ on.length = 0) : chF pr 0 on l p = p := by
 rw [chF, if_neg (fun e => h (by rw [e]; rfl))]

theorem srF_end {pr on : List (List UInt8)} {t : List (List UInt8)} {p : List (List UInt8) × Bool} (m : Nat) (h : unc on t = []) : srF pr on m t p = endS t p := by cases m <;> rw [srF, if_pos h]

theorem srF_zero {pr on : List (List UInt8)} {t : List (List UInt8)} {p : List (List UInt8) × Bool} (h : ¬ unc on t = []) : srF pr on 0 t p = p := by rw [srF, if_neg h]
-- what the best is, all along

structure POk (n N : Nat) (p : List (List UInt8) × Bool) : Prop where
 len : p.1.length ≤ N
 all : ∀ q ∈ p.1, q.length = n

theorem fold_ok {τ : Type} {Q : τ → Prop} {f : τ → (List UInt8) → τ} : ∀ {l : List (List UInt8)} {p : τ}, Q p → (∀ p q, q ∈ l → Q p → Q (f p q)) → Q (l.foldl f p)
 | [], _, h, _ => h
 | a :: l, p, h, hf => by
  rw [List.foldl_cons]
  exact fold_ok (hf p a List.mem_cons_self h) (fun p q hq => hf p q (List.mem_cons_of_mem _ hq))

theorem chF_ok {pr : List (List UInt8)} {n N : Nat} (hpr : ∀ q ∈ pr, q.length = n) : ∀ (m : Nat) (on l : List (List UInt8)) (p : List (List UInt8) × Bool), l.length + m ≤ N → (∀ q ∈ l, q.length = n) → POk n N p → POk n N (chF pr m on l p) := by
  have hend : ∀ (m : Nat) (l : List (List UInt8)) (p : List (List UInt8) × Bool), l.length + m ≤ N → (∀ q ∈ l, q.length = n) → POk n N p → POk n N (endI l m p) := by
    intro m l p h1 h2 h3
    unfold endI
    split
    · exact ⟨by rw [List.length_mergeSort]; omega, fun q hq => h2 q (List.mem_mergeSort.1 hq)⟩
    · exact h3
  intro m
  induction m with
  | zero =>
    intro on l p h1 h2 h3
    rw [chF]
    split
    · exact hend _ _ _ h1 h2 h3
    · exact h3
  | succ m ih =>
    intro on l p h1 h2 h3
    rw [chF]
    split
    · exact hend _ _ _ h1 h2 h3
    · refine fold_ok (Q := POk n N) h3 fun p q hq hp => ?_
      try dsimp only
      split
      · refine ih _ _ _ a92 (fun a ha => ?_) hp
        rcases List.mem_append.1 ha with ha | ha
        · exact h2 a ha
        · rw [List.mem_singleton] at ha; rw [ha]; exact hpr q hq
      · exact hp

theorem chTo_ok {pr : List (List UInt8)} {n N : Nat} (hpr : ∀ q ∈ pr, q.length = n) {m : Nat} {on l : List (List UInt8)} {p : List (List UInt8) × Bool} (h1 : l.length + (m + 1) ≤ N) (h2 : ∀ q ∈ l, q.length = n) (h3 : POk n N p) : ∀ k, k ≤ pr.length → POk n N (chTo pr m on l p k)
  | 0, _ => h3
  | k + 1, hk => by
    have ih := chTo_ok hpr (on := on) h1 h2 h3 k (by omega)
    rw [chTo_succ (by omega)]
    split
    · refine chF_ok hpr _ _ _ _ a92 (fun a ha => ?_) ih
      rcases List.mem_append.1 ha with ha | ha
      · exact h2 a ha
      · rw [List.mem_singleton] at ha; rw [ha]; exact hpr _ (getD_mem (by omega))
    · exact ih
-- completeness, and how deep it is met

def hitP (pr on : List (List UInt8)) : Nat → List (List UInt8) → Prop
 | 0, t => unc on t = []
 | m + 1, t => unc on t = [] ∨ ∃ q ∈ pr, hasB q ((unc on t).getD 0 default) = true ∧ hitP pr on m (put14 t q)

def noShort (pr on : List (List UInt8)) : Nat → List (List UInt8) → Prop
 | 0, _ => True
 | m + 1, t => ¬ hitP pr on m t

theorem ns_not {pr on : List (List UInt8)} {m : Nat} {t : List (List UInt8)} (h : noShort pr on (m + 1) t) : ¬ unc on t = [] := by
 cases m with
 | zero => exact h
 | succ m => exact fun e => h (.inl e)

theorem ns_step {pr on : List (List UInt8)} {m : Nat} {t : List (List UInt8)} {q : (List UInt8)} (h : noShort pr on (m + 1) t) (hq : q ∈ pr) (hb : hasB q ((unc on t).getD 0 default) = true) : noShort pr on m (put14 t q) := by
 cases m with
 | zero => trivial
 | succ m => exact fun e => h (.inr ⟨q, hq, hb, e⟩)

theorem endS_met {t : List (List UInt8)} {p : List (List UInt8) × Bool} : (endS t p).2 = true := by
  unfold endS
  split
  · rfl
  · rename_i h
    unfold betB at h
    cases hp : p.2
    · rw [hp] at h; exact absurd rfl h
    · rfl

theorem srF_met {pr on : List (List UInt8)} : ∀ (m : Nat) (t : List (List UInt8)) (p : List (List UInt8) × Bool), (srF pr on m t p).2 = true ↔ p.2 = true ∨ hitP pr on m t
  | 0, t, p => by
    rw [srF, hitP]
    split
    · rename_i h; exact ⟨fun _ => .inr h, fun _ => endS_met⟩
    · rename_i h; exact ⟨.inl, fun q => q.elim id fun e => absurd e h⟩
  | m + 1, t, p => by
    rw [srF, hitP]
    split
    · rename_i h; exact ⟨fun _ => .inr (.inl h), fun _ => endS_met⟩
    · rename_i h
      have key : ∀ (l : List (List UInt8)) (p : List (List UInt8) × Bool), (l.foldl (fun p q => if hasB q ((unc on t).getD 0 default) then srF pr on m (put14 t q) p else p) p).2 = true ↔ p.2 = true ∨ ∃ q ∈ l, hasB q ((unc on t).getD 0 default) = true ∧ hitP pr on m (put14 t q) := by
        intro l
        induction l with
        | nil => intro p; simp
        | cons a l ih =>
          intro p
          rw [List.foldl_cons, ih]
          by_cases hb : hasB a ((unc on t).getD 0 default) = true
          · rw [if_pos hb, srF_met m]
            constructor
            · rintro ((h1 | h1) | ⟨q, hq, h2⟩)
              · exact .inl h1
              · exact .inr ⟨a, List.mem_cons_self, hb, h1⟩
              · exact .inr ⟨q, List.mem_cons_of_mem _ hq, h2⟩
            · rintro (h1 | ⟨q, hq, h2⟩)
              · exact .inl (.inl h1)
              · rcases List.mem_cons.1 hq with rfl | hq
                · exact .inl (.inr h2.2)
                · exact .inr ⟨q, hq, h2⟩
          · rw [if_neg hb]
            constructor
            · rintro (h1 | ⟨q, hq, h2⟩)
              · exact .inl h1
              · exact .inr ⟨q, List.mem_cons_of_mem _ hq, h2⟩
            · rintro (h1 | ⟨q, hq, h2⟩)
              · exact .inl h1
              · rcases List.mem_cons.1 hq with rfl | hq
                · exact absurd h2.1 hb
                · exact .inr ⟨q, hq, h2⟩
      rw [key]
      exact ⟨fun q => q.imp id .inr, fun q => q.imp id fun e => e.resolve_left h⟩

structure BOk (N : Nat) (p : List (List UInt8) × Bool) : Prop where
 len : p.2 = true → p.1.length = N

theorem srF_bok {pr on : List (List UInt8)} {N : Nat} : ∀ (m : Nat) (t : List (List UInt8)) (p : List (List UInt8) × Bool), t.length + m = N → noShort pr on m t → BOk N p → BOk N (srF pr on m t p)
  | 0, t, p, h1, _, h3 => by
    rw [srF]
    split
    · unfold endS; split
      · exact ⟨fun _ => by omega⟩
      · exact h3
    · exact h3
  | m + 1, t, p, h1, h2, h3 => by
    rw [srF, if_neg (ns_not h2)]
    refine fold_ok (Q := BOk N) h3 fun p q hq hp => ?_
    try dsimp only
    split
    · rename_i hb
      exact srF_bok m _ p (by rw [put14_len]; omega) (ns_step h2 hq hb) hp
    · exact hp

theorem put14_sort {l : List (List UInt8)} {q : (List UInt8)} (hn : (l ++ [q]).Nodup) : (l ++ [q]).mergeSort leS = put14 (l.mergeSort leS) q := by
 have h1 := List.nodup_append.1 hn
 have hq : ¬ q ∈ l.mergeSort leS := fun h => h1.2.2 q (List.mem_mergeSort.1 h) q (List.mem_singleton.2 rfl) rfl
 have hr : ∀ m : List (List UInt8), m.Nodup → Rise leS (m.mergeSort leS) := fun m hm => by
  unfold Rise
  exact List.Pairwise.and (List.pairwise_mergeSort (fun a b c h1 h2 => linS.trans a b c h1 h2) (fun a b => linS.total a b) m) ((List.mergeSort_perm m leS).nodup_iff.2 hm)
 have h15 : put15 (l.mergeSort leS) q = put14 (l.mergeSort leS) q := by
  unfold put15
  rw [if_neg (fun h => hq (hasS_mem.1 h))]
 rw [← h15]
 refine rise_ext linS (hr _ hn) (put15_rise (hr _ h1.1)) fun a => ?_
 rw [List.mem_mergeSort, put15_mem, List.mem_mergeSort, List.mem_append, List.mem_singleton]

theorem compact_nodup {l : List (List UInt8)} (h : l.Nodup) : (Lib.compact (l.mergeSort leS)).length = l.length := by
 have hr : Rise leS (l.mergeSort leS) := by
  unfold Rise
  exact List.Pairwise.and (List.pairwise_mergeSort (fun a b c h1 h2 => linS.trans a b c h1 h2) (fun a b => linS.total a b) l) ((List.mergeSort_perm l leS).nodup_iff.2 h)
 have e : tid leS l = l.mergeSort leS := rise_ext linS (tid_rise linS l) hr fun a => by rw [tid_mem linS, List.mem_mergeSort]
 show (tid leS l).length = _
 rw [e, List.length_mergeSort]

theorem inB_iff {l : List (List UInt8)} {c : (List UInt8)} : inB l c = true ↔ ∃ q ∈ l, hasB q c = true := by
 unfold inB; rw [List.any_eq_true]

theorem inB_sort (l : List (List UInt8)) (c : (List UInt8)) : inB (l.mergeSort leS) c = inB l c := by
  rw [Bool.eq_iff_iff, inB_iff, inB_iff]
  constructor
  · rintro ⟨q, hq, h⟩; exact ⟨q, List.mem_mergeSort.1 hq, h⟩
  · rintro ⟨q, hq, h⟩; exact ⟨q, List.mem_mergeSort.2 hq, h⟩

theorem unc_sort (on l : List (List UInt8)) : unc on (l.mergeSort leS) = unc on l := by
 unfold unc
 apply List.filter_congr
 intro c _
 rw [inB_sort]

theorem unc_snoc (on l : List (List UInt8)) (q : (List UInt8)) : (unc on l).filter (fun c => !hasB q c) = unc on (l ++ [q]) := by
  unfold unc
  rw [List.filter_filter]
  apply List.filter_congr
  intro c _
  have : inB (l ++ [q]) c = (inB l c || hasB q c) := by unfold inB; rw [List.any_append]; simp
  rw [this]
  cases inB l c <;> cases hasB q c <;> rfl

theorem new_cube {on l : List (List UInt8)} {q : (List UInt8)} (h : ¬ unc on l = []) (hb : hasB q ((unc on l).getD 0 default) = true) (hn : l.Nodup) : (l ++ [q]).Nodup := by
 rw [List.nodup_append]
 refine ⟨hn, by simp, fun a ha b hbm => ?_⟩
 rw [List.mem_singleton] at hbm
 subst hbm
 rintro rfl
 have hm : (unc on l).getD 0 default ∈ unc on l := getD_mem (List.length_pos_iff.2 h)
 have h2 := (List.mem_filter.1 hm).2
 rw [Bool.not_eq_true', ← Bool.not_eq_true] at h2
 exact h2 (inB_iff.2 ⟨a, ha, hb⟩)

theorem ch_sr {pr on : List (List UInt8)} {N : Nat} : ∀ (m : Nat) (l : List (List UInt8)) (p : List (List UInt8) × Bool), l.length + m = N → l.Nodup → noShort pr on m (l.mergeSort leS) → BOk N p → chF pr m (unc on l) l p = srF pr on m (l.mergeSort leS) p := by
  have hend : ∀ (l : List (List UInt8)) (p : List (List UInt8) × Bool), l.length = N → l.Nodup → BOk N p → endI l 0 p = endS (l.mergeSort leS) p := by
    intro l p h1 h2 h3
    have hb : betI (l.mergeSort leS) p = betB (l.mergeSort leS) p := by
      unfold betI betB
      cases hp : p.2
      · rfl
      · rw [cmp_lex (by rw [List.length_mergeSort, h3.len hp, h1])]
    unfold endI endS
    rw [decide_eq_true (compact_nodup h2), hb]
    simp
  intro m
  induction m with
  | zero =>
    intro l p h1 h2 h3 h4
    by_cases e : unc on l = []
    · rw [chF, if_pos e, srF, if_pos (by rw [unc_sort]; exact e), hend l p (by omega) h2 h4]
    · rw [chF, if_neg e, srF, if_neg (by rw [unc_sort]; exact e)]
  | succ m ih =>
    intro l p h1 h2 h3 h4
    have e : ¬ unc on l = [] := by have := ns_not h3; rwa [unc_sort] at this
    rw [chF, if_neg e, srF, if_neg (by rw [unc_sort]; exact e), unc_sort]
    have key : ∀ (k : List (List UInt8)), (∀ q ∈ k, q ∈ pr) → ∀ p, BOk N p → k.foldl (fun p q => if hasB q ((unc on l).getD 0 default) then chF pr m ((unc on l).filter fun c => !hasB q c) (l ++ [q]) p else p) p = k.foldl (fun p q => if hasB q ((unc on l).getD 0 default) then srF pr on m (put14 (l.mergeSort leS) q) p else p) p := by
      intro k
      induction k with
      | nil => intro _ p _; rfl
      | cons q k ih2 =>
        intro hk p hp
        rw [List.foldl_cons, List.foldl_cons]
        by_cases hb : hasB q ((unc on l).getD 0 default) = true
        · have hnd := new_cube e hb h2
          have hns : noShort pr on m ((l ++ [q]).mergeSort leS) := by
            rw [put14_sort hnd]
            exact ns_step h3 (hk q List.mem_cons_self) (by rw [unc_sort]; exact hb)
          have h5 := ih (l ++ [q]) p a92 hnd hns hp
          rw [if_pos hb, if_pos hb, unc_snoc, h5, put14_sort hnd]
          refine ih2 (fun a ha => hk a (List.mem_cons_of_mem _ ha)) _ ?_
          rw [← put14_sort hnd]
          exact srF_bok m _ p (by rw [List.length_mergeSort, List.length_append, List.length_singleton]; omega) hns hp
        · rw [if_neg hb, if_neg hb]
          exact ih2 (fun a ha => hk a (List.mem_cons_of_mem _ ha)) p hp
    exact key pr (fun _ h => h) p h4

def rndS (pr on : List (List UInt8)) (m : Nat) : List (List UInt8) × Bool := srF pr on m [] ([], false)

def rndI (pr on : List (List UInt8)) (m : Nat) : List (List UInt8) × Bool := chF pr m on [] ([], false)

theorem ns_of {pr on : List (List UInt8)} {m : Nat} (h : ∀ j, j < m → (rndS pr on j).2 = false) : noShort pr on m [] := by
 cases m with
 | zero => trivial
 | succ m =>
  intro hh
  have := (srF_met (pr := pr) (on := on) m [] ([], false)).2 (.inr hh)
  have h2 := h m (by omega)
  unfold rndS at h2
  rw [h2] at this; cases this

theorem unc_nil (on : List (List UInt8)) : unc on [] = on := by
 unfold unc
 rw [List.filter_eq_self]
 intro c _; rfl

theorem rnd_eq {pr on : List (List UInt8)} {m : Nat} (h : ∀ j, j < m → (rndS pr on j).2 = false) : rndI pr on m = rndS pr on m := by
 have hs : ([] : List (List UInt8)).mergeSort leS = [] := List.mergeSort_nil
 have := ch_sr (pr := pr) (on := on) (N := m) m [] ([], false) (by simp) (by simp) (by rw [hs]; exact ns_of h) ⟨fun e => by cases e⟩
 rw [unc_nil, hs] at this
 exact this

def lstF (f : Nat → List (List UInt8) × Bool) : Nat → Nat → List (List UInt8) × Bool
 | 0, _ => ([], false)
 | k + 1, j => if (f j).2 then ((f j).1, true) else lstF f k (j + 1)

theorem lst_skip {f : Nat → List (List UInt8) × Bool} : ∀ (m k : Nat), (∀ j, j < m → (f j).2 = false) → lstF f (m + k) 0 = lstF f k m := by
 have key : ∀ (m k j0 : Nat), (∀ j, j0 ≤ j → j < j0 + m → (f j).2 = false) → lstF f (m + k) j0 = lstF f k (j0 + m) := by
  intro m
  induction m with
  | zero => intro k j0 _; rw [Nat.zero_add]; rfl
  | succ m ih =>
   intro k j0 h
   rw [show m + 1 + k = (m + k) + 1 by omega, lstF, if_neg (by rw [h j0 (by omega) (by omega)]; simp), ih k (j0 + 1) (fun j h1 h2 => h j (by omega) (by omega))]
   congr 1; omega
 intro m k h
 have := key m k 0 (fun j _ h2 => h j (by omega))
 rwa [Nat.zero_add] at this

def minF (pr on : List (List UInt8)) : List (List UInt8) × Bool := lstF (rndI pr on) 7 0

theorem min_yes {pr on : List (List UInt8)} {m : Nat} (hm : m < 7) (h : ∀ j, j < m → (rndI pr on j).2 = false) (h2 : (rndI pr on m).2 = true) : minF pr on = ((rndI pr on m).1, true) := by
 unfold minF
 rw [show (7 : Nat) = m + ((6 - m) + 1) by omega, lst_skip m _ h, lstF, if_pos h2]

theorem min_no {pr on : List (List UInt8)} (h : ∀ j, j < 7 → (rndI pr on j).2 = false) : minF pr on = ([], false) := by
 unfold minF
 rw [show (7 : Nat) = 7 + 0 from rfl, lst_skip 7 0 h]; rfl

theorem snocS (l : List (List UInt8)) (q : List UInt8) : frozs (l.map D.str ++ [D.str q]) = (l ++ [q]).map D.str := by
 have h : l.map D.str ++ [D.str q] = (l ++ [q]).map D.str := by rw [List.map_append]; rfl
 rw [h]; exact frozs_map (fun _ => rfl) _

theorem tightA {P : Program} {ρ : Operand → V} {h : Nat → Option Ob} {dst : Option Nat} {t x mx hi a2 b2 c2 d2} {sz : Nat} {xs : List D} {r : Nat} (e) (ht : P.underlying t = some (.slice e)) (hsz : SizeIs P e sz) (hx : (ρ x = .d (.slice false sz xs)) ∨ ρ x = .tight sz xs ∨ (ρ x = .c (.slice none 0 0) ∧ xs = [])) (hr : ∃ y, hi = some y ∧ bnd ρ hi 0 r) (hm : bnd ρ (some mx) 0 r) (hl : xs.length = r) : Ev P ρ h (Oper.mk dst (.slice t x none hi (some mx)) a2 b2 c2 d2) (.tight sz xs) {} := by
 have h1 := Ev.tight (P := P) (ρ := ρ) (h := h) (o := Oper.mk dst (.slice t x none hi (some mx)) a2 b2 c2 d2) t x mx none hi e 0 r rfl ht hsz hx (by simp [bnd]) hr hm (Nat.zero_le _) (by omega)
 rw [List.drop_zero, List.take_of_length_le (by omega)] at h1; exact h1

theorem betI_eq {t l : List (List UInt8)} {f : Bool} : betI t (l, f) = (!f || (decide ((lits t : Int) < (lits l : Int)) || (decide ((lits t : Int) = (lits l : Int)) && decide (cmpL t l < 0)))) := by
 unfold betI
 rw [show decide ((lits t : Int) < (lits l : Int)) = decide (lits t < lits l) from decide_eq_decide.2 (by omega), show decide ((lits t : Int) = (lits l : Int)) = decide (lits t = lits l) from decide_eq_decide.2 (by omega)]

theorem cmpL_next {l m : List (List UInt8)} {k : Nat} (h1 : k < l.length) (h2 : k < m.length) : cmpL (l.drop k) (m.drop k) = if cmpS (l.getD k default) (m.getD k default) = 0 then cmpL (l.drop (k + 1)) (m.drop (k + 1)) else cmpS (l.getD k default) (m.getD k default) := by
 rw [List.drop_eq_getElem_cons h1, List.drop_eq_getElem_cons h2, cmpL]
 simp [h1, h2]

theorem cmpL_end1 {l m : List (List UInt8)} {k : Nat} (h1 : k < l.length) (h2 : m.length ≤ k) : cmpL (l.drop k) (m.drop k) = 1 := by
 rw [List.drop_eq_getElem_cons h1, List.drop_of_length_le h2]; rfl

theorem cmpL_end2 {l m : List (List UInt8)} {k : Nat} (h1 : l.length ≤ k) (h2 : k < m.length) : cmpL (l.drop k) (m.drop k) = -1 := by
 rw [List.drop_eq_getElem_cons h2, List.drop_of_length_le h1]; rfl

theorem cmpL_end3 {l m : List (List UInt8)} {k : Nat} (h1 : l.length ≤ k) (h2 : m.length ≤ k) : cmpL (l.drop k) (m.drop k) = 0 := by
 rw [List.drop_of_length_le h2, List.drop_of_length_le h1]; rfl

theorem sp_isNaN (u : List UInt8) : Sp Tryz.prog 279 [(.str u)] [.any] (.bool false) := by
 refine Sp_intro (lend := true) Tryz.func279 rfl rfl rfl (fun _ => rfl) (fun c hc hX => ?_)
 refine T_seq (T_region hc (Ch.s (.d (.bool false)) pa (Ch.nil (T_seq (T_region hc (Ch.s (.d (.str u)) pm (Ch.s (.d (.str u)) pm ?_)))))))
 refine Ch.s (.d (.bool (!(decide (u = u))))) (.pure (.str _ _ _ _ _ rfl rfl rfl rfl)) (Ch.s (.d (.bool (!(decide (u = u))))) pa (Ch.nil (T_ret ?_)))
 exact endR [(.d (.bool (!(decide (u = u)))))] [] [] (.cons (.tmp 2 rfl) .nil) (.cons (.any _) .nil) (Exp.of (congrArg D.bool (by simp)) (.d _)) rfl rfl

theorem sp_cmpS (u v : List UInt8) : Sp Tryz.prog 285 [(.str u), (.str v)] [.any, .any] (.int .i64 (cmpS u v)) := by
 refine Sp_intro (lend := true) Tryz.func285 rfl rfl rfl (fun _ => rfl) (fun c hc hX => ?_)
 refine T_seq (T_region hc (Ch.s (.d (.int .i64 0)) pa (Ch.nil (T_seq (T_region hc (Ch.s (.d (.str u)) pm (Ch.s (.d (.bool false)) (.call 8000 279 _ _ _ en279 rfl (.inl rfl) (.cons (.d _) .nil) rfl rfl (sp_isNaN u) (.skip _ _ .nil) rfl) ?_)))))))
 refine Ch.s (.d (.bool false)) pa (Ch.nil (T_seq (T_region hc (Ch.s (.d (.str v)) pm (Ch.s (.d (.bool false)) (.call 10000 279 _ _ _ en279 rfl (.inl rfl) (.cons (.d _) .nil) rfl rfl (sp_isNaN v) (.skip _ _ .nil) rfl) (Ch.s (.d (.bool false)) pa (Ch.nil ?_)))))))
 refine T_seq (T_seq (T_region hc (Ch.s (.d (.bool false)) pm (Ch.nil ?_))))
 refine T_cond (b := false) rfl (fun h => nomatch h) (fun _ => ?_)
 refine T_skip (T_seq (T_seq (T_region hc (Ch.s (.d (.bool false)) pm (Ch.nil ?_)))))
 refine T_cond (b := false) rfl (fun h => nomatch h) (fun _ => ?_)
 refine T_skip (T_seq (T_seq (T_region hc (Ch.s (.d (.str u)) pm (Ch.s (.d (.str v)) pm (Ch.s (.d (.bool (Op.bytesLess u v))) (.pure (.str _ _ _ _ _ rfl rfl rfl rfl)) (Ch.nil ?_)))))))
 refine T_cond (b := (Op.bytesLess u v)) rfl (fun h1 => ?_) (fun h1 => ?_)
 ·
  refine T_seq (T_region hc (Ch.s (.d (.int .i64 (-1))) pa (Ch.nil (T_ret ?_))))
  exact endR [(.d (.int .i64 (-1)))] [] [] (.cons (.tmp 4 rfl) .nil) (.cons (.any _) (.cons (.any _) .nil)) (Exp.of (congrArg (D.int .i64) a28) (.d _)) rfl rfl
 ·
  refine T_skip (T_seq (T_seq (T_region hc (Ch.s (.d (.str u)) pm (Ch.s (.d (.str v)) pm (Ch.s (.d (.bool (!(Op.bytesLess u v || decide (u = v))))) (.pure (.str _ _ _ _ _ rfl rfl rfl rfl)) (Ch.nil ?_)))))))
  refine T_condN (b := (Op.bytesLess u v || decide (u = v))) rfl (fun h2 => ?_) (fun h2 => ?_)
  ·
   refine T_seq (T_region hc (Ch.s (.d (.int .i64 1)) pa (Ch.nil (T_ret ?_))))
   exact endR [(.d (.int .i64 1))] [] [] (.cons (.tmp 4 rfl) .nil) (.cons (.any _) (.cons (.any _) .nil)) (Exp.of (congrArg (D.int .i64) a28) (.d _)) rfl rfl
  ·
   refine T_skip (T_seq (T_region hc (Ch.s (.d (.int .i64 0)) pa (Ch.nil (T_ret ?_)))))
   exact endR [(.d (.int .i64 0))] [] [] (.cons (.tmp 4 rfl) .nil) (.cons (.any _) (.cons (.any _) .nil)) (Exp.of (congrArg (D.int .i64) a28) (.d _)) rfl rfl

theorem sp_cmpL (xs ys : List (List UInt8)) (hn : xs.length ≤ 1048576) (hm : ys.length ≤ 1048576) : Sp Tryz.prog 260 [(.slice false 1 (xs.map D.str)), (.slice false 1 (ys.map D.str))] [.any, .any] (.int .i64 (cmpL xs ys)) := by
 refine Sp_intro (lend := true) Tryz.func260 rfl rfl rfl (fun _ => rfl) (fun c hc hX => ?_)
 refine T_seq (T_region hc (Ch.s (.d (.int .i64 0)) pa (Ch.nil (T_seq (T_seq (T_region hc (Ch.s (.d (.slice false 1 (xs.map D.str))) pm ?_)))))))
 refine Ch.s (.d (.int .i64 (xs.length : Int))) (.pure (.len _ _ 9 rfl Tryz.underlying23 (.sh _ _) (by simp))) (Ch.s (.d (.int .i64 0)) pm (Ch.nil (T_block ?_)))
 refine T_loop (ι := Nat) (fun k => { n := 36, sl := [(0, (.d (.slice false 1 (xs.map D.str)))), (1, (.d (.slice false 1 (ys.map D.str)))), (9, (.d (.slice false 1 (xs.map D.str)))), (10, (.d (.int .i64 (xs.length : Int)))), (11, (.d (.int .i64 (k : Int))))], hp := [], pin := [] }) (fun k => k ≤ xs.length ∧ k ≤ ys.length ∧ cmpL xs ys = cmpL (xs.drop k) (ys.drop k)) (fun k => xs.length - k) ⟨0, ⟨by omega, by omega, rfl⟩, (Wk.of rfl rfl (ai rfl (ai rfl (ai rfl (ai rfl (ai (vI a93) trivial))))) trivial)⟩ (fun k hp0 => ?_)
 refine T_seq (T_region hc (Ch.s (.d (.bool (decide ((k : Int) < (xs.length : Int))))) (iX rfl rfl rfl) (Ch.nil (T_seq ?_))))
 refine T_condD (p := ((k : Int) < (xs.length : Int))) rfl (fun h1 => ?_) (fun h1 => ?_)
 ·
  refine T_skip (T_seq (T_block (T_seq (T_region hc (Ch.s (.d (.int .i64 (k : Int))) pm (Ch.s (.d (.ref (.str (xs.getD k default)))) (.pure (.idx _ _ _ 9 (k) rfl Tryz.underlying23 sz9 rfl rfl rfl get_mapA)) (Ch.s (.d (.str (xs.getD k default))) (.pure (.loadRef1 _ _ rfl ag9 rfl rfl)) ?_)))))))
  refine Ch.s (.d (.int .i64 (k : Int))) pa (Ch.s (.d (.str (xs.getD k default))) pa (Ch.nil (T_seq (T_seq (T_region hc (Ch.s (.d (.int .i64 (k : Int))) pm (Ch.s (.d (.slice false 1 (ys.map D.str))) pm ?_)))))))
  refine Ch.s (.d (.int .i64 (ys.length : Int))) (.pure (.len _ _ 9 rfl Tryz.underlying23 (.sh _ _) (by simp))) (Ch.s (.d (.bool (decide ((ys.length : Int) ≤ (k : Int))))) (iX rfl rfl rfl) (Ch.nil ?_))
  refine T_condD (p := ((ys.length : Int) ≤ (k : Int))) rfl (fun h2 => ?_) (fun h2 => ?_)
  ·
   refine T_seq (T_region hc (Ch.s (.d (.int .i64 1)) pa (Ch.nil (T_ret ?_))))
   exact endR [(.d (.int .i64 1))] [] [] (.cons (.tmp 4 rfl) .nil) (.cons (.any _) (.cons (.any _) .nil)) (Exp.of (congrArg (D.int .i64) a20) (.d _)) rfl rfl
  ·
   refine T_skip (T_seq (T_region hc (Ch.s (.d (.slice false 1 (ys.map D.str))) pm (Ch.s (.d (.int .i64 (k : Int))) pm (Ch.s (.d (.ref (.str (ys.getD k default)))) (.pure (.idx _ _ _ 9 (k) rfl Tryz.underlying23 sz9 rfl rfl rfl get_mapA)) (Ch.s (.d (.str (ys.getD k default))) (.pure (.loadRef1 _ _ rfl ag9 rfl rfl)) (Ch.s (.d (.str (ys.getD k default))) pa ?_)))))))
   refine Ch.nil (T_seq (T_region hc (Ch.s (.d (.str (xs.getD k default))) pm (Ch.s (.d (.str (ys.getD k default))) pm (Ch.s (.d (.int .i64 (cmpS (xs.getD k default) (ys.getD k default)))) (.call 26000 285 _ _ _ en285 rfl (.inl rfl) (.cons (.d _) (.cons (.d _) .nil)) rfl rfl (sp_cmpS (xs.getD k default) (ys.getD k default)) (.skip _ _ (.skip _ _ .nil)) rfl) (Ch.s (.d (.int .i64 (cmpS (xs.getD k default) (ys.getD k default)))) pa (Ch.nil ?_)))))))
   refine T_seq (T_region hc (Ch.s (.d (.int .i64 (cmpS (xs.getD k default) (ys.getD k default)))) pm (Ch.s (.d (.bool (!(decide ((cmpS (xs.getD k default) (ys.getD k default)) = 0))))) (iX rfl rfl rfl) (Ch.nil ?_))))
   refine T_condN (b := (decide ((cmpS (xs.getD k default) (ys.getD k default)) = 0))) rfl (fun h3 => ?_) (fun h3 => ?_)
   ·
    replace h3 := of_decide_eq_false h3
    refine T_seq (T_region hc (Ch.s (.d (.int .i64 (cmpS (xs.getD k default) (ys.getD k default)))) pm (Ch.s (.d (.int .i64 (cmpS (xs.getD k default) (ys.getD k default)))) pa (Ch.nil (T_ret ?_)))))
    exact endR [(.d (.int .i64 (cmpS (xs.getD k default) (ys.getD k default))))] [] [] (.cons (.tmp 4 rfl) .nil) (.cons (.any _) (.cons (.any _) .nil)) (Exp.of (congrArg (D.int .i64) a20) (.d _)) rfl rfl
   ·
    replace h3 := of_decide_eq_true h3
    refine T_skip (T_region hc (Ch.s (.d (.int .i64 ((k : Int) + 1))) (iX rfl rfl intV_addA) (Ch.s (.d (.int .i64 ((k : Int) + 1))) pm (Ch.nil ?_))))
    exact nx (k + 1) ⟨by omega, by omega, by rw [hp0.2.2, cmpL_next (by omega) (by omega), if_pos (by omega)]⟩ (Wk.of rfl rfl (ai rfl (ai rfl (ai rfl (ai rfl (ai (vI a93) trivial))))) trivial)
 ·
  refine T_exit (T_seq (T_seq (T_region hc (Ch.s (.d (.slice false 1 (xs.map D.str))) pm (Ch.s (.d (.int .i64 (xs.length : Int))) (.pure (.len _ _ 9 rfl Tryz.underlying23 (.sh _ _) (by simp))) (Ch.s (.d (.slice false 1 (ys.map D.str))) pm (Ch.s (.d (.int .i64 (ys.length : Int))) (.pure (.len _ _ 9 rfl Tryz.underlying23 (.sh _ _) (by simp))) ?_)))))))
  refine Ch.s (.d (.bool (decide ((xs.length : Int) < (ys.length : Int))))) (iX rfl rfl rfl) (Ch.nil ?_)
  refine T_condD (p := ((xs.length : Int) < (ys.length : Int))) rfl (fun h4 => ?_) (fun h4 => ?_)
  ·
   refine T_seq (T_region hc (Ch.s (.d (.int .i64 (-1))) pa (Ch.nil (T_ret ?_))))
   exact endR [(.d (.int .i64 (-1)))] [] [] (.cons (.tmp 4 rfl) .nil) (.cons (.any _) (.cons (.any _) .nil)) (Exp.of (congrArg (D.int .i64) a20) (.d _)) rfl rfl
  ·
   refine T_skip (T_seq (T_region hc (Ch.s (.d (.int .i64 0)) pa (Ch.nil (T_ret ?_)))))
   exact endR [(.d (.int .i64 0))] [] [] (.cons (.tmp 4 rfl) .nil) (.cons (.any _) (.cons (.any _) .nil)) (Exp.of (congrArg (D.int .i64) a20) (.d _)) rfl rfl

theorem sp_isBetter (u : Value) (l t : List (List UInt8)) (f : Bool) (hl : bulkS l ≤ 1048576) (ht : bulkS t ≤ 1048576) : Sp Tryz.prog 228 [(.box [(.hole u), (.slice true 1 (l.map D.str)), (.bool (f))]), (.slice false 1 (t.map D.str))] [(.box [(.hole u), (.slice true 1 (l.map D.str)), (.bool (f))]), .any] (.bool (betI t (l, f))) := by
 refine Sp_intro (lend := false) Tryz.func228 rfl rfl rfl (fun h => nomatch h) (fun c hc hX => ?_)
 refine T_open 1 8000010 rfl rfl rfl ?_
 have hn := bulk_len hl; have hm := bulk_len ht
 refine T_seq (T_region hc (Ch.s (.d (.bool false)) pa (Ch.nil (T_seq ?_))))
 refine T_regionD hc (by kernel_rfl) ?_
 refine ChD.s (.d (.slice false 1 (t.map D.str))) [] pm (ChD.s (.d (.int .i64 (lits t : Int))) [] (.call 8000 202 _ _ _ en202 rfl (.inl rfl) (.cons (.d _) .nil) rfl rfl (sp_impl_literals t a17) (.skip _ _ .nil) rfl) (ChD.s (.ptr 1 0) [] pm (ChD.s (.ptr 1 0) [] (.pure (.nilPtr _ rfl rfl)) (ChD.s (.ptr 1 1) [] (.pure (.fldPtr _ _ _ rfl fld183_1 rfl)) (ChD.s (.row 8000010) [1] (.pure (.loadPtr1 _ _ rfl ag23 rfl rfl rfl)) (ChD.s (.d (.int .i64 (lits l : Int))) [8000010] (.call 13000 202 _ _ _ en202 rfl (.inl rfl) (.cons (.lend (.row rfl (frozs_map (fun _ => rfl) _))) .nil) rfl rfl (sp_impl_literals l a17) (.skip _ _ .nil) rfl) (ChD.s (.d (.int .i64 (lits t : Int))) [] pa ?_)))))))
 refine ChD.s (.d (.int .i64 (lits l : Int))) [] pa ?_
 refine ChD.nil (And.intro ?_ (by kernel_rfl))
 refine T_seq (T_region hc (Ch.s (.ptr 1 0) pm (Ch.s (.ptr 1 0) (.pure (.nilPtr _ rfl rfl)) (Ch.s (.ptr 1 2) (.pure (.fldPtr _ _ _ rfl fld183_2 rfl)) (Ch.s (.d (.bool (f))) (.pure (.loadPtr1 _ _ rfl ag4 rfl rfl rfl)) (Ch.s (.d (.bool (!(f)))) (.pure (.not _ _ rfl rfl)) (Ch.s (.d (.bool (!(f)))) pm ?_)))))))
 cases h1 : (f) with
 | true =>
  refine Ch.s (.d (.int .i64 (lits t : Int))) pm (Ch.s (.d (.int .i64 (lits l : Int))) pm (Ch.s (.d (.bool (decide ((lits t : Int) < (lits l : Int))))) (iX rfl rfl rfl) (Ch.s (.d (.bool (decide ((lits t : Int) < (lits l : Int))))) (.pure (.pickF _ _ _ rfl rfl rfl)) (Ch.s (.d (.bool (decide ((lits t : Int) < (lits l : Int))))) pm ?_))))
  cases h2 : (decide ((lits t : Int) < (lits l : Int))) with
  | true =>
   replace h2 := of_decide_eq_true h2
   refine Ch.skip rfl rfl (Ch.skip rfl rfl (Ch.skip rfl rfl (Ch.skip rfl rfl (Ch.skip rfl rfl (Ch.skip rfl rfl (Ch.skip rfl rfl (Ch.skip rfl rfl ?_)))))))
   refine Ch.skip rfl rfl (Ch.skip rfl rfl (Ch.skip rfl rfl (Ch.skip rfl rfl (Ch.s (.d (.bool true)) (.pure (.pickT _ _ _ rfl rfl rfl)) (Ch.s (.d (.bool true)) pa (Ch.nil (T_ret ?_)))))))
   exact endR [(.d (.bool true))] [1, 8000010] [] (.cons (.tmp 4 rfl) .nil) (.cons (.box rfl (.cons (.d _) (.cons (.row rfl) (.cons (Exp.of (congrArg D.bool a32) (.d _)) .nil))) rfl) (.cons (.any _) .nil)) (Exp.of (congrArg D.bool a32) (.d _)) rfl rfl
  | false =>
   replace h2 := of_decide_eq_false h2
   refine Ch.s (.d (.int .i64 (lits t : Int))) pm (Ch.s (.d (.int .i64 (lits l : Int))) pm (Ch.s (.d (.bool (decide ((lits t : Int) = (lits l : Int))))) (iX rfl rfl rfl) (Ch.s (.d (.bool (decide ((lits t : Int) = (lits l : Int))))) pm ?_)))
   cases h3 : (decide ((lits t : Int) = (lits l : Int))) with
   | true =>
    replace h3 := of_decide_eq_true h3
    refine Ch.s (.d (.slice false 1 (t.map D.str))) pm (Ch.s (.ptr 1 0) pm (Ch.s (.ptr 1 0) (.pure (.nilPtr _ rfl rfl)) (Ch.s (.ptr 1 1) (.pure (.fldPtr _ _ _ rfl fld183_1 rfl)) (Ch.s (.row 8000010) (.pure (.loadPtr1 _ _ rfl ag23 rfl rfl rfl)) (Ch.s (.d (.int .i64 (cmpL t l))) (.call 34000 260 _ _ _ en260 rfl (.inl rfl) (.cons (.d _) (.cons (.lend (.row rfl (frozs_map (fun _ => rfl) _))) .nil)) rfl rfl (sp_cmpL t l a31 a31) (.skip _ _ (.skip _ _ .nil)) rfl) (Ch.s (.d (.bool (decide ((cmpL t l) < 0)))) (iX rfl rfl rfl) (Ch.s (.d (.bool (decide ((cmpL t l) < 0)))) (.pure (.pickT _ _ _ rfl rfl rfl)) ?_)))))))
    refine Ch.s (.d (.bool (decide ((cmpL t l) < 0)))) (.pure (.pickF _ _ _ rfl rfl rfl)) (Ch.s (.d (.bool (decide ((cmpL t l) < 0)))) pa (Ch.nil (T_ret ?_)))
    exact endR [(.d (.bool (decide ((cmpL t l) < 0))))] [1, 8000010] [] (.cons (.tmp 4 rfl) .nil) (.cons (.box rfl (.cons (.d _) (.cons (.row rfl) (.cons (Exp.of (congrArg D.bool a32) (.d _)) .nil))) rfl) (.cons (.any _) .nil)) (Exp.of (congrArg D.bool a32) (.d _)) rfl rfl
   | false =>
    replace h3 := of_decide_eq_false h3
    refine Ch.skip rfl rfl (Ch.skip rfl rfl (Ch.skip rfl rfl (Ch.skip rfl rfl (Ch.skip rfl rfl (Ch.skip rfl rfl (Ch.skip rfl rfl (Ch.s (.d (.bool false)) (.pure (.pickF _ _ _ rfl rfl rfl)) ?_)))))))
    refine Ch.s (.d (.bool false)) (.pure (.pickF _ _ _ rfl rfl rfl)) (Ch.s (.d (.bool false)) pa (Ch.nil (T_ret ?_)))
    exact endR [(.d (.bool false))] [1, 8000010] [] (.cons (.tmp 4 rfl) .nil) (.cons (.box rfl (.cons (.d _) (.cons (.row rfl) (.cons (Exp.of (congrArg D.bool a32) (.d _)) .nil))) rfl) (.cons (.any _) .nil)) (Exp.of (congrArg D.bool a32) (.d _)) rfl rfl
 | false =>
  refine Ch.skip rfl rfl (Ch.skip rfl rfl (Ch.skip rfl rfl (Ch.s (.d (.bool true)) (.pure (.pickT _ _ _ rfl rfl rfl)) (Ch.s (.d (.bool true)) pm (Ch.skip rfl rfl (Ch.skip rfl rfl (Ch.skip rfl rfl ?_)))))))
  refine Ch.skip rfl rfl (Ch.skip rfl rfl (Ch.skip rfl rfl (Ch.skip rfl rfl (Ch.skip rfl rfl (Ch.skip rfl rfl (Ch.skip rfl rfl (Ch.skip rfl rfl ?_)))))))
  refine Ch.skip rfl rfl (Ch.s (.d (.bool true)) (.pure (.pickT _ _ _ rfl rfl rfl)) (Ch.s (.d (.bool true)) pa (Ch.nil (T_ret ?_))))
  exact endR [(.d (.bool true))] [1, 8000010] [] (.cons (.tmp 4 rfl) .nil) (.cons (.box rfl (.cons (.d _) (.cons (.row rfl) (.cons (Exp.of (congrArg D.bool a32) (.d _)) .nil))) rfl) (.cons (.any _) .nil)) (Exp.of (congrArg D.bool a32) (.d _)) rfl rfl

theorem bulk_small {l : List (List UInt8)} {n : Nat} (h6 : n ≤ 8) (h1 : l.length ≤ 7) (h2 : ∀ q ∈ l, q.length = n) : bulkS l ≤ 1048576 := by
 have key : ∀ l : List (List UInt8), (∀ q ∈ l, q.length = n) → (l.map List.length).sum = l.length * n := by
  intro l
  induction l with
  | nil => intro _; simp
  | cons a l ih =>
   intro h
   rw [List.map_cons, List.sum_cons, ih (fun q hq => h q (List.mem_cons_of_mem _ hq)), h a List.mem_cons_self, List.length_cons, Nat.add_mul]; omega
 have h3 := key l h2
 have h4 : l.length * n ≤ 7 * 8 := Nat.mul_le_mul h1 h6
 unfold bulkS; omega

theorem endI_yes {l : List (List UInt8)} {m : Nat} {p : List (List UInt8) × Bool} (h1 : (Lib.compact (l.mergeSort leS)).length = l.length) (h2 : m = 0) (h3 : betI (l.mergeSort leS) (p.1, p.2) = true) : endI l m p = (l.mergeSort leS, true) := by
 unfold endI
 rw [decide_eq_true h1, decide_eq_true h2, show betI (l.mergeSort leS) p = true from h3]; rfl

theorem endI_no1 {l : List (List UInt8)} {m : Nat} {p : List (List UInt8) × Bool} (h1 : ¬ (Lib.compact (l.mergeSort leS)).length = l.length) : endI l m p = p := by
 unfold endI
 rw [decide_eq_false h1]; rfl

theorem endI_no2 {l : List (List UInt8)} {m : Nat} {p : List (List UInt8) × Bool} (h2 : ¬ m = 0) : endI l m p = p := by
 unfold endI
 rw [decide_eq_false h2, Bool.false_and, Bool.and_false]; rfl

theorem endI_no3 {l : List (List UInt8)} {m : Nat} {p : List (List UInt8) × Bool} (h3 : betI (l.mergeSort leS) (p.1, p.2) = false) : endI l m p = p := by
 unfold endI
 rw [show betI (l.mergeSort leS) p = false from h3, Bool.and_false, Bool.and_false]; rfl

theorem chF_z {pr : List (List UInt8)} {m : Nat} {on l : List (List UInt8)} {p : List (List UInt8) × Bool} (h : m = 0) (h2 : ¬ on.length = 0) : chF pr m on l p = p := by subst h; exact chF_zero h2

theorem chF_nx {pr : List (List UInt8)} {m : Nat} {on l : List (List UInt8)} {p : List (List UInt8) × Bool} {k : Nat} (hm : ¬ m = 0) (h2 : ¬ on.length = 0) (hk : pr.length ≤ k) : chF pr m on l p = chTo pr (m - 1) on l p k := by
 obtain ⟨q, rfl⟩ : ∃ q, m = q + 1 := ⟨m - 1, by omega⟩
 exact chF_next h2 hk

theorem chTo_yes {pr : List (List UInt8)} {m : Nat} {on l : List (List UInt8)} {p : List (List UInt8) × Bool} {k : Nat} (h : k < pr.length) (hb : hasB (pr.getD k default) (on.getD 0 default) = true) : chF pr m (on.filter fun c => !hasB (pr.getD k default) c) (l ++ [pr.getD k default]) (chTo pr m on l p k) = chTo pr m on l p (k + 1) := by rw [chTo_succ h, if_pos hb]

theorem chTo_no {pr : List (List UInt8)} {m : Nat} {on l : List (List UInt8)} {p : List (List UInt8) × Bool} {k : Nat} (h : k < pr.length) (hb : hasB (pr.getD k default) (on.getD 0 default) = false) : chTo pr m on l p k = chTo pr m on l p (k + 1) := by rw [chTo_succ h, hb]; rfl

theorem snoc_all {l : List (List UInt8)} {q : List UInt8} {n : Nat} (h : ∀ a ∈ l, a.length = n) (hq : q.length = n) : ∀ a ∈ l ++ [q], a.length = n := fun a ha => by
  rcases List.mem_append.1 ha with ha | ha
  · exact h a ha
  · rw [List.mem_singleton] at ha; rw [ha]; exact hq

theorem sp_choose_1 (v q : List UInt8) (ha : q.length ≤ 1048576) (hl : q.length ≤ v.length) : Sp Tryz.prog 229 [(.str v), (.ref (.str q))] [.any, .any] (.bool (hasB q v)) := by
 refine Sp_intro (lend := true) Tryz.func229 rfl rfl rfl (fun _ => rfl) (fun c hc hX => ?_)
 refine T_seq (T_region hc (Ch.s (.d (.bool false)) pa (Ch.nil (T_seq (T_region hc (Ch.s (.d (.str q)) (.pure (.loadRef1 _ _ rfl ag9 rfl rfl)) (Ch.s (.d (.str v)) pm ?_)))))))
 refine Ch.s (.d (.bool (hasB q v))) (.call 6000 198 _ _ _ en198 rfl (.inl rfl) (.cons (.d _) (.cons (.d _) .nil)) rfl rfl (sp_impl_contains q v a17 a17) (.skip _ _ (.skip _ _ .nil)) rfl) (Ch.s (.d (.bool (hasB q v))) pa (Ch.nil (T_ret ?_)))
 exact endR [(.d (.bool (hasB q v)))] [] [] (.cons (.tmp 3 rfl) .nil) (.cons (.any _) (.cons (.any _) .nil)) (.d _) rfl rfl

set_option maxHeartbeats 2000000 in
theorem sp_choose_step (u : Value) (pr : List (List UInt8)) (n m : Nat) (z : Int) (on l : List (List UInt8)) (p : (List (List UInt8) × Bool)) (hz : z = (m : Int)) (hn6 : n ≤ 8) (hpr : ∀ q ∈ pr, q.length = n) (hprl : pr.length ≤ 1048576) (hon : ∀ c ∈ on, c.length = n) (honl : on.length ≤ 1048576) (hl : ∀ q ∈ l, q.length = n) (hlm : l.length + m ≤ 7) (hp : POk n 7 p) (ih : ∀ (j : Nat) (z : Int) (on l : List (List UInt8)) (p : (List (List UInt8) × Bool)), j + 1 = m → z = (j : Int) → (∀ c ∈ on, c.length = n) → on.length ≤ 1048576 → (∀ q ∈ l, q.length = n) → l.length + j ≤ 7 → POk n 7 p → SpQ (fun S w _ => DRs S w [.slice false 1 (pr.map D.str)] [u] []) Tryz.prog 176 [(.box [(.hole u), (.slice true 1 (p.1.map D.str)), (.bool (p.2))]), .slice false 1 (on.map D.str), .slice false 1 (l.map D.str), .int .i64 z] [(.box [(.hole u), (.slice true 1 (((chF pr j on l p).1).map D.str)), (.bool ((chF pr j on l p).2))]), .any, .any, .any] (.tup [])) : SpQ (fun S w _ => DRs S w [(.slice false 1 (pr.map D.str))] [u] []) Tryz.prog 176 [(.box [(.hole u), (.slice true 1 (p.1.map D.str)), (.bool (p.2))]), (.slice false 1 (on.map D.str)), (.slice false 1 (l.map D.str)), (.int .i64 z)] [(.box [(.hole u), (.slice true 1 (((chF pr m on l p).1).map D.str)), (.bool ((chF pr m on l p).2))]), .any, .any, .any] (.tup []) := by
 refine SpG_intro Tryz.func176 rfl [900001] rfl rfl rfl (fun c hc => ?_)
 refine T_open 1 8000010 rfl rfl rfl ?_
 have hll : l.length ≤ 7 := by omega
 have hl2 : l.length ≤ 1048576 := by omega
 have hpb := bulk_small hn6 hp.len hp.all
 have hs7 : (l.mergeSort leS).length ≤ 7 := (by rw [List.length_mergeSort]; exact hll)
 have hsb : bulkS (l.mergeSort leS) ≤ 1048576 := bulk_small hn6 hs7 (fun q hq => hl q (List.mem_mergeSort.1 hq))
 have hs8 : (l.mergeSort leS).length ≤ 1048576 := by omega
 refine T_seq (T_seq (T_region hc (Ch.s (.d (.slice false 1 (on.map D.str))) pm (Ch.s (.d (.int .i64 (on.length : Int))) (.pure (.len _ _ 9 rfl Tryz.underlying23 (.sh _ _) (by simp))) (Ch.s (.d (.bool (decide ((on.length : Int) = 0)))) (iX rfl rfl rfl) (Ch.nil ?_))))))
 refine T_condD (p := ((on.length : Int) = 0)) rfl (fun h1 => ?_) (fun h1 => ?_)
 ·
  refine T_seq (T_region hc (Ch.s (.d (.slice false 1 (l.map D.str))) pm ?_))
  refine Ch.step (v := (.row 16000)) rfl (.call 16000 227 _ _ _ en227 rfl (.inl rfl) (.cons (.d _) .nil) rfl (sol (solid_row (fun _ => rfl) _) rfl) (sp_Clone_str l a17) (.skip _ _ .nil) rfl) rfl rfl ?_
  refine Ch.s (.row 16000) pa (Ch.nil (T_seq (T_region hc (Ch.s (.row 16000) pm ?_))))
  refine Ch.step (v := (.tup [])) rfl (.call 18000 124 _ _ _ en124 rfl (.inl rfl) (.cons (.row rfl) .nil) rfl (sol rfl (solids_c (solid_row (fun _ => rfl) _) rfl)) (sp_Sort_str l a31) (.row _ _ _ .nil) rfl) rfl rfl ?_
  refine Ch.nil (T_seq (T_seq (T_region hc (Ch.s (.row 16000) pm ?_))))
  refine Ch.step (v := (.row 20000)) rfl (.call 20000 227 _ _ _ en227 rfl (.inl rfl) (.cons (.lend (.row rfl (frozs_map (fun _ => rfl) _))) .nil) rfl (sol (solid_row (fun _ => rfl) _) rfl) (sp_Clone_str (l.mergeSort leS) a17) (.skip _ _ .nil) rfl) rfl rfl ?_
  refine Ch.step (v := (.row 21000)) rfl (.call 21000 209 _ _ _ en209 rfl (.inl rfl) (.cons (.row rfl) .nil) rfl (sol (solid_row (fun _ => rfl) _) rfl) (sp_Compact_str (l.mergeSort leS) a62) (.skip _ _ .nil) rfl) rfl rfl ?_
  refine Ch.s (.d (.int .i64 ((Lib.compact (l.mergeSort leS)).length : Int))) (.pure (.len _ _ 9 rfl Tryz.underlying23 (.row rfl) (by simp))) (Ch.s (.d (.slice false 1 (l.map D.str))) pm (Ch.s (.d (.int .i64 (l.length : Int))) (.pure (.len _ _ 9 rfl Tryz.underlying23 (.sh _ _) (by simp))) (Ch.s (.d (.bool (decide (((Lib.compact (l.mergeSort leS)).length : Int) = (l.length : Int))))) (iX rfl rfl rfl) (Ch.s (.d (.bool (decide (((Lib.compact (l.mergeSort leS)).length : Int) = (l.length : Int))))) pm ?_))))
  cases h2 : (decide (((Lib.compact (l.mergeSort leS)).length : Int) = (l.length : Int))) with
  | true =>
   replace h2 := of_decide_eq_true h2
   refine Ch.s (.d (.int .i64 z)) pm (Ch.s (.d (.bool (decide (z = 0)))) (iX rfl rfl rfl) (Ch.s (.d (.bool (decide (z = 0)))) (.pure (.pickT _ _ _ rfl rfl rfl)) (Ch.s (.d (.bool (decide (z = 0)))) pm ?_)))
   cases h3 : (decide (z = 0)) with
   | true =>
    replace h3 := of_decide_eq_true h3
    refine Ch.s (.ptr 1 0) pm (Ch.s (.row 16000) pm ?_)
    refine Ch.step (v := (.d (.bool (betI (l.mergeSort leS) (p.1, (p.2)))))) rfl (.call 33000 228 _ _ _ en228 rfl (.inl rfl) (.cons (.box rfl (.cons (.d _) (.cons (.row rfl) (.cons (.d _) .nil))) rfl) (.cons (.lend (.row rfl (frozs_map (fun _ => rfl) _))) .nil)) rfl (sol rfl (solids_c a74 rfl)) (sp_isBetter u p.1 (l.mergeSort leS) (p.2) (by assumption) (by assumption)) (.box _ _ (.skip _ _ .nil)) rfl) rfl rfl ?_
    refine Ch.opens 1 8000020 rfl rfl rfl ?_
    refine Ch.s (.d (.bool (betI (l.mergeSort leS) (p.1, (p.2))))) (.pure (.pickT _ _ _ rfl rfl rfl)) (Ch.nil ?_)
    refine T_cond (b := (betI (l.mergeSort leS) (p.1, (p.2)))) rfl (fun h4 => ?_) (fun h4 => ?_)
    ·
     try have hqk := hpr _ (getD_mem (l := pr) (j := k) (d := default) (by omega))
     try have hok := hon _ (getD_mem (l := on) (j := 0) (d := default) (by omega))
     refine T_region hc (Ch.s (.ptr 1 0) pm (Ch.s (.ptr 1 0) pm (Ch.s (.row 16000) pm (Ch.s (.ptr 1 0) (.pure (.nilPtr _ rfl rfl)) (Ch.s (.ptr 1 1) (.pure (.fldPtr _ _ _ rfl fld183_1 rfl)) (Ch.s .junk (.storePtr _ _ _ rfl rfl rfl (.one _ rfl) sz23 (lb rfl)) (Ch.s (.ptr 1 0) (.pure (.nilPtr _ rfl rfl)) ?_)))))))
     refine Ch.s (.ptr 1 2) (.pure (.fldPtr _ _ _ rfl fld183_2 rfl)) (Ch.s .junk (.storePtr _ _ _ rfl rfl rfl (.one _ rfl) sz4 (lb rfl)) (Ch.nil (T_ret ?_)))
     exact endR [] [1, 16000] [] .nil (.cons (.box rfl (.cons (.d _) (.cons (Exp.of (congrArg (D.slice true 1) a10) (.row rfl)) (.cons (Exp.of (congrArg D.bool a10) (.d _)) .nil))) rfl) (.cons (.any _) (.cons (.any _) (.cons (.any _) .nil)))) (.tup .nil) rfl rfl
    ·
     try have hqk := hpr _ (getD_mem (l := pr) (j := k) (d := default) (by omega))
     try have hok := hon _ (getD_mem (l := on) (j := 0) (d := default) (by omega))
     refine T_skip (T_ret ?_)
     exact endR [] [1, 8000020] [] .nil (.cons (.box rfl (.cons (.d _) (.cons (Exp.of (congrArg (D.slice true 1) a10) (.row rfl)) (.cons (Exp.of (congrArg D.bool a10) (.d _)) .nil))) rfl) (.cons (.any _) (.cons (.any _) (.cons (.any _) .nil)))) (.tup .nil) rfl rfl
   | false =>
    replace h3 := of_decide_eq_false h3
    refine Ch.skip rfl rfl (Ch.skip rfl rfl (Ch.skip rfl rfl (Ch.s (.d (.bool false)) (.pure (.pickF _ _ _ rfl rfl rfl)) (Ch.nil ?_))))
    refine T_cond (b := false) rfl (fun h => nomatch h) (fun _ => ?_)
    refine T_skip (T_ret ?_)
    exact endR [] [1, 8000010] [] .nil (.cons (.box rfl (.cons (.d _) (.cons (Exp.of (congrArg (D.slice true 1) a10) (.row rfl)) (.cons (Exp.of (congrArg D.bool a10) (.d _)) .nil))) rfl) (.cons (.any _) (.cons (.any _) (.cons (.any _) .nil)))) (.tup .nil) rfl rfl
  | false =>
   replace h2 := of_decide_eq_false h2
   refine Ch.skip rfl rfl (Ch.skip rfl rfl (Ch.s (.d (.bool false)) (.pure (.pickF _ _ _ rfl rfl rfl)) (Ch.s (.d (.bool false)) pm (Ch.skip rfl rfl (Ch.skip rfl rfl (Ch.skip rfl rfl (Ch.s (.d (.bool false)) (.pure (.pickF _ _ _ rfl rfl rfl)) ?_)))))))
   refine Ch.nil ?_
   refine T_cond (b := false) rfl (fun h => nomatch h) (fun _ => ?_)
   refine T_skip (T_ret ?_)
   exact endR [] [1, 8000010] [] .nil (.cons (.box rfl (.cons (.d _) (.cons (Exp.of (congrArg (D.slice true 1) a10) (.row rfl)) (.cons (Exp.of (congrArg D.bool a10) (.d _)) .nil))) rfl) (.cons (.any _) (.cons (.any _) (.cons (.any _) .nil)))) (.tup .nil) rfl rfl
 ·
  refine T_skip (T_seq (T_seq (T_region hc (Ch.s (.d (.int .i64 z)) pm (Ch.s (.d (.bool (decide (z = 0)))) (iX rfl rfl rfl) (Ch.nil ?_))))))
  refine T_condD (p := (z = 0)) rfl (fun h5 => ?_) (fun h5 => ?_)
  ·
   try have hqk := hpr _ (getD_mem (l := pr) (j := k) (d := default) (by omega))
   try have hok := hon _ (getD_mem (l := on) (j := 0) (d := default) (by omega))
   refine T_ret ?_
   exact endR [] [1, 8000010] [] .nil (.cons (.box rfl (.cons (.d _) (.cons (Exp.of (congrArg (D.slice true 1) a10) (.row rfl)) (.cons (Exp.of (congrArg D.bool a10) (.d _)) .nil))) rfl) (.cons (.any _) (.cons (.any _) (.cons (.any _) .nil)))) (.tup .nil) rfl rfl
  ·
   try have hqk := hpr _ (getD_mem (l := pr) (j := k) (d := default) (by omega))
   try have hok := hon _ (getD_mem (l := on) (j := 0) (d := default) (by omega))
   refine T_skip (T_seq (T_region hc (Ch.s (.ptr 1 0) pm (Ch.s (.ptr 1 0) (.pure (.nilPtr _ rfl rfl)) (Ch.s (.ptr 1 0) (.pure (.fldPtr _ _ _ rfl fld183_0 rfl)) (Ch.s (.d (.hole u)) (.pure (.loadPtr1 _ _ rfl ag23 rfl rfl rfl)) ?_))))))
   refine Ch.see 47 900001 rfl rfl rfl ?_
   refine Ch.s (.d (.int .i64 (pr.length : Int))) (.pure (.len _ _ 9 rfl Tryz.underlying23 (.sh _ _) (by simp))) (Ch.s (.d (.int .i64 0)) pm (Ch.nil (T_block ?_)))
   refine T_loop (ι := Nat) (fun k => { n := 77, sl := [(0, (.ptr 1 0)), (1, (.d (.slice false 1 (on.map D.str)))), (2, (.d (.slice false 1 (l.map D.str)))), (3, (.d (.int .i64 z))), (47, (.d (.slice false 1 (pr.map D.str)))), (48, (.d (.int .i64 (pr.length : Int)))), (49, (.d (.int .i64 (k : Int))))], hp := [(1, (some (.box [(.d (.hole u)), (.row 7700), (.d (.bool ((chTo pr (m - 1) on l p k).2)))]))), (7700, (some (.row 1 (((chTo pr (m - 1) on l p k).1).map D.str)))), (900001, (some (.ghost (.slice false 1 (pr.map D.str)) u)))], pin := [1] }) (fun k => k ≤ pr.length) (fun k => pr.length - k) ⟨0, (by omega), (Wk.ren [(7700, 8000010)] rfl rfl rfl rfl (ai rfl (ai rfl (ai rfl (ai rfl (ai rfl (ai rfl (ai (vI a93) trivial))))))) (ai (oB (Eq.trans (b := [(.d (.hole u)), (.row 8000010), (.d (.bool (p.2)))]) rfl a9)) (ai (oR a23) (ai rfl trivial))))⟩ (fun k hp0 => ?_)
   have hpk := chTo_ok hpr (m := m - 1) (on := on) (l := l) (p := p) (N := 7) (by omega) hl hp k hp0
   refine T_seq (T_region hc (Ch.s (.d (.bool (decide ((k : Int) < (pr.length : Int))))) (iX rfl rfl rfl) (Ch.nil (T_seq ?_))))
   refine T_condD (p := ((k : Int) < (pr.length : Int))) rfl (fun h6 => ?_) (fun h6 => ?_)
   ·
    try have hqk := hpr _ (getD_mem (l := pr) (j := k) (d := default) (by omega))
    try have hok := hon _ (getD_mem (l := on) (j := 0) (d := default) (by omega))
    refine T_skip (T_seq (T_block (T_seq (T_region hc (Ch.s (.d (.ref (.str (pr.getD k default)))) (.pure (.idx _ _ _ 9 (k) rfl Tryz.underlying23 sz9 rfl rfl rfl get_mapA)) (Ch.s (.d (.str (pr.getD k default))) (.pure (.loadRef1 _ _ rfl ag9 rfl rfl)) (Ch.s (.ptr 10000 0) (.alloc 10000 _ rfl zer9) ?_)))))))
    refine Ch.s .junk (.storePtr _ _ _ rfl rfl rfl (.one _ rfl) sz9 (lb rfl)) (Ch.nil (T_seq ?_))
    refine T_regionD hc (by kernel_rfl) ?_
    refine ChD.s (.d (.str (pr.getD k default))) [10000] (.pure (.loadPtr1 _ _ rfl ag9 rfl rfl rfl)) (ChD.s (.d (.slice false 1 (on.map D.str))) [] pm (ChD.s (.d (.ref (.str (on.getD 0 default)))) [] (.pure (.idx _ _ _ 9 (0) rfl Tryz.underlying23 sz9 rfl rfl rfl get_mapA)) (ChD.s (.d (.str (on.getD 0 default))) [] (.pure (.loadRef1 _ _ rfl ag9 rfl rfl)) (ChD.s (.d (.bool (hasB (pr.getD k default) (on.getD 0 default)))) [] (.call 57000 198 _ _ _ en198 rfl (.inl rfl) (.cons (.d _) (.cons (.d _) .nil)) rfl rfl (sp_impl_contains (pr.getD k default) (on.getD 0 default) a17 a17) (.skip _ _ (.skip _ _ .nil)) rfl) ?_))))
    refine ChD.nil (And.intro ?_ (by kernel_rfl))
    refine T_cond (b := (hasB (pr.getD k default) (on.getD 0 default))) rfl (fun h7 => ?_) (fun h7 => ?_)
    ·
     try have hqk := hpr _ (getD_mem (l := pr) (j := k) (d := default) (by omega))
     try have hok := hon _ (getD_mem (l := on) (j := 0) (d := default) (by omega))
     refine T_seq (T_region hc (Ch.s (.d (.slice false 1 (on.map D.str))) pm ?_))
     refine Ch.step (v := (.row 59000)) rfl (.call 59000 227 _ _ _ en227 rfl (.inl rfl) (.cons (.d _) .nil) rfl (sol (solid_row (fun _ => rfl) _) rfl) (sp_Clone_str on a17) (.skip _ _ .nil) rfl) rfl rfl ?_
     refine Ch.s (.fn 229 [(.ptr 10000 0)]) (.pure (.func _ _ rfl rfl)) ?_
     refine Ch.step (v := (.row 61000)) rfl (.call 61000 223 _ _ _ en223 rfl (.inl rfl) (.cons (.row rfl) (.cons (.lend (.fn (.cons (.ptr rfl (.one (.d _) rfl)) .nil))) .nil)) rfl (sol (solid_row (fun _ => rfl) _) rfl) (sp_DeleteFunc_str on 229 [(.ref (.str (pr.getD k default)))] (hasB (pr.getD k default)) en229 (fun v hv => sp_choose_1 v (pr.getD k default) (by omega) (by have := hon v hv; omega)) a17) (.skip _ _ (.skip _ _ .nil)) rfl) rfl rfl ?_
     refine Ch.s (.row 61000) pa (Ch.nil ?_)
     refine T_regionD hc (by kernel_rfl) ?_
     refine ChD.s (.ptr 1 0) [] pm (ChD.s (.row 61000) [] pm (ChD.s (.d (.slice false 1 (l.map D.str))) [] pm (ChD.s (.d (.slice false 1 (l.map D.str))) [] pm (ChD.s (.d (.int .i64 (l.length : Int))) [] (.pure (.len _ _ 9 rfl Tryz.underlying23 (.sh _ _) (by simp))) (ChD.s (.d (.slice false 1 (l.map D.str))) [] pm (ChD.s (.d (.int .i64 (l.length : Int))) [] (.pure (.len _ _ 9 rfl Tryz.underlying23 (.sh _ _) (by simp))) (ChD.s (.tight 1 (l.map D.str)) [] (tightA 9 Tryz.underlying23 sz9 (.inl rfl) ⟨_, rfl, (bndS rfl rfl)⟩ (bndS rfl rfl) (by simp)) ?_)))))))
     refine ChD.s (.d (.str (pr.getD k default))) [10000] (.pure (.loadPtr1 _ _ rfl ag9 rfl rfl rfl)) (ChD.s (.row 71000) [] (.slice 71000 _ 9 _ rfl sty23 (xs := [.tmp 70]) rfl rfl (.cons (.d _) .nil) rfl rfl (by decide)) (ChD.s (.row 72000) [71000] (.appendT 72000 _ _ _ 9 rfl sty23 (by decide) rfl (.row rfl rfl) (by simp) a35) (ChD.s (.d (.int .i64 z)) [] pm (ChD.s (.d (.int .i64 (z - 1))) [] (iX rfl rfl intV_subA) (ChD.s (.tup []) [1, 7700, 61000, 72000, 900001] (.callG (ms := [900001]) 75000 176 _ _ _ en176 rfl (.inl rfl) (.cons (.box rfl (.cons (.d _) (.cons (.row rfl) (.cons (.d _) .nil))) rfl) (.cons (.lend (.row rfl (frozs_map (fun _ => rfl) _))) (.cons (.lend (.row rfl (snocS _ _))) (.cons (.d _) .nil)))) rfl (sol rfl (solids_c a74 rfl)) (ih (m - 1) (z - 1) (on.filter (fun u => !(hasB (pr.getD k default)) u)) (l ++ [(pr.getD k default)]) (chTo pr (m - 1) on l p k) (by omega) (by omega) (fun c hc => hon c (List.mem_filter.1 hc).1) (Nat.le_trans (List.length_filter_le _ _) honl) (snoc_all hl (hpr _ (getD_mem (by omega)))) a92 hpk) ⟨rfl, trivial⟩ (.box _ _ (.skip _ _ (.skip _ _ (.skip _ _ .nil)))) rfl) ?_)))))
     refine ChD.nil (And.intro ?_ (by kernel_rfl))
     refine T_open 1 8000030 rfl rfl rfl ?_
     refine T_region hc (Ch.s (.d (.int .i64 ((k : Int) + 1))) (iX rfl rfl intV_addA) (Ch.s (.d (.int .i64 ((k : Int) + 1))) pm (Ch.nil ?_)))
     exact nx (k + 1) (by omega) (Wk.ren [(7700, 8000030)] rfl rfl rfl rfl (ai rfl (ai rfl (ai rfl (ai rfl (ai rfl (ai rfl (ai (vI a93) trivial))))))) (ai (oB (Eq.trans (b := [(.d (.hole u)), (.row 8000030), (.d (.bool ((chF pr (m - 1) (on.filter (fun u => !(hasB (pr.getD k default)) u)) (l ++ [(pr.getD k default)]) (chTo pr (m - 1) on l p k)).2)))]) rfl a9)) (ai (oR a23) (ai rfl trivial))))
    ·
     try have hqk := hpr _ (getD_mem (l := pr) (j := k) (d := default) (by omega))
     try have hok := hon _ (getD_mem (l := on) (j := 0) (d := default) (by omega))
     refine T_skip (T_region hc (Ch.s (.d (.int .i64 ((k : Int) + 1))) (iX rfl rfl intV_addA) (Ch.s (.d (.int .i64 ((k : Int) + 1))) pm (Ch.nil ?_))))
     exact nx (k + 1) (by omega) (Wk.of rfl rfl (ai rfl (ai rfl (ai rfl (ai rfl (ai rfl (ai rfl (ai (vI a93) trivial))))))) (ai (oB (Eq.trans (b := [(.d (.hole u)), (.row 7700), (.d (.bool ((chTo pr (m - 1) on l p k).2)))]) rfl a9)) (ai (oR a23) (ai rfl trivial))))
   ·
    try have hqk := hpr _ (getD_mem (l := pr) (j := k) (d := default) (by omega))
    try have hok := hon _ (getD_mem (l := on) (j := 0) (d := default) (by omega))
    refine T_exit ?_
    exact endN [] [1, 7700] [] .nil (.cons (.box rfl (.cons (.d _) (.cons (Exp.of (congrArg (D.slice true 1) a10) (.row rfl)) (.cons (Exp.of (congrArg D.bool a10) (.d _)) .nil))) rfl) (.cons (.any _) (.cons (.any _) (.cons (.any _) .nil)))) (.tup .nil) rfl rfl

theorem sp_choose (u : Value) (pr : List (List UInt8)) (n : Nat) (hn6 : n ≤ 8) (hpr : ∀ q ∈ pr, q.length = n) (hprl : pr.length ≤ 1048576) : ∀ (m : Nat) (z : Int) (on l : List (List UInt8)) (p : (List (List UInt8) × Bool)), z = (m : Int) → (∀ c ∈ on, c.length = n) → on.length ≤ 1048576 → (∀ q ∈ l, q.length = n) → l.length + m ≤ 7 → POk n 7 p → SpQ (fun S w _ => DRs S w [.slice false 1 (pr.map D.str)] [u] []) Tryz.prog 176 [(.box [(.hole u), (.slice true 1 (p.1.map D.str)), (.bool (p.2))]), .slice false 1 (on.map D.str), .slice false 1 (l.map D.str), .int .i64 z] [(.box [(.hole u), (.slice true 1 (((chF pr m on l p).1).map D.str)), (.bool ((chF pr m on l p).2))]), .any, .any, .any] (.tup []) := by
 intro m
 induction m with
 | zero => intro z on l p hz a b c d e; exact sp_choose_step u pr n 0 z on l p hz hn6 hpr hprl a b c d e (fun j _ _ _ _ h => by omega)
 | succ m ih =>
  intro z on l p hz a b c d e
  exact sp_choose_step u pr n (m + 1) z on l p hz hn6 hpr hprl a b c d e (fun j z2 on2 l2 p2 h hz2 a2 b2 c2 d2 e2 => by
   have e1 : j = m := by omega
   subst e1
   exact ih z2 on2 l2 p2 hz2 a2 b2 c2 d2 e2)

theorem name_R {c : Ctx} {α : St} {a : Act} {w : World} (s m : Nat) {d : D} (hs : α.get s = .d d) (h1 : d.one = true) (hsn : Nat.blt s α.n = true) (hf : freshB [m] α = true) (hR : R c α a w) : ∃ u, R c ((α.ghosted m d u).put (some s) (.d (.hole u))) a w := by
 obtain ⟨β, φ, H⟩ := hR
 have hv := H.slots s
 rw [hs, VR] at hv
 obtain ⟨φ', H', _⟩ := ghost_Rel m (freshB_spec hf m (by simp)) hv H
 have hlt : s < a.tmps.size := by rw [H.size]; exact Nat.le_of_ble_eq_true hsn
 have h2 := H'.pure (some s) (fun d hd => by cases hd; exact Nat.le_of_ble_eq_true hsn) (.d (.hole (a.tmps.getD s undef))) (a.tmps.getD s undef) (by rw [VR, DR]; exact ⟨⟨rfl, cells_of_one h1 hv⟩, rfl⟩)
 have e : a.put (some s) (a.tmps.getD s undef) = a := by
  unfold Act.put
  cases a with
  | mk tmps defers =>
   simp only [Act.mk.injEq, and_true]
   exact set_same hlt
 rw [e] at h2
 exact ⟨_, β, φ', h2⟩

theorem ch_name {P : Program} {all : Array Oper} {K : St → Prop} {l : List Oper} {α : St} (s m : Nat) {d : D} (hs : α.get s = .d d) (h1 : d.one = true) (hsn : Nat.blt s α.n = true) (hf : freshB [m] α = true) (h : ∀ u, Ch P all K l ((α.ghosted m d u).put (some s) (.d (.hole u)))) : Ch P all K l α :=
 .ghost (ι := Value) (fun u => (α.ghosted m d u).put (some s) (.d (.hole u))) (fun _ _ _ hR => name_R s m hs h1 hsn hf hR) h

def minI (n : Nat) (on off : List (List UInt8)) : (List (List UInt8) × Bool) := if decide (((primL n on off).length : Int) ≤ 60) then minF (primL n on off) on else ([], false)

set_option maxHeartbeats 1000000 in
theorem sp_impl_minimum (n : Int) (on off : List (List UInt8)) (h0 : 0 ≤ n) (h8 : n ≤ 8) (hn1 : on.length ≤ 1048576) (hn2 : off.length ≤ 1048576) (ho1 : ∀ u ∈ on, (u.length : Int) = n) (ho2 : ∀ u ∈ off, (u.length : Int) = n) : Sp Tryz.prog 104 [(.int .i64 n), (.slice false 1 (on.map D.str)), (.slice false 1 (off.map D.str))] [.any, .any, .any] (.tup [(.slice true 1 (((minI n.toNat on off).1).map D.str)), (.bool ((minI n.toNat on off).2))]) := by
 refine Sp_intro (lend := true) Tryz.func104 rfl rfl rfl (fun _ => rfl) (fun c hc hX => ?_)
 have hon : ∀ c ∈ on, c.length = n.toNat := fun c hc => (by have := ho1 c hc; omega)
 have hpl := primL_le n.toNat on off
 have hp3 : 3 ^ n.toNat ≤ 3 ^ 8 := Nat.pow_le_pow_right (by omega) (by omega)
 have hpl2 : (primL n.toNat on off).length ≤ 1048576 := (by omega)
 have hp7 : POk n.toNat 7 ([], false) := ⟨by simp, fun q hq => by cases hq⟩
 refine T_seq (T_region hc (Ch.s (.c (.slice none 0 0)) pa (Ch.s (.d (.bool false)) pa (Ch.nil (T_seq (T_region hc (Ch.s (.d (.int .i64 n)) pm ?_)))))))
 refine Ch.s (.d (.slice false 1 (on.map D.str))) pm (Ch.s (.d (.slice false 1 (off.map D.str))) pm (Ch.s (.tup [(.d (.slice false 1 ((primL n.toNat on off).map D.str))), (.d (.bool (decide (((primL n.toNat on off).length : Int) ≤ 60))))]) (.callFz 16000 175 _ _ _ en175 rfl (.inl rfl) (.cons (.d _) (.cons (.d _) (.cons (.d _) .nil))) a85 (sp_impl_primes n on off (by assumption) (by assumption) (by assumption) (by assumption) (by assumption) (by assumption)) (tup_froz (froz_c (slice_froz (frozs_map (fun _ => rfl) _)) rfl)) rfl) (Ch.s (.tup [(.d (.slice false 1 ((primL n.toNat on off).map D.str))), (.d (.bool (decide (((primL n.toNat on off).length : Int) ≤ 60))))]) pm (Ch.s (.d (.slice false 1 ((primL n.toNat on off).map D.str))) (.pure (.extract _ rfl rfl rfl)) (Ch.s (.d (.bool (decide (((primL n.toNat on off).length : Int) ≤ 60)))) (.pure (.extract _ rfl rfl rfl)) (Ch.s (.d (.slice false 1 ((primL n.toNat on off).map D.str))) pa (Ch.s (.d (.bool (decide (((primL n.toNat on off).length : Int) ≤ 60)))) pa ?_)))))))
 refine Ch.nil (T_seq (T_seq (T_region hc (Ch.s (.d (.bool (decide (((primL n.toNat on off).length : Int) ≤ 60)))) pm (Ch.s (.d (.bool (!(decide (((primL n.toNat on off).length : Int) ≤ 60))))) (.pure (.not _ _ rfl rfl)) (Ch.nil ?_))))))
 refine T_condN (b := (decide (((primL n.toNat on off).length : Int) ≤ 60))) rfl (fun h1 => ?_) (fun h1 => ?_)
 ·
  replace h1 := of_decide_eq_false h1
  refine T_seq (T_region hc (Ch.s (.c (.slice none 0 0)) pa (Ch.s (.d (.bool false)) pa (Ch.nil (T_ret ?_)))))
  exact endR [(.c (.slice none 0 0)), (.d (.bool false))] [] [] (.cons (.tmp 6 rfl) (.cons (.tmp 7 rfl) .nil)) (.cons (.any _) (.cons (.any _) (.cons (.any _) .nil))) (.tup (.cons (Exp.of (congrArg (D.slice true 1) a18) (.nil true 1)) (.cons (Exp.of (congrArg D.bool a18) (.d _)) .nil))) rfl rfl
 ·
  replace h1 := of_decide_eq_true h1
  refine T_skip (T_seq (T_seq (T_region hc (Ch.s (.d (.int .i64 0)) pm (Ch.nil (T_block ?_))))))
  refine T_loop (ι := Nat) (fun m => { n := 40, sl := [(1, (.d (.slice false 1 (on.map D.str)))), (8, (.d (.slice false 1 ((primL n.toNat on off).map D.str)))), (21, (.d (.int .i64 (m : Int))))], hp := [], pin := [] }) (fun m => m ≤ 7 ∧ ∀ j, j < m → (rndI (primL n.toNat on off) on j).2 = false) (fun m => 7 - m) ⟨0, ⟨by omega, fun j hj => by omega⟩, (Wk.of rfl rfl (ai rfl (ai rfl (ai (vI a93) trivial))) trivial)⟩ (fun m hp0 => ?_)
  refine T_seq (T_region hc (Ch.s (.d (.bool (decide ((m : Int) < 7)))) (iX rfl rfl rfl) (Ch.nil (T_seq ?_))))
  refine T_condD (p := ((m : Int) < 7)) rfl (fun h2 => ?_) (fun h2 => ?_)
  ·
   refine T_skip (T_seq (T_block (T_seq (T_region hc (Ch.s (.d (.int .i64 (m : Int))) pm (Ch.s (.d (.int .i64 (m : Int))) pa (Ch.nil ?_)))))))
   refine T_seq (T_region hc (Ch.s (.d (.slice false 1 ((primL n.toNat on off).map D.str))) pm ?_))
   refine ch_name 24 900101 rfl rfl rfl rfl (fun g1 => ?_)
   refine Ch.s (.agg [(.d (.hole g1)), (.c (.slice none 0 0)), (.d (.bool false))]) (.build _ _ rfl stru183 (.cons (.one _ rfl) .nil) rfl) (Ch.s (.ptr 26000 0) (.box 26000 _ _ rfl (.agg _ rfl)) (Ch.s (.ptr 26000 0) pa (Ch.nil (T_seq (T_region hc (Ch.s (.ptr 26000 0) pm (Ch.s (.d (.slice false 1 (on.map D.str))) pm ?_)))))))
   refine Ch.s (.d (.int .i64 (m : Int))) pm ?_
   refine Ch.step (v := (.tup [])) rfl (.callG (ms := [900101]) 30000 176 _ _ _ en176 rfl (.inl rfl) (.cons (.box rfl (.cons (.d _) (.cons (.nil true 1) (.cons (.d _) .nil))) rfl) (.cons (.d _) (.cons (.lend (.nil false 1)) (.cons (.d _) .nil)))) rfl (sol rfl (solids_c a74 rfl)) (sp_choose g1 (primL n.toNat on off) n.toNat (by omega) primL_mem hpl2 m (m : Int) on [] ([], false) rfl hon (by assumption) (fun q hq => by cases hq) (by simp; omega) hp7) ⟨rfl, trivial⟩ (.box _ _ (.skip _ _ (.skip _ _ (.skip _ _ .nil)))) rfl) rfl rfl ?_
   refine Ch.opens 26000 8000010 rfl rfl rfl ?_
   refine Ch.nil (T_seq (T_region hc (Ch.s (.ptr 26000 0) pm (Ch.s (.ptr 26000 0) (.pure (.nilPtr _ rfl rfl)) (Ch.s (.ptr 26000 2) (.pure (.fldPtr _ _ _ rfl fld183_2 rfl)) (Ch.s (.d (.bool ((rndI (primL n.toNat on off) on m).2))) (.pure (.loadPtr1 _ _ rfl ag4 rfl rfl rfl)) (Ch.nil ?_)))))))
   refine T_cond (b := ((rndI (primL n.toNat on off) on m).2)) rfl (fun h3 => ?_) (fun h3 => ?_)
   ·
    refine T_seq (T_region hc (Ch.s (.ptr 26000 0) pm (Ch.s (.ptr 26000 0) (.pure (.nilPtr _ rfl rfl)) (Ch.s (.ptr 26000 1) (.pure (.fldPtr _ _ _ rfl fld183_1 rfl)) (Ch.s (.row 8000010) (.pure (.loadPtr1 _ _ rfl ag23 rfl rfl rfl)) (Ch.s (.row 8000010) pa (Ch.s (.d (.bool true)) pa ?_)))))))
    refine Ch.nil (T_ret ?_)
    exact endR [(.row 8000010), (.d (.bool true))] [] [8000010] (.cons (.tmp 6 rfl) (.cons (.tmp 7 rfl) .nil)) (.cons (.any _) (.cons (.any _) (.cons (.any _) .nil))) (.tup (.cons (Exp.of (congrArg (D.slice true 1) a18) (.row rfl)) (.cons (Exp.of (congrArg D.bool a18) (.d _)) .nil))) rfl rfl
   ·
    refine T_skip (T_region hc (Ch.s (.d (.int .i64 ((m : Int) + 1))) (iX rfl rfl intV_addA) (Ch.s (.d (.int .i64 ((m : Int) + 1))) pm (Ch.nil ?_))))
    exact nx (m + 1) ⟨by omega, upto_succ hp0.2 (by assumption)⟩ (Wk.of rfl rfl (ai rfl (ai rfl (ai (vI a93) trivial))) trivial)
  ·
   refine T_exit (T_seq (T_region hc (Ch.s (.c (.slice none 0 0)) pa (Ch.s (.d (.bool false)) pa (Ch.nil (T_ret ?_))))))
   exact endR [(.c (.slice none 0 0)), (.d (.bool false))] [] [] (.cons (.tmp 6 rfl) (.cons (.tmp 7 rfl) .nil)) (.cons (.any _) (.cons (.any _) (.cons (.any _) .nil))) (.tup (.cons (Exp.of (congrArg (D.slice true 1) a18) (.nil true 1)) (.cons (Exp.of (congrArg D.bool a18) (.d _)) .nil))) rfl rfl

def srT (pr on : List (List UInt8)) (m : Nat) (t : List (List UInt8)) (p : List (List UInt8) × Bool) (v : Nat) : List (List UInt8) × Bool := if m = 0 then p else srTo pr on (m - 1) t p v

theorem srT_zero {pr on : List (List UInt8)} {m : Nat} {t : List (List UInt8)} {p : List (List UInt8) × Bool} : srT pr on m t p 0 = p := by
  unfold srT; split
  · rfl
  · rfl

theorem srT_yes {pr on : List (List UInt8)} {m : Nat} {t : List (List UInt8)} {p : List (List UInt8) × Bool} {v : Nat} {c : List UInt8} (h : v < pr.length) (hm : ¬ m = 0) (hc : (unc on t).getD 0 default = c) (hb : hasB (pr.getD v default) c = true) : srF pr on (m - 1) (put14 t (pr.getD v default)) (srT pr on m t p v) = srT pr on m t p (v + 1) := by
 unfold srT
 rw [if_neg hm, if_neg hm, srTo_succ h, hc, if_pos hb]

theorem srT_no1 {pr on : List (List UInt8)} {m : Nat} {t : List (List UInt8)} {p : List (List UInt8) × Bool} {v : Nat} (hm : m = 0) : srT pr on m t p v = srT pr on m t p (v + 1) := by
 unfold srT
 rw [if_pos hm, if_pos hm]

theorem srT_no2 {pr on : List (List UInt8)} {m : Nat} {t : List (List UInt8)} {p : List (List UInt8) × Bool} {v : Nat} {c : List UInt8} (h : v < pr.length) (hc : (unc on t).getD 0 default = c) (hb : hasB (pr.getD v default) c = false) : srT pr on m t p v = srT pr on m t p (v + 1) := by
  unfold srT
  split
  · rfl
  · rw [srTo_succ h, hc, hb]; rfl

theorem srF_all {pr on : List (List UInt8)} {m : Nat} {t : List (List UInt8)} {p : List (List UInt8) × Bool} {v : Nat} (h : ¬ unc on t = []) (hv : pr.length ≤ v) : srF pr on m t p = srT pr on m t p v := by
 cases m with
 | zero => rw [srF_zero h]; rfl
 | succ m => rw [srF_next h hv]; rfl

theorem unc_nil_of {on t : List (List UInt8)} {k : Nat} (h : ∀ j, j < k → inB t (on.getD j default) = true) (hk : on.length ≤ k) : unc on t = [] := by
 unfold unc
 rw [List.filter_eq_nil_iff]
 intro c hc
 obtain ⟨j, hj, e⟩ := List.mem_iff_getElem.1 hc
 have := h j (by omega)
 rw [show on.getD j default = c from by simp [hj, e]] at this
 simp [this]

theorem unc_head {on t : List (List UInt8)} {k : Nat} (h : ∀ j, j < k → inB t (on.getD j default) = true) (hk : k < on.length) (hb : inB t (on.getD k default) = false) : (unc on t).getD 0 default = on.getD k default ∧ ¬ unc on t = [] := by
 have h1 : unc (on.take k) t = [] := unc_nil_of (k := k) (fun j hj => by
  have := h j hj
  rw [show (on.take k).getD j default = on.getD j default from by simp [hj]]
  exact this) (by rw [List.length_take]; omega)
 have hg : on.getD k default = on[k] := by simp [hk]
 have h2 : unc on t = on.getD k default :: unc (on.drop (k + 1)) t := by
  have e : on = on.take k ++ on[k] :: on.drop (k + 1) := by rw [← List.drop_eq_getElem_cons hk, List.take_append_drop]
  have e2 : unc on t = unc (on.take k) t ++ unc (on[k] :: on.drop (k + 1)) t := by
   unfold unc
   rw [← List.filter_append, ← e]
  rw [e2, h1, List.nil_append, hg]
  unfold unc
  rw [List.filter_cons_of_pos (by rw [← hg, hb]; rfl)]
 rw [h2]
 exact ⟨rfl, by simp⟩

theorem lexB_next {l m : List (List UInt8)} {k : Nat} (h1 : k < l.length) (h2 : k < m.length) : lexB (l.drop k) (m.drop k) = if l.getD k default = m.getD k default then lexB (l.drop (k + 1)) (m.drop (k + 1)) else Op.bytesLess (l.getD k default) (m.getD k default) := by
 rw [List.drop_eq_getElem_cons h1, List.drop_eq_getElem_cons h2, lexB]
 simp [h1, h2]

theorem lexB_end {l m : List (List UInt8)} {k : Nat} (h1 : l.length ≤ k) : lexB (l.drop k) m = false := by
 rw [List.drop_of_length_le h1]; unfold lexB; rfl

theorem betB_eq {t l : List (List UInt8)} {f : Bool} : betB t (l, f) = (!f || (decide ((lits t : Int) < (lits l : Int)) || (decide ((lits t : Int) = (lits l : Int)) && lexB t l))) := by
 unfold betB
 rw [show decide ((lits t : Int) < (lits l : Int)) = decide (lits t < lits l) from decide_eq_decide.2 (by omega), show decide ((lits t : Int) = (lits l : Int)) = decide (lits t = lits l) from decide_eq_decide.2 (by omega)]

theorem put14_all {l : List (List UInt8)} {q : List UInt8} {n : Nat} (h : ∀ a ∈ l, a.length = n) (hq : q.length = n) : ∀ a ∈ put14 l q, a.length = n := fun a ha => by
  rcases put14_mem.1 ha with ha | ha
  · exact h a ha
  · rw [ha]; exact hq

theorem srF_ok {pr on : List (List UInt8)} {n N : Nat} (hpr : ∀ q ∈ pr, q.length = n) : ∀ (m : Nat) (t : List (List UInt8)) (p : List (List UInt8) × Bool), t.length + m ≤ N → (∀ q ∈ t, q.length = n) → POk n N p → POk n N (srF pr on m t p) := by
  have hend : ∀ (t : List (List UInt8)) (p : List (List UInt8) × Bool), t.length ≤ N → (∀ q ∈ t, q.length = n) → POk n N p → POk n N (endS t p) := by
    intro t p h1 h2 h3
    unfold endS
    split
    · exact ⟨h1, h2⟩
    · exact h3
  intro m
  induction m with
  | zero =>
    intro t p h1 h2 h3
    rw [srF]
    split
    · exact hend _ _ (by omega) h2 h3
    · exact h3
  | succ m ih =>
    intro t p h1 h2 h3
    rw [srF]
    split
    · exact hend _ _ (by omega) h2 h3
    · refine fold_ok (Q := POk n N) h3 fun p q hq hp => ?_
      split
      · exact ih _ _ (by rw [put14_len]; omega) (put14_all h2 (hpr q hq)) hp
      · exact hp

theorem srT_ok {pr on : List (List UInt8)} {n N m : Nat} {t : List (List UInt8)} {p : List (List UInt8) × Bool} (hpr : ∀ q ∈ pr, q.length = n) (h1 : t.length + m ≤ N) (h2 : ∀ q ∈ t, q.length = n) (h3 : POk n N p) (k : Nat) (hk : k ≤ pr.length) : POk n N (srT pr on m t p k) := by
  unfold srT
  split
  · exact h3
  · unfold srTo
    refine fold_ok (Q := POk n N) h3 fun p q hq hp => ?_
    split
    · exact srF_ok hpr _ _ _ (by rw [put14_len]; omega) (put14_all h2 (hpr q (List.mem_of_mem_take hq))) hp
    · exact hp

theorem srT_bok {pr on : List (List UInt8)} {N m : Nat} {t : List (List UInt8)} {p : List (List UInt8) × Bool} (h1 : t.length + m = N) (h2 : noShort pr on m t) (h3 : BOk N p) (k : Nat) : BOk N (srT pr on m t p k) := by
  unfold srT
  split
  · exact h3
  · obtain ⟨q, rfl⟩ : ∃ q, m = q + 1 := ⟨m - 1, by omega⟩
    unfold srTo
    refine fold_ok (Q := BOk N) h3 fun p c hq hp => ?_
    split
    · rename_i hb
      exact srF_bok _ _ _ (by rw [put14_len, Nat.add_sub_cancel]; omega) (ns_step h2 (List.mem_of_mem_take hq) hb) hp
    · exact hp

theorem ns_at {pr on : List (List UInt8)} {m : Nat} {t : List (List UInt8)} {q c : List UInt8} (hm : ¬ m = 0) (h : noShort pr on m t) (hq : q ∈ pr) (hc : (unc on t).getD 0 default = c) (hb : hasB q c = true) : noShort pr on (m - 1) (put14 t q) := by
 obtain ⟨j, rfl⟩ : ∃ j, m = j + 1 := ⟨m - 1, by omega⟩
 exact ns_step h hq (by rw [hc]; exact hb)

theorem ns_end {pr on : List (List UInt8)} {m : Nat} {t : List (List UInt8)} (h : noShort pr on m t) (e : unc on t = []) : m = 0 := by
 cases m with
 | zero => rfl
 | succ m => exact absurd e (ns_not h)

theorem srF_fin {pr on : List (List UInt8)} {m : Nat} {t : List (List UInt8)} {p : List (List UInt8) × Bool} (e : unc on t = []) : srF pr on m t p = endS t p := srF_end m e

theorem endS_yes {t : List (List UInt8)} {p : List (List UInt8) × Bool} (h : betB t (p.1, p.2) = true) : endS t p = (t, true) := by
 unfold endS; rw [if_pos (show betB t p = true from h)]

theorem endS_no {t : List (List UInt8)} {p : List (List UInt8) × Bool} (h : betB t (p.1, p.2) = false) : endS t p = p := by
 unfold endS; rw [if_neg (by rw [show betB t p = false from h]; simp)]

theorem rndI_of {pr on : List (List UInt8)} {m : Nat} (h : ∀ j, j < m → (rndS pr on j).2 = false) : ∀ j, j < m → (rndI pr on j).2 = false := fun j hj => by
 rw [rnd_eq (fun i hi => h i (by omega))]; exact h j hj

theorem minS_yes {pr on : List (List UInt8)} {m : Nat} (hm : m < 7) (h : ∀ j, j < m → (rndS pr on j).2 = false) (h2 : (rndS pr on m).2 = true) : minF pr on = ((rndS pr on m).1, true) := by
 have e := rnd_eq h
 rw [min_yes hm (rndI_of h) (by rw [e]; exact h2), e]

theorem minS_no {pr on : List (List UInt8)} (h : ∀ j, j < 7 → (rndS pr on j).2 = false) : minF pr on = ([], false) := min_no (rndI_of h)

theorem lst_ok {f : Nat → List (List UInt8) × Bool} {n N : Nat} (h : ∀ j, j < 7 → POk n N (f j)) : ∀ k j, j + k ≤ 7 → POk n N (lstF f k j)
  | 0, j, _ => ⟨Nat.zero_le _, fun q hq => by cases hq⟩
  | k + 1, j, hj => by
    rw [lstF]
    split
    · exact ⟨(h j (by omega)).len, (h j (by omega)).all⟩
    · exact lst_ok h k (j + 1) (by omega)

theorem minF_ok {pr on : List (List UInt8)} {n : Nat} (hpr : ∀ q ∈ pr, q.length = n) : POk n 7 (minF pr on) := by
 unfold minF
 exact lst_ok (fun j hj => chF_ok hpr j on [] ([], false) (by simp; omega) (fun q hq => by cases hq) ⟨Nat.zero_le _, fun q hq => by cases hq⟩) 7 0 (by omega)

def mcvF (n : Int) (on off : List (List UInt8)) : List (List UInt8) × Bool := if primOk n on off then minF (primL n.toNat on off) on else ([], false)

theorem mcvF_len (n : Int) (on off : List (List UInt8)) : (mcvF n on off).1.length ≤ 7 := by
  unfold mcvF
  split
  · exact (minF_ok primL_mem).len
  · exact Nat.zero_le _

theorem mcvF_no0 {n : Int} {on off : List (List UInt8)} (h : onoffB n on off = false) : mcvF n on off = ([], false) := by rw [mcvF, primOk, h]; rfl

theorem mcvF_no {n : Int} {on off : List (List UInt8)} (h : primOk n on off = false) : mcvF n on off = ([], false) := by rw [mcvF, h]; rfl

theorem mcvF_yes {n : Int} {on off : List (List UInt8)} (h : primOk n on off = true) : mcvF n on off = minF (primL n.toNat on off) on := by rw [mcvF, h]; rfl

theorem mcvF_min {n : Int} {on off : List (List UInt8)} (h : onoffB n on off = true) : mcvF n on off = minI n.toNat on off := by
 unfold mcvF minI primOk
 rw [h, Bool.true_and]

theorem primOk_on {n : Int} {on off : List (List UInt8)} (h : primOk n on off = true) : onoffB n on off = true := by
 unfold primOk at h; rw [Bool.and_eq_true] at h; exact h.1

theorem sp_better (u v : Value) (l t : List (List UInt8)) (f : Bool) (hl : bulkS l ≤ 1048576) (ht : bulkS t ≤ 1048576) (hf : f = true → l.length = t.length) : Sp Tryz.prog 255 [(.box [(.hole u), (.hole v), (.slice true 1 (l.map D.str)), (.bool (f))]), (.slice false 1 (t.map D.str))] [(.box [(.hole u), (.hole v), (.slice true 1 (l.map D.str)), (.bool (f))]), .any] (.bool (betB t (l, f))) := by
 refine Sp_intro (lend := false) Tryz.func255 rfl rfl rfl (fun h => nomatch h) (fun c hc hX => ?_)
 refine T_open 1 8000010 rfl rfl rfl ?_
 have hn := bulk_len hl; have hm := bulk_len ht
 refine T_seq (T_region hc (Ch.s (.d (.bool false)) pa (Ch.nil (T_seq ?_))))
 refine T_regionD hc (by kernel_rfl) ?_
 refine ChD.s (.d (.slice false 1 (t.map D.str))) [] pm (ChD.s (.d (.int .i64 (lits t : Int))) [] (.call 9000 200 _ _ _ en200 rfl (.inl rfl) (.cons (.d _) .nil) rfl rfl (sp_spec_l14Literals t a17) (.skip _ _ .nil) rfl) (ChD.s (.ptr 1 0) [] pm (ChD.s (.ptr 1 0) [] (.pure (.nilPtr _ rfl rfl)) (ChD.s (.ptr 1 2) [] (.pure (.fldPtr _ _ _ rfl fld207_2 rfl)) (ChD.s (.row 8000010) [1] (.pure (.loadPtr1 _ _ rfl ag23 rfl rfl rfl)) (ChD.s (.d (.int .i64 (lits l : Int))) [8000010] (.call 14000 200 _ _ _ en200 rfl (.inl rfl) (.cons (.lend (.row rfl (frozs_map (fun _ => rfl) _))) .nil) rfl rfl (sp_spec_l14Literals l a17) (.skip _ _ .nil) rfl) (ChD.s (.d (.int .i64 (lits t : Int))) [] pa ?_)))))))
 refine ChD.s (.d (.int .i64 (lits l : Int))) [] pa ?_
 refine ChD.nil (And.intro ?_ (by kernel_rfl))
 refine T_seq (T_seq (T_region hc (Ch.s (.ptr 1 0) pm (Ch.s (.ptr 1 0) (.pure (.nilPtr _ rfl rfl)) (Ch.s (.ptr 1 3) (.pure (.fldPtr _ _ _ rfl fld207_3 rfl)) (Ch.s (.d (.bool (f))) (.pure (.loadPtr1 _ _ rfl ag4 rfl rfl rfl)) (Ch.s (.d (.bool (!(f)))) (.pure (.not _ _ rfl rfl)) ?_)))))))
 refine Ch.s (.d (.bool (!(f)))) pm ?_
 cases h1 : (f) with
 | true =>
  refine Ch.s (.d (.int .i64 (lits t : Int))) pm (Ch.s (.d (.int .i64 (lits l : Int))) pm (Ch.s (.d (.bool (!(decide ((lits t : Int) = (lits l : Int)))))) (iX rfl rfl rfl) (Ch.s (.d (.bool (!(decide ((lits t : Int) = (lits l : Int)))))) (.pure (.pickF _ _ _ rfl rfl rfl)) (Ch.nil ?_))))
  refine T_condN (b := (decide ((lits t : Int) = (lits l : Int)))) rfl (fun h2 => ?_) (fun h2 => ?_)
  ·
   replace h2 := of_decide_eq_false h2
   refine T_seq (T_region hc (Ch.s (.ptr 1 0) pm (Ch.s (.ptr 1 0) (.pure (.nilPtr _ rfl rfl)) (Ch.s (.ptr 1 3) (.pure (.fldPtr _ _ _ rfl fld207_3 rfl)) (Ch.s (.d (.bool true)) (.pure (.loadPtr1 _ _ rfl ag4 rfl rfl rfl)) (Ch.s (.d (.bool false)) (.pure (.not (b := true) _ _ rfl rfl)) (Ch.s (.d (.bool false)) pm ?_)))))))
   refine Ch.s (.d (.int .i64 (lits t : Int))) pm (Ch.s (.d (.int .i64 (lits l : Int))) pm (Ch.s (.d (.bool (decide ((lits t : Int) < (lits l : Int))))) (iX rfl rfl rfl) (Ch.s (.d (.bool (decide ((lits t : Int) < (lits l : Int))))) (.pure (.pickF _ _ _ rfl rfl rfl)) (Ch.s (.d (.bool (decide ((lits t : Int) < (lits l : Int))))) pa (Ch.nil (T_ret ?_))))))
   exact endR [(.d (.bool (decide ((lits t : Int) < (lits l : Int)))))] [1, 8000010] [] (.cons (.tmp 4 rfl) .nil) (.cons (.box rfl (.cons (.d _) (.cons (.d _) (.cons (.row rfl) (.cons (Exp.of (congrArg D.bool a2) (.d _)) .nil)))) rfl) (.cons (.any _) .nil)) (Exp.of (congrArg D.bool a2) (.d _)) rfl rfl
  ·
   replace h2 := of_decide_eq_true h2
   refine T_skip (T_seq (T_seq (T_region hc (Ch.s (.d (.slice false 1 (t.map D.str))) pm (Ch.s (.d (.int .i64 (t.length : Int))) (.pure (.len _ _ 9 rfl Tryz.underlying23 (.sh _ _) (by simp))) (Ch.s (.d (.int .i64 0)) pm (Ch.nil ?_)))))))
   refine T_block ?_
   refine T_loop (ι := Nat) (fun k => { n := 65, sl := [(0, (.ptr 1 0)), (1, (.d (.slice false 1 (t.map D.str)))), (36, (.d (.int .i64 (t.length : Int)))), (37, (.d (.int .i64 (k : Int))))], hp := [(1, (some (.box [(.d (.hole u)), (.d (.hole v)), (.row 8000010), (.d (.bool true))]))), (8000010, (some (.row 1 (l.map D.str))))], pin := [1] }) (fun k => k ≤ t.length ∧ lexB t l = lexB (t.drop k) (l.drop k)) (fun k => t.length - k) ⟨0, ⟨by omega, rfl⟩, (Wk.of rfl rfl (ai rfl (ai rfl (ai rfl (ai (vI a93) trivial)))) (ai rfl (ai rfl trivial)))⟩ (fun k hp0 => ?_)
   have hfl : l.length = t.length := hf (by first | assumption | rfl)
   refine T_seq (T_region hc (Ch.s (.d (.bool (decide ((k : Int) < (t.length : Int))))) (iX rfl rfl rfl) (Ch.nil (T_seq ?_))))
   refine T_condD (p := ((k : Int) < (t.length : Int))) rfl (fun h3 => ?_) (fun h3 => ?_)
   ·
    refine T_skip (T_seq (T_block (T_seq (T_region hc (Ch.s (.d (.int .i64 (k : Int))) pm (Ch.s (.d (.int .i64 (k : Int))) pa (Ch.nil ?_)))))))
    refine T_seq ?_
    refine T_regionD hc (by kernel_rfl) ?_
    refine ChD.s (.d (.slice false 1 (t.map D.str))) [] pm (ChD.s (.d (.int .i64 (k : Int))) [] pm (ChD.s (.d (.ref (.str (t.getD k default)))) [] (.pure (.idx _ _ _ 9 (k) rfl Tryz.underlying23 sz9 rfl rfl rfl get_mapA)) (ChD.s (.d (.str (t.getD k default))) [] (.pure (.loadRef1 _ _ rfl ag9 rfl rfl)) (ChD.s (.ptr 1 0) [] pm (ChD.s (.ptr 1 0) [] (.pure (.nilPtr _ rfl rfl)) (ChD.s (.ptr 1 2) [] (.pure (.fldPtr _ _ _ rfl fld207_2 rfl)) (ChD.s (.row 8000010) [1] (.pure (.loadPtr1 _ _ rfl ag23 rfl rfl rfl)) ?_)))))))
    refine ChD.s (.d (.int .i64 (k : Int))) [] pm (ChD.s (.el 8000010 1 k 0) [8000010] (.pure (.idxRow _ _ _ 9 (k) rfl Tryz.underlying23 sz9 rfl rfl rfl rfl a72)) (ChD.s (.d (.str (l.getD k default))) [8000010] (.pure (.loadEl1 _ _ rfl ag9 rfl rfl get_mapA rfl rfl rfl)) (ChD.s (.d (.bool (!(decide ((t.getD k default) = (l.getD k default)))))) [] (.pure (.str _ _ _ _ _ rfl rfl rfl rfl)) ?_)))
    refine ChD.nil (And.intro ?_ (by kernel_rfl))
    refine T_condN (b := (decide ((t.getD k default) = (l.getD k default)))) rfl (fun h4 => ?_) (fun h4 => ?_)
    ·
     replace h4 := of_decide_eq_false h4
     refine T_seq ?_
     refine T_regionD hc (by kernel_rfl) ?_
     refine ChD.s (.d (.slice false 1 (t.map D.str))) [] pm (ChD.s (.d (.int .i64 (k : Int))) [] pm (ChD.s (.d (.ref (.str (t.getD k default)))) [] (.pure (.idx _ _ _ 9 (k) rfl Tryz.underlying23 sz9 rfl rfl rfl get_mapA)) (ChD.s (.d (.str (t.getD k default))) [] (.pure (.loadRef1 _ _ rfl ag9 rfl rfl)) (ChD.s (.ptr 1 0) [] pm (ChD.s (.ptr 1 0) [] (.pure (.nilPtr _ rfl rfl)) (ChD.s (.ptr 1 2) [] (.pure (.fldPtr _ _ _ rfl fld207_2 rfl)) (ChD.s (.row 8000010) [1] (.pure (.loadPtr1 _ _ rfl ag23 rfl rfl rfl)) ?_)))))))
     refine ChD.s (.d (.int .i64 (k : Int))) [] pm (ChD.s (.el 8000010 1 k 0) [8000010] (.pure (.idxRow _ _ _ 9 (k) rfl Tryz.underlying23 sz9 rfl rfl rfl rfl a72)) (ChD.s (.d (.str (l.getD k default))) [8000010] (.pure (.loadEl1 _ _ rfl ag9 rfl rfl get_mapA rfl rfl rfl)) (ChD.s (.d (.bool (Op.bytesLess (t.getD k default) (l.getD k default)))) [] (.pure (.str _ _ _ _ _ rfl rfl rfl rfl)) (ChD.s (.d (.bool (Op.bytesLess (t.getD k default) (l.getD k default)))) [] pa ?_))))
     refine ChD.nil (And.intro ?_ (by kernel_rfl))
     refine T_ret ?_
     exact endR [(.d (.bool (Op.bytesLess (t.getD k default) (l.getD k default))))] [1, 8000010] [] (.cons (.tmp 4 rfl) .nil) (.cons (.box rfl (.cons (.d _) (.cons (.d _) (.cons (.row rfl) (.cons (Exp.of (congrArg D.bool a2) (.d _)) .nil)))) rfl) (.cons (.any _) .nil)) (Exp.of (congrArg D.bool a2) (.d _)) rfl rfl
    ·
     replace h4 := of_decide_eq_true h4
     refine T_skip (T_region hc (Ch.s (.d (.int .i64 ((k : Int) + 1))) (iX rfl rfl intV_addA) (Ch.s (.d (.int .i64 ((k : Int) + 1))) pm (Ch.nil ?_))))
     exact nx (k + 1) ⟨by omega, by rw [hp0.2, lexB_next (by omega) (by omega), if_pos (by assumption)]⟩ (Wk.of rfl rfl (ai rfl (ai rfl (ai rfl (ai (vI a93) trivial)))) (ai rfl (ai rfl trivial)))
   ·
    refine T_exit (T_seq (T_region hc (Ch.s (.d (.bool false)) pa (Ch.nil (T_ret ?_)))))
    exact endR [(.d (.bool false))] [1, 8000010] [] (.cons (.tmp 4 rfl) .nil) (.cons (.box rfl (.cons (.d _) (.cons (.d _) (.cons (.row rfl) (.cons (Exp.of (congrArg D.bool a2) (.d _)) .nil)))) rfl) (.cons (.any _) .nil)) (Exp.of (congrArg D.bool a2) (.d _)) rfl rfl
 | false =>
  refine Ch.skip rfl rfl (Ch.skip rfl rfl (Ch.skip rfl rfl (Ch.s (.d (.bool true)) (.pure (.pickT _ _ _ rfl rfl rfl)) (Ch.nil ?_))))
  refine T_cond (b := true) rfl (fun _ => ?_) (fun h => nomatch h)
  refine T_seq (T_region hc (Ch.s (.ptr 1 0) pm (Ch.s (.ptr 1 0) (.pure (.nilPtr _ rfl rfl)) (Ch.s (.ptr 1 3) (.pure (.fldPtr _ _ _ rfl fld207_3 rfl)) (Ch.s (.d (.bool false)) (.pure (.loadPtr1 _ _ rfl ag4 rfl rfl rfl)) (Ch.s (.d (.bool true)) (.pure (.not (b := false) _ _ rfl rfl)) (Ch.s (.d (.bool true)) pm ?_)))))))
  refine Ch.skip rfl rfl (Ch.skip rfl rfl (Ch.skip rfl rfl (Ch.s (.d (.bool true)) (.pure (.pickT _ _ _ rfl rfl rfl)) (Ch.s (.d (.bool true)) pa (Ch.nil (T_ret ?_))))))
  exact endR [(.d (.bool true))] [1, 8000010] [] (.cons (.tmp 4 rfl) .nil) (.cons (.box rfl (.cons (.d _) (.cons (.d _) (.cons (.row rfl) (.cons (Exp.of (congrArg D.bool a2) (.d _)) .nil)))) rfl) (.cons (.any _) .nil)) (Exp.of (congrArg D.bool a2) (.d _)) rfl rfl

set_option maxHeartbeats 2000000 in
theorem sp_search_step (u v : Value) (pr on : List (List UInt8)) (n N m : Nat) (z : Int) (t : List (List UInt8)) (p : (List (List UInt8) × Bool)) (hz : z = (m : Int)) (hn8 : n ≤ 8) (hpr : ∀ q ∈ pr, q.length = n) (hprl : pr.length ≤ 1048576) (hon : ∀ c ∈ on, c.length = n) (honl : on.length ≤ 1048576) (hN7 : N ≤ 7) (ht : ∀ q ∈ t, q.length = n) (hN : t.length + m = N) (hns : noShort pr on m t) (hp : POk n 7 p) (hb : BOk N p) (ih : ∀ (j : Nat) (z : Int) (t : List (List UInt8)) (p : (List (List UInt8) × Bool)), j + 1 = m → z = (j : Int) → (∀ q ∈ t, q.length = n) → t.length + j = N → noShort pr on j t → POk n 7 p → BOk N p → SpQ (fun S w _ => DRs S w [.slice false 1 (pr.map D.str), .slice false 1 (on.map D.str)] [u, v] []) Tryz.prog 211 [(.box [(.hole u), (.hole v), (.slice true 1 (p.1.map D.str)), (.bool (p.2))]), .slice true 1 (t.map D.str), .int .i64 z] [(.box [(.hole u), (.hole v), (.slice true 1 (((srF pr on j t p).1).map D.str)), (.bool ((srF pr on j t p).2))]), .any, .any] (.tup [])) : SpQ (fun S w _ => DRs S w [(.slice false 1 (pr.map D.str)), (.slice false 1 (on.map D.str))] [u, v] []) Tryz.prog 211 [(.box [(.hole u), (.hole v), (.slice true 1 (p.1.map D.str)), (.bool (p.2))]), (.slice true 1 (t.map D.str)), (.int .i64 z)] [(.box [(.hole u), (.hole v), (.slice true 1 (((srF pr on m t p).1).map D.str)), (.bool ((srF pr on m t p).2))]), .any, .any] (.tup []) := by
 refine SpG_intro Tryz.func211 rfl [900001, 900002] rfl rfl rfl (fun c hc => ?_)
 refine T_open 1 8000010 rfl rfl rfl ?_
 have htl : t.length ≤ 1048576 := (by omega)
 have hpb := bulk_small hn8 hp.len hp.all
 have htb : bulkS t ≤ 1048576 := bulk_small hn8 (by omega) ht
 refine T_seq (T_seq (T_region hc (Ch.s (.ptr 1 0) pm (Ch.s (.ptr 1 0) (.pure (.nilPtr _ rfl rfl)) (Ch.s (.ptr 1 1) (.pure (.fldPtr _ _ _ rfl fld207_1 rfl)) (Ch.s (.d (.hole v)) (.pure (.loadPtr1 _ _ rfl ag23 rfl rfl rfl)) ?_))))))
 refine Ch.see 13 900002 rfl rfl rfl ?_
 refine Ch.s (.d (.int .i64 (on.length : Int))) (.pure (.len _ _ 9 rfl Tryz.underlying23 (.sh _ _) (by simp))) (Ch.s (.d (.int .i64 0)) pm (Ch.nil (T_block ?_)))
 refine T_loop (ι := Nat) (fun k => { n := 57, sl := [(0, (.ptr 1 0)), (1, (.row 2)), (2, (.d (.int .i64 z))), (13, (.d (.slice false 1 (on.map D.str)))), (14, (.d (.int .i64 (on.length : Int)))), (15, (.d (.int .i64 (k : Int))))], hp := [(1, (some (.box [(.d (.hole u)), (.d (.hole v)), (.row 8000010), (.d (.bool (p.2)))]))), (2, (some (.row 1 (t.map D.str)))), (900001, (some (.ghost (.slice false 1 (pr.map D.str)) u))), (900002, (some (.ghost (.slice false 1 (on.map D.str)) v))), (8000010, (some (.row 1 (p.1.map D.str))))], pin := [1, 2] }) (fun k => k ≤ on.length ∧ ∀ j, j < k → inB t (on.getD j default) = true) (fun k => on.length - k) ⟨0, ⟨by omega, fun j hj => by omega⟩, (Wk.of rfl rfl (ai rfl (ai rfl (ai rfl (ai rfl (ai rfl (ai (vI a93) trivial)))))) (ai rfl (ai rfl (ai rfl (ai rfl (ai rfl trivial))))))⟩ (fun k hp0 => ?_)
 refine T_seq (T_region hc (Ch.s (.d (.bool (decide ((k : Int) < (on.length : Int))))) (iX rfl rfl rfl) (Ch.nil (T_seq ?_))))
 refine T_condD (p := ((k : Int) < (on.length : Int))) rfl (fun h1 => ?_) (fun h1 => ?_)
 ·
  try have hox := hon _ (getD_mem (l := on) (j := k) (d := default) (by omega))
  try have hol : (on.getD k default).length ≤ 1048576 := by omega
  try have htx : ∀ a ∈ t, a.length ≤ (on.getD k default).length := fun a ha => by (have := ht a ha; omega)
  try have hnil := unc_nil_of hp0.2 (by omega)
  try have hm0 := ns_end hns hnil
  try have hfb : p.2 = true → p.1.length = t.length := fun h => by (have := hb.len h; omega)
  refine T_skip (T_seq (T_block (T_seq (T_region hc (Ch.s (.d (.ref (.str (on.getD k default)))) (.pure (.idx _ _ _ 9 (k) rfl Tryz.underlying23 sz9 rfl rfl rfl get_mapA)) (Ch.s (.d (.str (on.getD k default))) (.pure (.loadRef1 _ _ rfl ag9 rfl rfl)) (Ch.s (.d (.str (on.getD k default))) pa ?_)))))))
  refine Ch.nil (T_seq (T_seq (T_region hc (Ch.s (.row 2) pm (Ch.s (.d (.str (on.getD k default))) pm (Ch.s (.d (.bool (inB t (on.getD k default)))) (.call 21000 254 _ _ _ en254 rfl (.inl rfl) (.cons (.lend (.row rfl (frozs_map (fun _ => rfl) _))) (.cons (.d _) .nil)) rfl rfl (sp_spec_l13In t (on.getD k default) a17 a17 a17) (.skip _ _ (.skip _ _ .nil)) rfl) (Ch.nil ?_)))))))
  refine T_cond (b := (inB t (on.getD k default))) rfl (fun h2 => ?_) (fun h2 => ?_)
  ·
   try have huh := unc_head hp0.2 (by omega) (by assumption)
   refine T_exit (T_region hc (Ch.s (.d (.int .i64 ((k : Int) + 1))) (iX rfl rfl intV_addA) (Ch.s (.d (.int .i64 ((k : Int) + 1))) pm (Ch.nil ?_))))
   exact nx (k + 1) ⟨by omega, upto_succ hp0.2 (by assumption)⟩ (Wk.of rfl rfl (ai rfl (ai rfl (ai rfl (ai rfl (ai rfl (ai (vI a93) trivial)))))) (ai rfl (ai rfl (ai rfl (ai rfl (ai rfl trivial))))))
  ·
   try have huh := unc_head hp0.2 (by omega) (by assumption)
   refine T_skip (T_seq (T_seq (T_region hc (Ch.s (.ptr 1 0) pm (Ch.s (.ptr 1 0) (.pure (.nilPtr _ rfl rfl)) (Ch.s (.ptr 1 0) (.pure (.fldPtr _ _ _ rfl fld207_0 rfl)) (Ch.s (.d (.hole u)) (.pure (.loadPtr1 _ _ rfl ag23 rfl rfl rfl)) ?_)))))))
   refine Ch.see 25 900001 rfl rfl rfl ?_
   refine Ch.s (.d (.int .i64 (pr.length : Int))) (.pure (.len _ _ 9 rfl Tryz.underlying23 (.sh _ _) (by simp))) (Ch.s (.d (.int .i64 0)) pm (Ch.nil (T_block ?_)))
   refine T_loop (ι := Nat) (fun e => { n := 57, sl := [(0, (.ptr 1 0)), (1, (.row 2)), (2, (.d (.int .i64 z))), (7, (.d (.str (on.getD k default)))), (25, (.d (.slice false 1 (pr.map D.str)))), (26, (.d (.int .i64 (pr.length : Int)))), (27, (.d (.int .i64 (e : Int))))], hp := [(1, (some (.box [(.d (.hole u)), (.d (.hole v)), (.row 7700), (.d (.bool ((srT pr on m t p e).2)))]))), (2, (some (.row 1 (t.map D.str)))), (7700, (some (.row 1 (((srT pr on m t p e).1).map D.str)))), (900001, (some (.ghost (.slice false 1 (pr.map D.str)) u))), (900002, (some (.ghost (.slice false 1 (on.map D.str)) v)))], pin := [1, 2] }) (fun e => e ≤ pr.length) (fun e => pr.length - e) ⟨0, (by omega), (Wk.ren [(7700, 8000010)] rfl rfl rfl rfl (ai rfl (ai rfl (ai rfl (ai rfl (ai rfl (ai rfl (ai (vI a93) trivial))))))) (ai (oB (Eq.trans (b := [(.d (.hole u)), (.d (.hole v)), (.row 8000010), (.d (.bool (p.2)))]) rfl a1)) (ai rfl (ai (oR a5) (ai rfl (ai rfl trivial))))))⟩ (fun e hp1 => ?_)
   have hpk := srT_ok (N := 7) (on := on) (m := m) hpr (by omega) ht hp e hp1; have hbk := srT_bok hN hns hb e
   refine T_seq (T_region hc (Ch.s (.d (.bool (decide ((e : Int) < (pr.length : Int))))) (iX rfl rfl rfl) (Ch.nil (T_seq ?_))))
   refine T_condD (p := ((e : Int) < (pr.length : Int))) rfl (fun h3 => ?_) (fun h3 => ?_)
   ·
    try have hqe := hpr _ (getD_mem (l := pr) (j := e) (d := default) (by omega))
    try have hql : (pr.getD e default).length ≤ 1048576 := by omega
    refine T_skip (T_seq (T_block (T_seq (T_region hc (Ch.s (.d (.ref (.str (pr.getD e default)))) (.pure (.idx _ _ _ 9 (e) rfl Tryz.underlying23 sz9 rfl rfl rfl get_mapA)) (Ch.s (.d (.str (pr.getD e default))) (.pure (.loadRef1 _ _ rfl ag9 rfl rfl)) (Ch.s (.d (.str (pr.getD e default))) pa ?_)))))))
    refine Ch.nil (T_seq (T_region hc (Ch.s (.d (.int .i64 z)) pm (Ch.s (.d (.bool (decide (0 < z)))) (iX rfl rfl rfl) (Ch.s (.d (.bool (decide (0 < z)))) pm ?_)))))
    cases h4 : (decide (0 < z)) with
    | true =>
     replace h4 := of_decide_eq_true h4
     try have hqe := hpr _ (getD_mem (l := pr) (j := e) (d := default) (by omega))
     try have hql : (pr.getD e default).length ≤ 1048576 := by omega
     refine Ch.s (.d (.str (pr.getD e default))) pm (Ch.s (.d (.str (on.getD k default))) pm (Ch.s (.d (.bool (hasB (pr.getD e default) (on.getD k default)))) (.call 36000 197 _ _ _ en197 rfl (.inl rfl) (.cons (.d _) (.cons (.d _) .nil)) rfl rfl (sp_spec_l13Has (pr.getD e default) (on.getD k default) a17 a17) (.skip _ _ (.skip _ _ .nil)) rfl) (Ch.s (.d (.bool (hasB (pr.getD e default) (on.getD k default)))) (.pure (.pickT _ _ _ rfl rfl rfl)) (Ch.nil ?_))))
     refine T_cond (b := (hasB (pr.getD e default) (on.getD k default))) rfl (fun h5 => ?_) (fun h5 => ?_)
     ·
      refine T_region hc (Ch.s (.ptr 1 0) pm (Ch.s (.row 2) pm (Ch.s (.d (.str (pr.getD e default))) pm ?_)))
      refine Ch.step (v := (.row 41000)) rfl (.call 41000 250 _ _ _ en250 rfl (.inl rfl) (.cons (.lend (.row rfl (frozs_map (fun _ => rfl) _))) (.cons (.d _) .nil)) rfl (sol (solid_row (fun _ => rfl) _) rfl) (sp_spec_l14Put t (pr.getD e default) a31) (.skip _ _ (.skip _ _ .nil)) rfl) rfl rfl ?_
      refine Ch.s (.d (.int .i64 z)) pm (Ch.s (.d (.int .i64 (z - 1))) (iX rfl rfl intV_subA) ?_)
      refine Ch.step (v := (.tup [])) rfl (.callG (ms := [900001, 900002]) 44000 211 _ _ _ en211 rfl (.inl rfl) (.cons (.box rfl (.cons (.d _) (.cons (.d _) (.cons (.row rfl) (.cons (.d _) .nil)))) rfl) (.cons (.row rfl) (.cons (.d _) .nil))) rfl (sol rfl (solids_c a68 rfl)) (ih (m - 1) (z - 1) (put14 t (pr.getD e default)) (srT pr on m t p e) (by omega) (by omega) (put14_all ht (hpr _ (getD_mem (by omega)))) (by rw [put14_len]; omega) (ns_at (by omega) hns (getD_mem (by omega)) huh.1 (by assumption)) hpk hbk) ⟨rfl, ⟨rfl, trivial⟩⟩ (.box _ _ (.skip _ _ (.skip _ _ .nil))) rfl) rfl rfl ?_
      refine Ch.opens 1 8000020 rfl rfl rfl ?_
      refine Ch.nil (T_region hc (Ch.s (.d (.int .i64 ((e : Int) + 1))) (iX rfl rfl intV_addA) (Ch.s (.d (.int .i64 ((e : Int) + 1))) pm (Ch.nil ?_))))
      exact nx (e + 1) (by omega) (Wk.ren [(7700, 8000020)] rfl rfl rfl rfl (ai rfl (ai rfl (ai rfl (ai rfl (ai rfl (ai rfl (ai (vI a93) trivial))))))) (ai (oB (Eq.trans (b := [(.d (.hole u)), (.d (.hole v)), (.row 8000020), (.d (.bool ((srF pr on (m - 1) (put14 t (pr.getD e default)) (srT pr on m t p e)).2)))]) rfl a1)) (ai rfl (ai (oR a5) (ai rfl (ai rfl trivial))))))
     ·
      refine T_skip (T_region hc (Ch.s (.d (.int .i64 ((e : Int) + 1))) (iX rfl rfl intV_addA) (Ch.s (.d (.int .i64 ((e : Int) + 1))) pm (Ch.nil ?_))))
      exact nx (e + 1) (by omega) (Wk.of rfl rfl (ai rfl (ai rfl (ai rfl (ai rfl (ai rfl (ai rfl (ai (vI a93) trivial))))))) (ai (oB (Eq.trans (b := [(.d (.hole u)), (.d (.hole v)), (.row 7700), (.d (.bool ((srT pr on m t p e).2)))]) rfl a1)) (ai rfl (ai (oR a5) (ai rfl (ai rfl trivial))))))
    | false =>
     replace h4 := of_decide_eq_false h4
     try have hqe := hpr _ (getD_mem (l := pr) (j := e) (d := default) (by omega))
     try have hql : (pr.getD e default).length ≤ 1048576 := by omega
     refine Ch.skip rfl rfl (Ch.skip rfl rfl (Ch.skip rfl rfl (Ch.s (.d (.bool false)) (.pure (.pickF _ _ _ rfl rfl rfl)) (Ch.nil ?_))))
     refine T_cond (b := false) rfl (fun h => nomatch h) (fun _ => ?_)
     refine T_skip (T_region hc (Ch.s (.d (.int .i64 ((e : Int) + 1))) (iX rfl rfl intV_addA) (Ch.s (.d (.int .i64 ((e : Int) + 1))) pm (Ch.nil ?_))))
     exact nx (e + 1) (by omega) (Wk.of rfl rfl (ai rfl (ai rfl (ai rfl (ai rfl (ai rfl (ai rfl (ai (vI a93) trivial))))))) (ai (oB (Eq.trans (b := [(.d (.hole u)), (.d (.hole v)), (.row 7700), (.d (.bool ((srT pr on m t p e).2)))]) rfl a1)) (ai rfl (ai (oR a5) (ai rfl (ai rfl trivial))))))
   ·
    try have hqe := hpr _ (getD_mem (l := pr) (j := e) (d := default) (by omega))
    try have hql : (pr.getD e default).length ≤ 1048576 := by omega
    refine T_exit (T_ret ?_)
    exact endR [] [1, 7700] [] .nil (.cons (.box rfl (.cons (.d _) (.cons (.d _) (.cons (Exp.of (congrArg (D.slice true 1) a26) (.row rfl)) (.cons (Exp.of (congrArg D.bool a26) (.d _)) .nil)))) rfl) (.cons (.any _) (.cons (.any _) .nil))) (.tup .nil) rfl rfl
 ·
  try have hox := hon _ (getD_mem (l := on) (j := k) (d := default) (by omega))
  try have hol : (on.getD k default).length ≤ 1048576 := by omega
  try have htx : ∀ a ∈ t, a.length ≤ (on.getD k default).length := fun a ha => by (have := ht a ha; omega)
  try have hnil := unc_nil_of hp0.2 (by omega)
  try have hm0 := ns_end hns hnil
  try have hfb : p.2 = true → p.1.length = t.length := fun h => by (have := hb.len h; omega)
  refine T_exit (T_seq (T_region hc (Ch.s (.ptr 1 0) pm (Ch.s (.row 2) pm ?_))))
  refine Ch.step (v := (.d (.bool (betB t (p.1, (p.2)))))) rfl (.call 49000 255 _ _ _ en255 rfl (.inl rfl) (.cons (.box rfl (.cons (.d _) (.cons (.d _) (.cons (.row rfl) (.cons (.d _) .nil)))) rfl) (.cons (.lend (.row rfl (frozs_map (fun _ => rfl) _))) .nil)) rfl (sol rfl (solids_c a68 rfl)) (sp_better u v p.1 t (p.2) (by assumption) (by assumption) (by assumption)) (.box _ _ (.skip _ _ .nil)) rfl) rfl rfl ?_
  refine Ch.opens 1 8000030 rfl rfl rfl ?_
  refine Ch.nil ?_
  refine T_cond (b := (betB t (p.1, (p.2)))) rfl (fun h6 => ?_) (fun h6 => ?_)
  ·
   refine T_seq (T_region hc (Ch.s (.ptr 1 0) pm (Ch.s (.row 2) pm (Ch.s (.ptr 1 0) (.pure (.nilPtr _ rfl rfl)) (Ch.s (.ptr 1 2) (.pure (.fldPtr _ _ _ rfl fld207_2 rfl)) (Ch.s .junk (.storePtr _ _ _ rfl rfl rfl (.one _ rfl) sz23 (lb rfl)) (Ch.nil ?_)))))))
   refine T_region hc (Ch.s (.ptr 1 0) pm (Ch.s (.ptr 1 0) (.pure (.nilPtr _ rfl rfl)) (Ch.s (.ptr 1 3) (.pure (.fldPtr _ _ _ rfl fld207_3 rfl)) (Ch.s .junk (.storePtr _ _ _ rfl rfl rfl (.one _ rfl) sz4 (lb rfl)) (Ch.nil ?_)))))
   exact endN [] [1, 2] [] .nil (.cons (.box rfl (.cons (.d _) (.cons (.d _) (.cons (Exp.of (congrArg (D.slice true 1) a26) (.row rfl)) (.cons (Exp.of (congrArg D.bool a26) (.d _)) .nil)))) rfl) (.cons (.any _) (.cons (.any _) .nil))) (.tup .nil) rfl rfl
  ·
   refine T_skip ?_
   exact endN [] [1, 8000030] [] .nil (.cons (.box rfl (.cons (.d _) (.cons (.d _) (.cons (Exp.of (congrArg (D.slice true 1) a26) (.row rfl)) (.cons (Exp.of (congrArg D.bool a26) (.d _)) .nil)))) rfl) (.cons (.any _) (.cons (.any _) .nil))) (.tup .nil) rfl rfl

theorem sp_search (u v : Value) (pr on : List (List UInt8)) (n N : Nat) (hn8 : n ≤ 8) (hpr : ∀ q ∈ pr, q.length = n) (hprl : pr.length ≤ 1048576) (hon : ∀ c ∈ on, c.length = n) (honl : on.length ≤ 1048576) (hN7 : N ≤ 7) : ∀ (m : Nat) (z : Int) (t : List (List UInt8)) (p : (List (List UInt8) × Bool)), z = (m : Int) → (∀ q ∈ t, q.length = n) → t.length + m = N → noShort pr on m t → POk n 7 p → BOk N p → SpQ (fun S w _ => DRs S w [.slice false 1 (pr.map D.str), .slice false 1 (on.map D.str)] [u, v] []) Tryz.prog 211 [(.box [(.hole u), (.hole v), (.slice true 1 (p.1.map D.str)), (.bool (p.2))]), .slice true 1 (t.map D.str), .int .i64 z] [(.box [(.hole u), (.hole v), (.slice true 1 (((srF pr on m t p).1).map D.str)), (.bool ((srF pr on m t p).2))]), .any, .any] (.tup []) := by
 intro m
 induction m with
 | zero => intro z t p hz a b c d e; exact sp_search_step u v pr on n N 0 z t p hz hn8 hpr hprl hon honl hN7 a b c d e (fun j _ _ _ h => by omega)
 | succ m ih =>
  intro z t p hz a b c d e
  exact sp_search_step u v pr on n N (m + 1) z t p hz hn8 hpr hprl hon honl hN7 a b c d e (fun j z2 t2 p2 h hz2 a2 b2 c2 d2 e2 => by
   have e1 : j = m := by omega
   subst e1
   exact ih z2 t2 p2 hz2 a2 b2 c2 d2 e2)

set_option maxHeartbeats 1000000 in
theorem sp_spec_l14Least (n : Int) (on off : List (List UInt8)) (h0 : 0 ≤ n) (h8 : n ≤ 8) (hn1 : on.length ≤ 1048576) (hn2 : off.length ≤ 1048576) (ho1 : ∀ u ∈ on, (u.length : Int) = n) (ho2 : ∀ u ∈ off, (u.length : Int) = n) : Sp Tryz.prog 151 [(.int .i64 n), (.slice false 1 (on.map D.str)), (.slice false 1 (off.map D.str))] [.any, .any, .any] (.tup [(.slice true 1 (((minF (primL n.toNat on off) on).1).map D.str)), (.bool ((minF (primL n.toNat on off) on).2))]) := by
 refine Sp_intro (lend := true) Tryz.func151 rfl rfl rfl (fun _ => rfl) (fun c hc hX => ?_)
 have hon : ∀ c ∈ on, c.length = n.toNat := fun c hc => (by have := ho1 c hc; omega)
 have hpl := primL_le n.toNat on off
 have hp3 : 3 ^ n.toNat ≤ 3 ^ 8 := Nat.pow_le_pow_right (by omega) (by omega)
 have hpl2 : (primL n.toNat on off).length ≤ 1048576 := (by omega)
 have hp7 : POk n.toNat 7 ([], false) := ⟨by simp, fun q hq => by cases hq⟩
 refine T_seq (T_region hc (Ch.s (.c (.slice none 0 0)) pa (Ch.s (.d (.bool false)) pa (Ch.nil (T_seq (T_seq (T_region hc ?_)))))))
 refine Ch.s (.d (.int .i64 0)) pa (Ch.nil (T_block ?_))
 refine T_loop (ι := Nat) (fun m => { n := 32, sl := [(0, (.d (.int .i64 n))), (1, (.d (.slice false 1 (on.map D.str)))), (2, (.d (.slice false 1 (off.map D.str)))), (8, (.d (.int .i64 (m : Int))))], hp := [], pin := [] }) (fun m => m ≤ 7 ∧ ∀ j, j < m → (rndS (primL n.toNat on off) on j).2 = false) (fun m => 7 - m) ⟨0, ⟨by omega, fun j hj => by omega⟩, (Wk.of rfl rfl (ai rfl (ai rfl (ai rfl (ai (vI a93) trivial)))) trivial)⟩ (fun m hp0 => ?_)
 refine T_seq (T_seq (T_region hc (Ch.s (.d (.int .i64 (m : Int))) pm (Ch.s (.d (.bool (decide ((m : Int) ≤ 6)))) (iX rfl rfl rfl) (Ch.nil ?_)))))
 refine T_condD (p := ((m : Int) ≤ 6)) rfl (fun h1 => ?_) (fun h1 => ?_)
 ·
  refine T_skip (T_seq (T_block (T_seq (T_region hc (Ch.s (.d (.int .i64 n)) pm (Ch.s (.d (.slice false 1 (on.map D.str))) pm (Ch.s (.d (.slice false 1 (off.map D.str))) pm ?_)))))))
  refine Ch.s (.d (.slice false 1 ((primL n.toNat on off).map D.str))) (.callFz 17000 210 _ _ _ en210 rfl (.inl rfl) (.cons (.d _) (.cons (.d _) (.cons (.d _) .nil))) (solid_row (fun _ => rfl) _) (sp_spec_l14Primes n on off (by assumption) (by assumption) (by assumption) (by assumption) (by assumption) (by assumption)) (slice_froz (frozs_map (fun _ => rfl) _)) rfl) (Ch.s (.d (.slice false 1 (on.map D.str))) pm ?_)
  refine ch_name 17 900101 rfl rfl rfl rfl (fun g1 => ?_)
  refine ch_name 18 900102 rfl rfl rfl rfl (fun g2 => ?_)
  refine Ch.s (.agg [(.d (.hole g1)), (.d (.hole g2)), (.c (.slice none 0 0)), (.d (.bool false))]) (.build _ _ rfl stru207 (.cons (.one _ rfl) (.cons (.one _ rfl) .nil)) rfl) (Ch.s (.ptr 20000 0) (.box 20000 _ _ rfl (.agg _ rfl)) (Ch.s (.ptr 20000 0) pa (Ch.nil (T_seq (T_region hc (Ch.s (.ptr 20000 0) pm (Ch.s (.d (.int .i64 (m : Int))) pm ?_)))))))
  refine Ch.step (v := (.tup [])) rfl (.callG (ms := [900101, 900102]) 23000 211 _ _ _ en211 rfl (.inl rfl) (.cons (.box rfl (.cons (.d _) (.cons (.d _) (.cons (.nil true 1) (.cons (.d _) .nil)))) rfl) (.cons (.nil true 1) (.cons (.d _) .nil))) rfl (sol rfl (solids_c a68 rfl)) (sp_search g1 g2 (primL n.toNat on off) on n.toNat m (by omega) primL_mem hpl2 hon (by assumption) (by omega) m (m : Int) [] ([], false) rfl (fun q hq => by cases hq) (by simp) (ns_of hp0.2) hp7 ⟨fun e => by cases e⟩) ⟨rfl, ⟨rfl, trivial⟩⟩ (.box _ _ (.skip _ _ (.skip _ _ .nil))) rfl) rfl rfl ?_
  refine Ch.opens 20000 8000010 rfl rfl rfl ?_
  refine Ch.nil (T_seq (T_region hc (Ch.s (.ptr 20000 0) pm (Ch.s (.ptr 20000 0) (.pure (.nilPtr _ rfl rfl)) (Ch.s (.ptr 20000 3) (.pure (.fldPtr _ _ _ rfl fld207_3 rfl)) (Ch.s (.d (.bool ((rndS (primL n.toNat on off) on m).2))) (.pure (.loadPtr1 _ _ rfl ag4 rfl rfl rfl)) (Ch.nil ?_)))))))
  refine T_cond (b := ((rndS (primL n.toNat on off) on m).2)) rfl (fun h2 => ?_) (fun h2 => ?_)
  ·
   refine T_seq (T_region hc (Ch.s (.ptr 20000 0) pm (Ch.s (.ptr 20000 0) (.pure (.nilPtr _ rfl rfl)) (Ch.s (.ptr 20000 2) (.pure (.fldPtr _ _ _ rfl fld207_2 rfl)) (Ch.s (.row 8000010) (.pure (.loadPtr1 _ _ rfl ag23 rfl rfl rfl)) (Ch.s (.row 8000010) pa (Ch.s (.d (.bool true)) pa ?_)))))))
   refine Ch.nil (T_ret ?_)
   exact endR [(.row 8000010), (.d (.bool true))] [] [8000010] (.cons (.tmp 6 rfl) (.cons (.tmp 7 rfl) .nil)) (.cons (.any _) (.cons (.any _) (.cons (.any _) .nil))) (.tup (.cons (Exp.of (congrArg (D.slice true 1) a41) (.row rfl)) (.cons (Exp.of (congrArg D.bool a41) (.d _)) .nil))) rfl rfl
  ·
   refine T_skip (T_region hc (Ch.s (.d (.int .i64 (m : Int))) pm (Ch.s (.d (.int .i64 ((m : Int) + 1))) (iX rfl rfl intV_addA) (Ch.s (.d (.int .i64 ((m : Int) + 1))) pa (Ch.nil ?_)))))
   exact nx (m + 1) ⟨by omega, upto_succ hp0.2 (by assumption)⟩ (Wk.of rfl rfl (ai rfl (ai rfl (ai rfl (ai (vI a93) trivial)))) trivial)
 ·
  refine T_exit (T_seq (T_region hc (Ch.s (.c (.slice none 0 0)) pa (Ch.s (.d (.bool false)) pa (Ch.nil (T_ret ?_))))))
  exact endR [(.c (.slice none 0 0)), (.d (.bool false))] [] [] (.cons (.tmp 6 rfl) (.cons (.tmp 7 rfl) .nil)) (.cons (.any _) (.cons (.any _) (.cons (.any _) .nil))) (.tup (.cons (Exp.of (congrArg (D.slice true 1) a41) (.nil true 1)) (.cons (Exp.of (congrArg D.bool a41) (.d _)) .nil))) rfl rfl

theorem sp_impl_MinimumCover (n : Int) (on off : List (List UInt8)) (hn1 : on.length ≤ 1048576) (hx1 : ∀ x ∈ on, x.length ≤ 1048576) (hn2 : off.length ≤ 1048576) (hx2 : ∀ x ∈ off, x.length ≤ 1048576) : Sp Tryz.prog 83 [(.int .i64 n), (.slice false 1 (on.map D.str)), (.slice false 1 (off.map D.str))] [.any, .any, .any] (.tup [(.slice true 1 (((mcvF n on off).1).map D.str)), (.bool ((mcvF n on off).2))]) := by
 refine Sp_intro (lend := true) Tryz.func83 rfl rfl rfl (fun _ => rfl) (fun c hc hX => ?_)
 refine T_seq (T_region hc (Ch.s (.c (.slice none 0 0)) pa (Ch.s (.d (.bool false)) pa (Ch.nil (T_seq (T_seq (T_region hc ?_)))))))
 refine Ch.s (.d (.int .i64 n)) pm (Ch.s (.d (.slice false 1 (on.map D.str))) pm (Ch.s (.d (.slice false 1 (off.map D.str))) pm (Ch.s (.d (.bool (onoffB n on off))) (.call 11000 152 _ _ _ en152 rfl (.inl rfl) (.cons (.d _) (.cons (.d _) (.cons (.d _) .nil))) rfl rfl (sp_impl_IsValidOnOff n on off a17 a17 a17 a17) (.skip _ _ (.skip _ _ (.skip _ _ .nil))) rfl) (Ch.s (.d (.bool (!(onoffB n on off)))) (.pure (.not _ _ rfl rfl)) (Ch.nil ?_)))))
 refine T_condN (b := (onoffB n on off)) rfl (fun h1 => ?_) (fun h1 => ?_)
 ·
  try have hop := onoff_parts (by first | assumption | exact primOk_on (by assumption) : onoffB n on off = true)
  try have h0 : 0 ≤ n := by (have := hop.1; omega)
  try have h8 : n ≤ 8 := by (have := hop.1.2; omega)
  try have ho1 := hop.2.2.2.1
  try have ho2 := hop.2.2.2.2
  refine T_seq (T_region hc (Ch.s (.c (.slice none 0 0)) pa (Ch.s (.d (.bool false)) pa (Ch.nil (T_ret ?_)))))
  exact endR [(.c (.slice none 0 0)), (.d (.bool false))] [] [] (.cons (.tmp 6 rfl) (.cons (.tmp 7 rfl) .nil)) (.cons (.any _) (.cons (.any _) (.cons (.any _) .nil))) (.tup (.cons (Exp.of (congrArg (D.slice true 1) a24) (.nil true 1)) (.cons (Exp.of (congrArg D.bool a24) (.d _)) .nil))) rfl rfl
 ·
  try have hop := onoff_parts (by first | assumption | exact primOk_on (by assumption) : onoffB n on off = true)
  try have h0 : 0 ≤ n := by (have := hop.1; omega)
  try have h8 : n ≤ 8 := by (have := hop.1.2; omega)
  try have ho1 := hop.2.2.2.1
  try have ho2 := hop.2.2.2.2
  refine T_skip (T_seq (T_region hc (Ch.s (.d (.int .i64 n)) pm (Ch.s (.d (.slice false 1 (on.map D.str))) pm (Ch.s (.d (.slice false 1 (off.map D.str))) pm ?_)))))
  refine Ch.step (v := (.tup [(.row 16000), (.d (.bool ((minI n.toNat on off).2)))])) rfl (.call 16000 104 _ _ _ en104 rfl (.inl rfl) (.cons (.d _) (.cons (.d _) (.cons (.d _) .nil))) rfl (sol a85 rfl) (sp_impl_minimum n on off a100 a100 a100 a100 a100 a100) (.skip _ _ (.skip _ _ (.skip _ _ .nil))) rfl) rfl rfl ?_
  refine Ch.s (.row 16000) (.pure (.extract _ rfl rfl rfl)) (Ch.s (.d (.bool ((minI n.toNat on off).2))) (.pure (.extract _ rfl rfl rfl)) (Ch.s (.row 16000) pa (Ch.s (.d (.bool ((minI n.toNat on off).2))) pa (Ch.nil (T_ret ?_)))))
  exact endR [(.row 16000), (.d (.bool ((minI n.toNat on off).2)))] [] [16000] (.cons (.tmp 6 rfl) (.cons (.tmp 7 rfl) .nil)) (.cons (.any _) (.cons (.any _) (.cons (.any _) .nil))) (.tup (.cons (Exp.of (congrArg (D.slice true 1) a24) (.row rfl)) (.cons (Exp.of (congrArg D.bool a24) (.d _)) .nil))) rfl rfl

theorem sp_spec_MinimumCover (n : Int) (on off : List (List UInt8)) (hn1 : on.length ≤ 1048576) (hx1 : ∀ x ∈ on, x.length ≤ 1048576) (hn2 : off.length ≤ 1048576) (hx2 : ∀ x ∈ off, x.length ≤ 1048576) : Sp Tryz.prog 82 [(.int .i64 n), (.slice false 1 (on.map D.str)), (.slice false 1 (off.map D.str))] [.any, .any, .any] (.tup [(.slice true 1 (((mcvF n on off).1).map D.str)), (.bool ((mcvF n on off).2))]) := by
 refine Sp_intro (lend := true) Tryz.func82 rfl rfl rfl (fun _ => rfl) (fun c hc hX => ?_)
 refine T_seq (T_region hc (Ch.s (.c (.slice none 0 0)) pa (Ch.s (.d (.bool false)) pa (Ch.nil (T_seq (T_seq (T_region hc ?_)))))))
 refine Ch.s (.d (.int .i64 n)) pm (Ch.s (.d (.slice false 1 (on.map D.str))) pm (Ch.s (.d (.slice false 1 (off.map D.str))) pm ?_))
 refine Ch.step (v := (.tup [(.row 14000), (.d (.bool (primOk n on off)))])) rfl (.call 14000 150 _ _ _ en150 rfl (.inl rfl) (.cons (.d _) (.cons (.d _) (.cons (.d _) .nil))) rfl (sol a85 rfl) (sp_spec_Primes n on off a17 a17 a17 a17) (.skip _ _ (.skip _ _ (.skip _ _ .nil))) rfl) rfl rfl ?_
 refine Ch.s (.tup [(.row 14000), (.d (.bool (primOk n on off)))]) pm (Ch.s (.row 14000) (.pure (.extract _ rfl rfl rfl)) (Ch.s (.d (.bool (primOk n on off))) (.pure (.extract _ rfl rfl rfl)) (Ch.s (.row 14000) pa (Ch.s (.d (.bool (primOk n on off))) pa (Ch.nil (T_seq (T_region hc ?_)))))))
 refine Ch.s (.d (.bool (primOk n on off))) pm (Ch.s (.d (.bool (!(primOk n on off)))) (.pure (.not _ _ rfl rfl)) (Ch.nil ?_))
 refine T_condN (b := (primOk n on off)) rfl (fun h1 => ?_) (fun h1 => ?_)
 ·
  try have hop := onoff_parts (by first | assumption | exact primOk_on (by assumption) : onoffB n on off = true)
  try have h0 : 0 ≤ n := by (have := hop.1; omega)
  try have h8 : n ≤ 8 := by (have := hop.1.2; omega)
  try have ho1 := hop.2.2.2.1
  try have ho2 := hop.2.2.2.2
  refine T_seq (T_region hc (Ch.s (.c (.slice none 0 0)) pa (Ch.s (.d (.bool false)) pa (Ch.nil (T_ret ?_)))))
  exact endR [(.c (.slice none 0 0)), (.d (.bool false))] [] [] (.cons (.tmp 6 rfl) (.cons (.tmp 7 rfl) .nil)) (.cons (.any _) (.cons (.any _) (.cons (.any _) .nil))) (.tup (.cons (Exp.of (congrArg (D.slice true 1) a24) (.nil true 1)) (.cons (Exp.of (congrArg D.bool a24) (.d _)) .nil))) rfl rfl
 ·
  try have hop := onoff_parts (by first | assumption | exact primOk_on (by assumption) : onoffB n on off = true)
  try have h0 : 0 ≤ n := by (have := hop.1; omega)
  try have h8 : n ≤ 8 := by (have := hop.1.2; omega)
  try have ho1 := hop.2.2.2.1
  try have ho2 := hop.2.2.2.2
  refine T_skip (T_seq (T_region hc (Ch.s (.d (.int .i64 n)) pm (Ch.s (.d (.slice false 1 (on.map D.str))) pm (Ch.s (.d (.slice false 1 (off.map D.str))) pm ?_)))))
  refine Ch.step (v := (.tup [(.row 22000), (.d (.bool ((minF (primL n.toNat on off) on).2)))])) rfl (.call 22000 151 _ _ _ en151 rfl (.inl rfl) (.cons (.d _) (.cons (.d _) (.cons (.d _) .nil))) rfl (sol a85 rfl) (sp_spec_l14Least n on off a100 a100 a100 a100 a100 a100) (.skip _ _ (.skip _ _ (.skip _ _ .nil))) rfl) rfl rfl ?_
  refine Ch.s (.row 22000) (.pure (.extract _ rfl rfl rfl)) (Ch.s (.d (.bool ((minF (primL n.toNat on off) on).2))) (.pure (.extract _ rfl rfl rfl)) (Ch.s (.row 22000) pa (Ch.s (.d (.bool ((minF (primL n.toNat on off) on).2))) pa (Ch.nil (T_ret ?_)))))
  exact endR [(.row 22000), (.d (.bool ((minF (primL n.toNat on off) on).2)))] [] [22000] (.cons (.tmp 6 rfl) (.cons (.tmp 7 rfl) .nil)) (.cons (.any _) (.cons (.any _) (.cons (.any _) .nil))) (.tup (.cons (Exp.of (congrArg (D.slice true 1) a24) (.row rfl)) (.cons (Exp.of (congrArg D.bool a24) (.d _)) .nil))) rfl rfl

theorem en83 : Enters Tryz.prog 83 := ⟨_, Tryz.func83, by kernel_rfl, rfl⟩

theorem en82 : Enters Tryz.prog 82 := ⟨_, Tryz.func82, by kernel_rfl, rfl⟩

theorem en27 : Enters Tryz.prog 27 := ⟨_, Tryz.func27, by kernel_rfl, rfl⟩

theorem en28 : Enters Tryz.prog 28 := ⟨_, Tryz.func28, by kernel_rfl, rfl⟩

def nsf (x : Sgr) (sig : Int) : List (List UInt8) × Bool := if osOk x sig 0 then mcvF (x.sigs.length : Int) (osOn x sig 0) (osOff x sig 0) else ([], false)

theorem nsf_no {x : Sgr} {sig : Int} (h : osOk x sig 0 = false) : nsf x sig = ([], false) := by rw [nsf, h]; rfl

theorem nsf_yes {x : Sgr} {sig : Int} (h : osOk x sig 0 = true) : nsf x sig = mcvF (x.sigs.length : Int) (osOn x sig 0) (osOff x sig 0) := by rw [nsf, h]; rfl

theorem nsf_len (x : Sgr) (sig : Int) : (nsf x sig).1.length ≤ 7 := by
  unfold nsf
  split
  · exact mcvF_len _ _ _
  · exact Nat.zero_le _

theorem osOn_in (x : Sgr) (sig : Int) (w : Nat) : ∀ u ∈ osOn x sig w, u ∈ x.codes := fun u hu => by
  unfold osOn at hu
  split at hu
  · unfold setsOn at hu
    split at hu
    · exact osTo_in (Nat.le_refl _) u hu
    · cases hu
  · cases hu

theorem osOff_in (x : Sgr) (sig : Int) (w : Nat) : ∀ u ∈ osOff x sig w, u ∈ x.codes := fun u hu => by
  unfold osOff at hu
  split at hu
  · unfold setsOff at hu
    split at hu
    · exact osTo_in (Nat.le_refl _) u hu
    · cases hu
  · cases hu

theorem sp_impl_NextStateFunction (x : Sgr) (sig : Int) (hb : x.bulk ≤ 1048576) : Sp Tryz.prog 28 [(.agg [(.slice false 2 (x.sigs.map Sgn.d)), (.slice false 1 (x.codes.map D.str)), (.slice false 4 (x.arcs.map Arc.d))]), (.int .i64 sig)] [.any, .any] (.tup [(.slice true 1 (((nsf x sig).1).map D.str)), (.bool ((nsf x sig).2))]) := by
 refine Sp_intro (lend := true) Tryz.func28 rfl rfl rfl (fun _ => rfl) (fun c hc hX => ?_)
 obtain ⟨hp0, hp1, hp2⟩ := Sgr.parts hb
 have hn0 := bulkF_len hp0
 have hn1 := bulk_len hp1
 have hx1 := bulk_mem hp1
 have hn2 := bulkF_len hp2; have hlo := Nat.le_trans (osOn_le x sig 0) hn1; have hlf := Nat.le_trans (osOff_le x sig 0) hn1; have hxo : ∀ u ∈ osOn x sig 0, u.length ≤ 1048576 := fun u hu => hx1 u (osOn_in x sig 0 u hu); have hxf : ∀ u ∈ osOff x sig 0, u.length ≤ 1048576 := fun u hu => hx1 u (osOff_in x sig 0 u hu)
 refine T_seq (T_region hc (Ch.s (.ptr 2000 0) (.box 2000 _ _ rfl (.aggD _)) (Ch.s (.c (.slice none 0 0)) pa (Ch.s (.d (.bool false)) pa (Ch.nil (T_seq (T_region hc ?_)))))))
 refine Ch.s (.agg (vX x)) (.pure (.loadPtrA _ _ rfl ag35 sz35 rfl rfl (lb rfl) rfl)) (Ch.s (.d (.int .i64 sig)) pm ?_)
 refine Ch.step (v := (.tup [(.agg [(.row 11000), (.row 11001)]), (.d (.bool (osOk x sig 0)))])) rfl (.call 11000 80 _ _ _ en80 rfl (.inl rfl) (.cons lX (.cons (.d _) .nil)) rfl (sol a50 rfl) (sp_impl_NextStateSets x sig a31) (.skip _ _ (.skip _ _ .nil)) rfl) rfl rfl ?_
 refine Ch.s (.tup [(.agg [(.row 11000), (.row 11001)]), (.d (.bool (osOk x sig 0)))]) pm (Ch.s (.agg [(.row 11000), (.row 11001)]) (.pure (.extract _ rfl rfl rfl)) (Ch.s (.d (.bool (osOk x sig 0))) (.pure (.extract _ rfl rfl rfl)) (Ch.s (.ptr 6000 0) (.alloc 6000 _ rfl zer29) (Ch.s .junk (.storePtr _ _ _ rfl rfl rfl (.agg _ rfl) sz29 (lb rfl)) (Ch.s (.d (.bool (osOk x sig 0))) pa (Ch.nil (T_seq ?_)))))))
 refine T_seq (T_region hc (Ch.s (.d (.bool (osOk x sig 0))) pm (Ch.s (.d (.bool (!(osOk x sig 0)))) (.pure (.not _ _ rfl rfl)) (Ch.nil ?_))))
 refine T_condN (b := (osOk x sig 0)) rfl (fun h1 => ?_) (fun h1 => ?_)
 ·
  refine T_seq (T_region hc (Ch.s (.c (.slice none 0 0)) pa (Ch.s (.d (.bool false)) pa (Ch.nil (T_ret ?_)))))
  exact endR [(.c (.slice none 0 0)), (.d (.bool false))] [] [] (.cons (.tmp 4 rfl) (.cons (.tmp 5 rfl) .nil)) (.cons (.any _) (.cons (.any _) .nil)) (.tup (.cons (Exp.of (congrArg (D.slice true 1) a61) (.nil true 1)) (.cons (Exp.of (congrArg D.bool a61) (.d _)) .nil))) rfl rfl
 ·
  refine T_skip (T_seq (T_region hc (Ch.s (.ptr 2000 0) (.pure (.fldPtr _ _ _ rfl fld35_0 rfl)) (Ch.s (.d (.slice false 2 (x.sigs.map Sgn.d))) (.pure (.loadPtr1 _ _ rfl ag32 rfl rfl rfl)) (Ch.s (.d (.int .i64 (x.sigs.length : Int))) (.pure (.len _ _ 154 rfl Tryz.underlying32 (.sh _ _) (by simp))) (Ch.s (.ptr 6000 0) (.pure (.fldPtr _ _ _ rfl fld29_0 rfl)) (Ch.s (.row 11000) (.pure (.loadPtr1 _ _ rfl ag23 rfl rfl rfl)) ?_)))))))
  refine Ch.s (.ptr 6000 1) (.pure (.fldPtr _ _ _ rfl fld29_1 rfl)) (Ch.s (.row 11001) (.pure (.loadPtr1 _ _ rfl ag23 rfl rfl rfl)) ?_)
  refine Ch.step (v := (.tup [(.row 23000), (.d (.bool ((mcvF (x.sigs.length : Int) (osOn x sig 0) (osOff x sig 0)).2)))])) rfl (.call 23000 83 _ _ _ en83 rfl (.inl rfl) (.cons (.d _) (.cons (.lend (.row rfl (frozs_map (fun _ => rfl) _))) (.cons (.lend (.row rfl (frozs_map (fun _ => rfl) _))) .nil))) rfl (sol a85 rfl) (sp_impl_MinimumCover (x.sigs.length : Int) (osOn x sig 0) (osOff x sig 0) (by assumption) (by assumption) (by assumption) (by assumption)) (.skip _ _ (.skip _ _ (.skip _ _ .nil))) rfl) rfl rfl ?_
  refine Ch.s (.row 23000) (.pure (.extract _ rfl rfl rfl)) (Ch.s (.d (.bool ((mcvF (x.sigs.length : Int) (osOn x sig 0) (osOff x sig 0)).2))) (.pure (.extract _ rfl rfl rfl)) (Ch.s (.row 23000) pa (Ch.s (.d (.bool ((mcvF (x.sigs.length : Int) (osOn x sig 0) (osOff x sig 0)).2))) pa (Ch.nil (T_ret ?_)))))
  exact endR [(.row 23000), (.d (.bool ((mcvF (x.sigs.length : Int) (osOn x sig 0) (osOff x sig 0)).2)))] [] [23000] (.cons (.tmp 4 rfl) (.cons (.tmp 5 rfl) .nil)) (.cons (.any _) (.cons (.any _) .nil)) (.tup (.cons (Exp.of (congrArg (D.slice true 1) a61) (.row rfl)) (.cons (Exp.of (congrArg D.bool a61) (.d _)) .nil))) rfl rfl

theorem sp_spec_NextStateFunction (x : Sgr) (sig : Int) (hb : x.bulk ≤ 1048576) : Sp Tryz.prog 27 [(.agg [(.slice false 2 (x.sigs.map Sgn.d)), (.slice false 1 (x.codes.map D.str)), (.slice false 4 (x.arcs.map Arc.d))]), (.int .i64 sig)] [.any, .any] (.tup [(.slice true 1 (((nsf x sig).1).map D.str)), (.bool ((nsf x sig).2))]) := by
 refine Sp_intro (lend := true) Tryz.func27 rfl rfl rfl (fun _ => rfl) (fun c hc hX => ?_)
 obtain ⟨hp0, hp1, hp2⟩ := Sgr.parts hb
 have hn0 := bulkF_len hp0
 have hn1 := bulk_len hp1
 have hx1 := bulk_mem hp1
 have hn2 := bulkF_len hp2; have hlo := Nat.le_trans (osOn_le x sig 0) hn1; have hlf := Nat.le_trans (osOff_le x sig 0) hn1; have hxo : ∀ u ∈ osOn x sig 0, u.length ≤ 1048576 := fun u hu => hx1 u (osOn_in x sig 0 u hu); have hxf : ∀ u ∈ osOff x sig 0, u.length ≤ 1048576 := fun u hu => hx1 u (osOff_in x sig 0 u hu)
 refine T_seq (T_region hc (Ch.s (.ptr 2000 0) (.box 2000 _ _ rfl (.aggD _)) (Ch.s (.c (.slice none 0 0)) pa (Ch.s (.d (.bool false)) pa (Ch.nil (T_seq (T_region hc ?_)))))))
 refine Ch.s (.agg (vX x)) (.pure (.loadPtrA _ _ rfl ag35 sz35 rfl rfl (lb rfl) rfl)) (Ch.s (.d (.int .i64 sig)) pm ?_)
 refine Ch.step (v := (.tup [(.agg [(.row 11000), (.row 11001)]), (.d (.bool (osOk x sig 0)))])) rfl (.call 11000 78 _ _ _ en78 rfl (.inl rfl) (.cons lX (.cons (.d _) .nil)) rfl (sol a50 rfl) (sp_spec_NextStateSets x sig a31) (.skip _ _ (.skip _ _ .nil)) rfl) rfl rfl ?_
 refine Ch.s (.tup [(.agg [(.row 11000), (.row 11001)]), (.d (.bool (osOk x sig 0)))]) pm (Ch.s (.agg [(.row 11000), (.row 11001)]) (.pure (.extract _ rfl rfl rfl)) (Ch.s (.d (.bool (osOk x sig 0))) (.pure (.extract _ rfl rfl rfl)) (Ch.s (.ptr 6000 0) (.alloc 6000 _ rfl zer29) (Ch.s .junk (.storePtr _ _ _ rfl rfl rfl (.agg _ rfl) sz29 (lb rfl)) (Ch.s (.d (.bool (osOk x sig 0))) pa (Ch.nil (T_seq ?_)))))))
 refine T_seq (T_region hc (Ch.s (.d (.bool (osOk x sig 0))) pm (Ch.s (.d (.bool (!(osOk x sig 0)))) (.pure (.not _ _ rfl rfl)) (Ch.nil ?_))))
 refine T_condN (b := (osOk x sig 0)) rfl (fun h1 => ?_) (fun h1 => ?_)
 ·
  refine T_seq (T_region hc (Ch.s (.c (.slice none 0 0)) pa (Ch.s (.d (.bool false)) pa (Ch.nil (T_ret ?_)))))
  exact endR [(.c (.slice none 0 0)), (.d (.bool false))] [] [] (.cons (.tmp 4 rfl) (.cons (.tmp 5 rfl) .nil)) (.cons (.any _) (.cons (.any _) .nil)) (.tup (.cons (Exp.of (congrArg (D.slice true 1) a61) (.nil true 1)) (.cons (Exp.of (congrArg D.bool a61) (.d _)) .nil))) rfl rfl
 ·
  refine T_skip (T_seq (T_region hc (Ch.s (.ptr 2000 0) (.pure (.fldPtr _ _ _ rfl fld35_0 rfl)) (Ch.s (.d (.slice false 2 (x.sigs.map Sgn.d))) (.pure (.loadPtr1 _ _ rfl ag32 rfl rfl rfl)) (Ch.s (.d (.int .i64 (x.sigs.length : Int))) (.pure (.len _ _ 154 rfl Tryz.underlying32 (.sh _ _) (by simp))) (Ch.s (.ptr 6000 0) (.pure (.fldPtr _ _ _ rfl fld29_0 rfl)) (Ch.s (.row 11000) (.pure (.loadPtr1 _ _ rfl ag23 rfl rfl rfl)) ?_)))))))
  refine Ch.s (.ptr 6000 1) (.pure (.fldPtr _ _ _ rfl fld29_1 rfl)) (Ch.s (.row 11001) (.pure (.loadPtr1 _ _ rfl ag23 rfl rfl rfl)) ?_)
  refine Ch.step (v := (.tup [(.row 23000), (.d (.bool ((mcvF (x.sigs.length : Int) (osOn x sig 0) (osOff x sig 0)).2)))])) rfl (.call 23000 82 _ _ _ en82 rfl (.inl rfl) (.cons (.d _) (.cons (.lend (.row rfl (frozs_map (fun _ => rfl) _))) (.cons (.lend (.row rfl (frozs_map (fun _ => rfl) _))) .nil))) rfl (sol a85 rfl) (sp_spec_MinimumCover (x.sigs.length : Int) (osOn x sig 0) (osOff x sig 0) (by assumption) (by assumption) (by assumption) (by assumption)) (.skip _ _ (.skip _ _ (.skip _ _ .nil))) rfl) rfl rfl ?_
  refine Ch.s (.row 23000) (.pure (.extract _ rfl rfl rfl)) (Ch.s (.d (.bool ((mcvF (x.sigs.length : Int) (osOn x sig 0) (osOff x sig 0)).2))) (.pure (.extract _ rfl rfl rfl)) (Ch.s (.row 23000) pa (Ch.s (.d (.bool ((mcvF (x.sigs.length : Int) (osOn x sig 0) (osOff x sig 0)).2))) pa (Ch.nil (T_ret ?_)))))
  exact endR [(.row 23000), (.d (.bool ((mcvF (x.sigs.length : Int) (osOn x sig 0) (osOff x sig 0)).2)))] [] [23000] (.cons (.tmp 4 rfl) (.cons (.tmp 5 rfl) .nil)) (.cons (.any _) (.cons (.any _) .nil)) (.tup (.cons (Exp.of (congrArg (D.slice true 1) a61) (.row rfl)) (.cons (Exp.of (congrArg D.bool a61) (.d _)) .nil))) rfl rfl

end Go.AM
