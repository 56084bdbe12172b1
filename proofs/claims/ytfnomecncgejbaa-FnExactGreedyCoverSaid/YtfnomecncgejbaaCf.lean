/-
  Contracts: codes; strings.Contains for a text of one letter; CubeContains, CoverContains.
-/
import Derived.Test.YtfnomecncgejbaaCd
namespace Go.AM
open Go.Proofs
set_option linter.unusedVariables false
set_option linter.unusedSimpArgs false

theorem en182 : Enters Try.prog 182 := ⟨_, Try.func182, by kernel_rfl, rfl⟩
theorem en181 : Enters Try.prog 181 := ⟨_, Try.func181, by kernel_rfl, rfl⟩
theorem en178 : Enters Try.prog 178 := ⟨_, Try.func178, by kernel_rfl, rfl⟩
theorem en173 : Enters Try.prog 173 := ⟨_, Try.func173, by kernel_rfl, rfl⟩
theorem en158 : Enters Try.prog 158 := ⟨_, Try.func158, by kernel_rfl, rfl⟩
theorem en116 : Enters Try.prog 116 := ⟨_, Try.func116, by kernel_rfl, rfl⟩
theorem en131 : Enters Try.prog 131 := ⟨_, Try.func131, by kernel_rfl, rfl⟩

def codeCh (x : UInt8) : Bool := x == 48 || x == 49
def codeN (u : List UInt8) (n : Int) : Bool := allB u.length (fun j => codeCh (u.getD j 0)) && decide ((u.length : Int) = n)
def hasCh (x y : UInt8) : Bool := x == 45 || x == y
def hasB (a b : List UInt8) : Bool := allB a.length fun j => hasCh (a.getD j 0) (b.getD j 0)
def dashB (u : List UInt8) : Bool := decide (0 ≤ Lib.indexByte u 45)
def isCodeB (u : List UInt8) (n : Int) : Bool := cubeN u n && !dashB u
def inB (xs : List (List UInt8)) (u : List UInt8) : Bool := xs.any fun a => hasB a u
theorem dashB_iff (u : List UInt8) : dashB u = true ↔ 45 ∈ u := by
  unfold dashB
  rw [decide_eq_true_iff]
  induction u with
  | nil => exact ⟨fun h => absurd h (by decide), fun h => by cases h⟩
  | cons x u ih =>
    have hge := Lib.indexByte_ge u 45
    rw [Lib.indexByte, List.mem_cons]
    split
    · rename_i h
      have h : x = 45 := by simpa using h
      exact ⟨fun _ => .inl h.symm, fun _ => Int.le_refl 0⟩
    · rename_i h
      have hx : ¬ (45 : UInt8) = x := fun e => h (by rw [e]; simp)
      split
      · rename_i h2
        have h2 : Lib.indexByte u 45 = -1 := by simpa using h2
        rw [h2] at ih
        constructor
        · intro h3; exact absurd h3 (by decide)
        · rintro (h3 | h3)
          · exact absurd h3 hx
          · exact absurd (ih.2 h3) (by decide)
      · rename_i h2
        have h2 : ¬ Lib.indexByte u 45 = -1 := by simpa using h2
        constructor
        · intro h3
          have h4 : 0 ≤ Lib.indexByte u 45 := by generalize Lib.indexByte u 45 = z at *; omega
          exact .inr (ih.1 h4)
        · rintro (h3 | h3)
          · exact absurd h3 hx
          · have h4 := ih.2 h3; generalize Lib.indexByte u 45 = z at *; omega
theorem code_eq (u : List UInt8) (n : Int) : isCodeB u n = (codeN u n && withinB n 1 8) := by
  rw [Bool.eq_iff_iff]
  unfold isCodeB cubeN cubeS codeN
  simp only [Bool.and_eq_true, Bool.not_eq_true', allB_true, ← Bool.not_eq_true, dashB_iff, decide_eq_true_iff]
  have hm : (∃ j, j < u.length ∧ u.getD j 0 = 45) ↔ 45 ∈ u := by
    constructor
    · rintro ⟨j, hj, h⟩; rw [← h]; exact getD_mem hj
    · intro h; obtain ⟨j, hj, h⟩ := List.mem_iff_getElem.1 h; exact ⟨j, hj, by simp [hj, h]⟩
  constructor
  · rintro ⟨⟨⟨h1, h2⟩, h3⟩, h4⟩
    refine ⟨⟨fun j hj => ?_, h2⟩, h3⟩
    have h5 := h1 j hj
    have h6 : ¬ u.getD j 0 = 45 := fun e => h4 (hm.1 ⟨j, hj, e⟩)
    unfold cubeCh at h5
    unfold codeCh
    simp only [Bool.or_eq_true, beq_iff_eq] at h5 ⊢
    exact h5.resolve_right h6
  · rintro ⟨⟨h1, h2⟩, h3⟩
    refine ⟨⟨⟨fun j hj => ?_, h2⟩, h3⟩, fun h => ?_⟩
    · have h5 := h1 j hj
      unfold codeCh at h5
      unfold cubeCh
      simp only [Bool.or_eq_true] at h5 ⊢
      exact .inl h5
    · obtain ⟨j, hj, h6⟩ := hm.2 h
      have h5 := h1 j hj
      rw [h6] at h5
      exact absurd h5 (by decide)

theorem sp_spec_l5Code (u : List UInt8) (n : Int) (hs : u.length ≤ 1048576) : Sp Try.prog 159 [(.str u), (.int .i64 n)] [.any, .any] (.bool (codeN u n)) := by
  refine Sp_intro (lend := true) Try.func159 rfl rfl rfl (fun _ => rfl) (fun c hc hX => ?_)
  refine T_seq ?_
  refine T_region hc ?_
  refine Ch.step (v := (.d (.bool false))) rfl (.pure (.assign _ rfl rfl)) rfl rfl ?_
  refine Ch.nil ?_
  refine T_seq ?_
  refine T_seq ?_
  refine T_region hc ?_
  refine Ch.step (v := (.d (.int .i64 0))) rfl (.pure (.assign _ rfl rfl)) rfl rfl ?_
  refine Ch.nil ?_
  refine T_block ?_
  refine T_loop (ι := Nat) (fun k => { n := 26, sl := [(0, (.d (.str u))), (1, (.d (.int .i64 n))), (5, (.d (.int .i64 ((k : Nat) : Int))))], hp := [], pin := [] }) (fun k => k ≤ u.length ∧ ∀ j, j < k → codeCh (u.getD j 0) = true) (fun k => u.length - k) ⟨0, ⟨by omega, fun j hj => by omega⟩, (Wk.of rfl rfl (And.intro rfl (And.intro rfl (And.intro (vI (by first | rfl | omega | (simp; done) | (simp; omega))) trivial))) trivial)⟩ (fun k hp0 => ?_)
  refine T_seq ?_
  refine T_seq ?_
  refine T_region hc ?_
  refine Ch.step (v := (.d (.int .i64 ((k : Nat) : Int)))) rfl (.pure (.move _ rfl rfl)) rfl rfl ?_
  refine Ch.step (v := (.d (.str u))) rfl (.pure (.move _ rfl rfl)) rfl rfl ?_
  refine Ch.step (v := (.d (.int .i64 ((u.length : Nat) : Int)))) rfl (.pure (.lenStr _ _ rfl Try.underlying9 rfl)) rfl rfl ?_
  refine Ch.step (v := (.d (.bool (decide (((k : Nat) : Int) < ((u.length : Nat) : Int)))))) rfl (.pure (.int _ _ _ _ _ rfl rfl rfl rfl)) rfl rfl ?_
  refine Ch.nil ?_
  refine T_cond (b := (decide (((k : Nat) : Int) < ((u.length : Nat) : Int)))) rfl (fun h1 => ?_) (fun h1 => ?_)
  · replace h1 := of_decide_eq_true h1
    refine T_skip ?_
    refine T_seq ?_
    refine T_block ?_
    refine T_seq ?_
    refine T_region hc ?_
    refine Ch.step (v := (.d (.str u))) rfl (.pure (.move _ rfl rfl)) rfl rfl ?_
    refine Ch.step (v := (.d (.int .i64 ((k : Nat) : Int)))) rfl (.pure (.move _ rfl rfl)) rfl rfl ?_
    refine Ch.step (v := (.d (.int .u8 ((u.getD k 0).toNat : Int)))) rfl (.pure (.idxStr _ _ _ (k) rfl Try.underlying9 rfl rfl rfl (get_str (by first | omega | (simp only [List.length_map, List.length_append, List.length_take, List.length_drop, List.length_cons, List.length_nil]; omega) | (simp; omega) | (simp; done))))) rfl rfl ?_
    refine Ch.step (v := (.d (.bool (!(decide (((u.getD k 0) : UInt8) = 48)))))) rfl (.pure (.int _ _ _ _ _ rfl rfl rfl (u8_neq ((u.getD k 0) : UInt8) 48 rfl rfl))) rfl rfl ?_
    refine Ch.step (v := (.d (.bool (!(decide (((u.getD k 0) : UInt8) = 48)))))) rfl (.pure (.move _ rfl rfl)) rfl rfl ?_
    cases h2 : (decide (((u.getD k 0) : UInt8) = 48)) with
    | true =>
      replace h2 := of_decide_eq_true h2
      refine Ch.skip rfl rfl ?_
      refine Ch.skip rfl rfl ?_
      refine Ch.skip rfl rfl ?_
      refine Ch.skip rfl rfl ?_
      refine Ch.step (v := (.d (.bool false))) rfl (.pure (.pickF _ _ _ rfl rfl rfl)) rfl rfl ?_
      refine Ch.nil ?_
      refine T_cond (b := false) rfl (fun h => nomatch h) (fun _ => ?_)
      refine T_skip ?_
      refine T_region hc ?_
      refine Ch.step (v := (.d (.int .i64 ((k : Nat) : Int)))) rfl (.pure (.move _ rfl rfl)) rfl rfl ?_
      refine Ch.step (v := (.d (.int .i64 (((k : Nat) : Int) + 1)))) rfl (.pure (.int _ _ _ _ _ rfl rfl rfl (intV_add (by first | omega | (simp only [List.length_map, List.length_append, List.length_take, List.length_drop, List.length_cons, List.length_nil]; omega) | (simp; omega) | (simp; done)) (by first | omega | (simp only [List.length_map, List.length_append, List.length_take, List.length_drop, List.length_cons, List.length_nil]; omega) | (simp; omega) | (simp; done))))) rfl rfl ?_
      refine Ch.step (v := (.d (.int .i64 (((k : Nat) : Int) + 1)))) rfl (.pure (.assign _ rfl rfl)) rfl rfl ?_
      refine Ch.nil ?_
      refine Exists.intro (k + 1) (And.intro ⟨by omega, upto_succ hp0.2 (by simp_all [codeCh])⟩ (And.intro (by first | omega | (dsimp only; omega)) (Wk.of rfl rfl (And.intro rfl (And.intro rfl (And.intro (vI (by first | rfl | omega | (simp; done) | (simp; omega))) trivial))) trivial)))
    | false =>
      replace h2 := of_decide_eq_false h2
      refine Ch.step (v := (.d (.str u))) rfl (.pure (.move _ rfl rfl)) rfl rfl ?_
      refine Ch.step (v := (.d (.int .i64 ((k : Nat) : Int)))) rfl (.pure (.move _ rfl rfl)) rfl rfl ?_
      refine Ch.step (v := (.d (.int .u8 ((u.getD k 0).toNat : Int)))) rfl (.pure (.idxStr _ _ _ (k) rfl Try.underlying9 rfl rfl rfl (get_str (by first | omega | (simp only [List.length_map, List.length_append, List.length_take, List.length_drop, List.length_cons, List.length_nil]; omega) | (simp; omega) | (simp; done))))) rfl rfl ?_
      refine Ch.step (v := (.d (.bool (!(decide (((u.getD k 0) : UInt8) = 49)))))) rfl (.pure (.int _ _ _ _ _ rfl rfl rfl (u8_neq ((u.getD k 0) : UInt8) 49 rfl rfl))) rfl rfl ?_
      refine Ch.step (v := (.d (.bool (!(decide (((u.getD k 0) : UInt8) = 49)))))) rfl (.pure (.pickT _ _ _ rfl rfl rfl)) rfl rfl ?_
      refine Ch.nil ?_
      refine T_cond (b := (!(decide (((u.getD k 0) : UInt8) = 49)))) rfl (fun h3 => ?_) (fun h3 => ?_)
      · replace h3 := nott h3
        replace h3 := of_decide_eq_false h3
        refine T_seq ?_
        refine T_region hc ?_
        refine Ch.step (v := (.d (.bool false))) rfl (.pure (.assign _ rfl rfl)) rfl rfl ?_
        refine Ch.nil ?_
        refine T_ret ?_
        refine And.intro (.inr rfl) ?_
        exact Exists.intro [(.d (.bool false))] (Exists.intro [] (Exists.intro [] (And.intro (.cons (.tmp 4 rfl) .nil) (And.intro (.cons (.any _) (.cons (.any _) .nil)) (And.intro (Exp.of (congrArg D.bool (by first | (rw [codeN, allB_no k (by omega) (by simp_all [codeCh])]; rfl) | (rw [codeN, allB_of (fun j hj => hp0.2 j (by omega)), Bool.true_and]))) (.d _)) (And.intro rfl rfl))))))
      · replace h3 := notf h3
        replace h3 := of_decide_eq_true h3
        refine T_skip ?_
        refine T_region hc ?_
        refine Ch.step (v := (.d (.int .i64 ((k : Nat) : Int)))) rfl (.pure (.move _ rfl rfl)) rfl rfl ?_
        refine Ch.step (v := (.d (.int .i64 (((k : Nat) : Int) + 1)))) rfl (.pure (.int _ _ _ _ _ rfl rfl rfl (intV_add (by first | omega | (simp only [List.length_map, List.length_append, List.length_take, List.length_drop, List.length_cons, List.length_nil]; omega) | (simp; omega) | (simp; done)) (by first | omega | (simp only [List.length_map, List.length_append, List.length_take, List.length_drop, List.length_cons, List.length_nil]; omega) | (simp; omega) | (simp; done))))) rfl rfl ?_
        refine Ch.step (v := (.d (.int .i64 (((k : Nat) : Int) + 1)))) rfl (.pure (.assign _ rfl rfl)) rfl rfl ?_
        refine Ch.nil ?_
        refine Exists.intro (k + 1) (And.intro ⟨by omega, upto_succ hp0.2 (by simp_all [codeCh])⟩ (And.intro (by first | omega | (dsimp only; omega)) (Wk.of rfl rfl (And.intro rfl (And.intro rfl (And.intro (vI (by first | rfl | omega | (simp; done) | (simp; omega))) trivial))) trivial)))
  · replace h1 := of_decide_eq_false h1
    refine T_exit ?_
    refine T_seq ?_
    refine T_region hc ?_
    refine Ch.step (v := (.d (.str u))) rfl (.pure (.move _ rfl rfl)) rfl rfl ?_
    refine Ch.step (v := (.d (.int .i64 ((u.length : Nat) : Int)))) rfl (.pure (.lenStr _ _ rfl Try.underlying9 rfl)) rfl rfl ?_
    refine Ch.step (v := (.d (.int .i64 n))) rfl (.pure (.move _ rfl rfl)) rfl rfl ?_
    refine Ch.step (v := (.d (.bool (decide (((u.length : Nat) : Int) = n))))) rfl (.pure (.int _ _ _ _ _ rfl rfl rfl rfl)) rfl rfl ?_
    refine Ch.step (v := (.d (.bool (decide (((u.length : Nat) : Int) = n))))) rfl (.pure (.assign _ rfl rfl)) rfl rfl ?_
    refine Ch.nil ?_
    refine T_ret ?_
    refine And.intro (.inr rfl) ?_
    exact Exists.intro [(.d (.bool (decide (((u.length : Nat) : Int) = n))))] (Exists.intro [] (Exists.intro [] (And.intro (.cons (.tmp 4 rfl) .nil) (And.intro (.cons (.any _) (.cons (.any _) .nil)) (And.intro (Exp.of (congrArg D.bool (by first | (rw [codeN, allB_no k (by omega) (by simp_all [codeCh])]; rfl) | (rw [codeN, allB_of (fun j hj => hp0.2 j (by omega)), Bool.true_and]))) (.d _)) (And.intro rfl rfl))))))

theorem sp_spec_l13Has (a b : List UInt8) (ha : a.length ≤ 1048576) (hl : a.length ≤ b.length) : Sp Try.prog 158 [(.str a), (.str b)] [.any, .any] (.bool (hasB a b)) := by
  refine Sp_intro (lend := true) Try.func158 rfl rfl rfl (fun _ => rfl) (fun c hc hX => ?_)
  refine T_seq ?_
  refine T_region hc ?_
  refine Ch.step (v := (.d (.bool false))) rfl (.pure (.assign _ rfl rfl)) rfl rfl ?_
  refine Ch.nil ?_
  refine T_seq ?_
  refine T_seq ?_
  refine T_region hc ?_
  refine Ch.step (v := (.d (.int .i64 0))) rfl (.pure (.assign _ rfl rfl)) rfl rfl ?_
  refine Ch.nil ?_
  refine T_block ?_
  refine T_loop (ι := Nat) (fun k => { n := 25, sl := [(0, (.d (.str a))), (1, (.d (.str b))), (5, (.d (.int .i64 ((k : Nat) : Int))))], hp := [], pin := [] }) (fun k => k ≤ a.length ∧ ∀ j, j < k → hasCh (a.getD j 0) (b.getD j 0) = true) (fun k => a.length - k) ⟨0, ⟨by omega, fun j hj => by omega⟩, (Wk.of rfl rfl (And.intro rfl (And.intro rfl (And.intro (vI (by first | rfl | omega | (simp; done) | (simp; omega))) trivial))) trivial)⟩ (fun k hp0 => ?_)
  refine T_seq ?_
  refine T_seq ?_
  refine T_region hc ?_
  refine Ch.step (v := (.d (.int .i64 ((k : Nat) : Int)))) rfl (.pure (.move _ rfl rfl)) rfl rfl ?_
  refine Ch.step (v := (.d (.str a))) rfl (.pure (.move _ rfl rfl)) rfl rfl ?_
  refine Ch.step (v := (.d (.int .i64 ((a.length : Nat) : Int)))) rfl (.pure (.lenStr _ _ rfl Try.underlying9 rfl)) rfl rfl ?_
  refine Ch.step (v := (.d (.bool (decide (((k : Nat) : Int) < ((a.length : Nat) : Int)))))) rfl (.pure (.int _ _ _ _ _ rfl rfl rfl rfl)) rfl rfl ?_
  refine Ch.nil ?_
  refine T_cond (b := (decide (((k : Nat) : Int) < ((a.length : Nat) : Int)))) rfl (fun h1 => ?_) (fun h1 => ?_)
  · replace h1 := of_decide_eq_true h1
    refine T_skip ?_
    refine T_seq ?_
    refine T_block ?_
    refine T_seq ?_
    refine T_regionD hc (by kernel_rfl) ?_
    refine ChD.step (v := (.d (.str a))) [] rfl (.pure (.move _ rfl rfl)) rfl rfl ?_
    refine ChD.step (v := (.d (.int .i64 ((k : Nat) : Int)))) [] rfl (.pure (.move _ rfl rfl)) rfl rfl ?_
    refine ChD.step (v := (.d (.int .u8 ((a.getD k 0).toNat : Int)))) [] rfl (.pure (.idxStr _ _ _ (k) rfl Try.underlying9 rfl rfl rfl (get_str (by first | omega | (simp only [List.length_map, List.length_append, List.length_take, List.length_drop, List.length_cons, List.length_nil]; omega) | (simp; omega) | (simp; done))))) rfl rfl ?_
    refine ChD.step (v := (.d (.bool (!(decide (((a.getD k 0) : UInt8) = 45)))))) [] rfl (.pure (.int _ _ _ _ _ rfl rfl rfl (u8_neq ((a.getD k 0) : UInt8) 45 rfl rfl))) rfl rfl ?_
    refine ChD.step (v := (.d (.bool (!(decide (((a.getD k 0) : UInt8) = 45)))))) [] rfl (.pure (.move _ rfl rfl)) rfl rfl ?_
    cases h2 : (decide (((a.getD k 0) : UInt8) = 45)) with
    | true =>
      replace h2 := of_decide_eq_true h2
      refine ChD.skip rfl rfl ?_
      refine ChD.skip rfl rfl ?_
      refine ChD.skip rfl rfl ?_
      refine ChD.skip rfl rfl ?_
      refine ChD.skip rfl rfl ?_
      refine ChD.skip rfl rfl ?_
      refine ChD.skip rfl rfl ?_
      refine ChD.step (v := (.d (.bool false))) [] rfl (.pure (.pickF _ _ _ rfl rfl rfl)) rfl rfl ?_
      refine ChD.nil (And.intro ?_ (by kernel_rfl))
      refine T_cond (b := false) rfl (fun h => nomatch h) (fun _ => ?_)
      refine T_skip ?_
      refine T_region hc ?_
      refine Ch.step (v := (.d (.int .i64 ((k : Nat) : Int)))) rfl (.pure (.move _ rfl rfl)) rfl rfl ?_
      refine Ch.step (v := (.d (.int .i64 (((k : Nat) : Int) + 1)))) rfl (.pure (.int _ _ _ _ _ rfl rfl rfl (intV_add (by first | omega | (simp only [List.length_map, List.length_append, List.length_take, List.length_drop, List.length_cons, List.length_nil]; omega) | (simp; omega) | (simp; done)) (by first | omega | (simp only [List.length_map, List.length_append, List.length_take, List.length_drop, List.length_cons, List.length_nil]; omega) | (simp; omega) | (simp; done))))) rfl rfl ?_
      refine Ch.step (v := (.d (.int .i64 (((k : Nat) : Int) + 1)))) rfl (.pure (.assign _ rfl rfl)) rfl rfl ?_
      refine Ch.nil ?_
      refine Exists.intro (k + 1) (And.intro ⟨by omega, upto_succ hp0.2 (by simp_all [hasCh])⟩ (And.intro (by first | omega | (dsimp only; omega)) (Wk.of rfl rfl (And.intro rfl (And.intro rfl (And.intro (vI (by first | rfl | omega | (simp; done) | (simp; omega))) trivial))) trivial)))
    | false =>
      replace h2 := of_decide_eq_false h2
      refine ChD.step (v := (.d (.str a))) [] rfl (.pure (.move _ rfl rfl)) rfl rfl ?_
      refine ChD.step (v := (.d (.int .i64 ((k : Nat) : Int)))) [] rfl (.pure (.move _ rfl rfl)) rfl rfl ?_
      refine ChD.step (v := (.d (.int .u8 ((a.getD k 0).toNat : Int)))) [] rfl (.pure (.idxStr _ _ _ (k) rfl Try.underlying9 rfl rfl rfl (get_str (by first | omega | (simp only [List.length_map, List.length_append, List.length_take, List.length_drop, List.length_cons, List.length_nil]; omega) | (simp; omega) | (simp; done))))) rfl rfl ?_
      refine ChD.step (v := (.d (.str b))) [] rfl (.pure (.move _ rfl rfl)) rfl rfl ?_
      refine ChD.step (v := (.d (.int .i64 ((k : Nat) : Int)))) [] rfl (.pure (.move _ rfl rfl)) rfl rfl ?_
      refine ChD.step (v := (.d (.int .u8 ((b.getD k 0).toNat : Int)))) [] rfl (.pure (.idxStr _ _ _ (k) rfl Try.underlying9 rfl rfl rfl (get_str (by first | omega | (simp only [List.length_map, List.length_append, List.length_take, List.length_drop, List.length_cons, List.length_nil]; omega) | (simp; omega) | (simp; done))))) rfl rfl ?_
      refine ChD.step (v := (.d (.bool (!(decide (((a.getD k 0) : UInt8) = (b.getD k 0))))))) [] rfl (.pure (.int _ _ _ _ _ rfl rfl rfl (u8_neq ((a.getD k 0) : UInt8) (b.getD k 0) rfl rfl))) rfl rfl ?_
      refine ChD.step (v := (.d (.bool (!(decide (((a.getD k 0) : UInt8) = (b.getD k 0))))))) [] rfl (.pure (.pickT _ _ _ rfl rfl rfl)) rfl rfl ?_
      refine ChD.nil (And.intro ?_ (by kernel_rfl))
      refine T_cond (b := (!(decide (((a.getD k 0) : UInt8) = (b.getD k 0))))) rfl (fun h3 => ?_) (fun h3 => ?_)
      · replace h3 := nott h3
        replace h3 := of_decide_eq_false h3
        refine T_seq ?_
        refine T_region hc ?_
        refine Ch.step (v := (.d (.bool false))) rfl (.pure (.assign _ rfl rfl)) rfl rfl ?_
        refine Ch.nil ?_
        refine T_ret ?_
        refine And.intro (.inr rfl) ?_
        exact Exists.intro [(.d (.bool false))] (Exists.intro [] (Exists.intro [] (And.intro (.cons (.tmp 4 rfl) .nil) (And.intro (.cons (.any _) (.cons (.any _) .nil)) (And.intro (Exp.of (congrArg D.bool (by first | (rw [hasB, allB_no k (by omega) (by simp_all [hasCh])]; done) | (rw [hasB, allB_of (fun j hj => hp0.2 j (by omega))]; done))) (.d _)) (And.intro rfl rfl))))))
      · replace h3 := notf h3
        replace h3 := of_decide_eq_true h3
        refine T_skip ?_
        refine T_region hc ?_
        refine Ch.step (v := (.d (.int .i64 ((k : Nat) : Int)))) rfl (.pure (.move _ rfl rfl)) rfl rfl ?_
        refine Ch.step (v := (.d (.int .i64 (((k : Nat) : Int) + 1)))) rfl (.pure (.int _ _ _ _ _ rfl rfl rfl (intV_add (by first | omega | (simp only [List.length_map, List.length_append, List.length_take, List.length_drop, List.length_cons, List.length_nil]; omega) | (simp; omega) | (simp; done)) (by first | omega | (simp only [List.length_map, List.length_append, List.length_take, List.length_drop, List.length_cons, List.length_nil]; omega) | (simp; omega) | (simp; done))))) rfl rfl ?_
        refine Ch.step (v := (.d (.int .i64 (((k : Nat) : Int) + 1)))) rfl (.pure (.assign _ rfl rfl)) rfl rfl ?_
        refine Ch.nil ?_
        refine Exists.intro (k + 1) (And.intro ⟨by omega, upto_succ hp0.2 (by simp_all [hasCh])⟩ (And.intro (by first | omega | (dsimp only; omega)) (Wk.of rfl rfl (And.intro rfl (And.intro rfl (And.intro (vI (by first | rfl | omega | (simp; done) | (simp; omega))) trivial))) trivial)))
  · replace h1 := of_decide_eq_false h1
    refine T_exit ?_
    refine T_seq ?_
    refine T_region hc ?_
    refine Ch.step (v := (.d (.bool true))) rfl (.pure (.assign _ rfl rfl)) rfl rfl ?_
    refine Ch.nil ?_
    refine T_ret ?_
    refine And.intro (.inr rfl) ?_
    exact Exists.intro [(.d (.bool true))] (Exists.intro [] (Exists.intro [] (And.intro (.cons (.tmp 4 rfl) .nil) (And.intro (.cons (.any _) (.cons (.any _) .nil)) (And.intro (Exp.of (congrArg D.bool (by first | (rw [hasB, allB_no k (by omega) (by simp_all [hasCh])]; done) | (rw [hasB, allB_of (fun j hj => hp0.2 j (by omega))]; done))) (.d _)) (And.intro rfl rfl))))))

theorem sp_impl_contains (a b : List UInt8) (ha : a.length ≤ 1048576) (hl : a.length ≤ b.length) : Sp Try.prog 116 [(.str a), (.str b)] [.any, .any] (.bool (hasB a b)) := by
  refine Sp_intro (lend := true) Try.func116 rfl rfl rfl (fun _ => rfl) (fun c hc hX => ?_)
  refine T_seq ?_
  refine T_region hc ?_
  refine Ch.step (v := (.d (.bool false))) rfl (.pure (.assign _ rfl rfl)) rfl rfl ?_
  refine Ch.nil ?_
  refine T_seq ?_
  refine T_seq ?_
  refine T_region hc ?_
  refine Ch.step (v := (.d (.str a))) rfl (.pure (.move _ rfl rfl)) rfl rfl ?_
  refine Ch.step (v := (.d (.int .i64 ((a.length : Nat) : Int)))) rfl (.pure (.lenStr _ _ rfl Try.underlying9 rfl)) rfl rfl ?_
  refine Ch.step (v := (.d (.int .i64 0))) rfl (.pure (.move _ rfl rfl)) rfl rfl ?_
  refine Ch.nil ?_
  refine T_block ?_
  refine T_loop (ι := Nat) (fun k => { n := 25, sl := [(0, (.d (.str a))), (1, (.d (.str b))), (7, (.d (.int .i64 ((a.length : Nat) : Int)))), (8, (.d (.int .i64 ((k : Nat) : Int))))], hp := [], pin := [] }) (fun k => k ≤ a.length ∧ ∀ j, j < k → hasCh (a.getD j 0) (b.getD j 0) = true) (fun k => a.length - k) ⟨0, ⟨by omega, fun j hj => by omega⟩, (Wk.of rfl rfl (And.intro rfl (And.intro rfl (And.intro rfl (And.intro (vI (by first | rfl | omega | (simp; done) | (simp; omega))) trivial)))) trivial)⟩ (fun k hp0 => ?_)
  refine T_seq ?_
  refine T_region hc ?_
  refine Ch.step (v := (.d (.bool (decide (((k : Nat) : Int) < ((a.length : Nat) : Int)))))) rfl (.pure (.int _ _ _ _ _ rfl rfl rfl rfl)) rfl rfl ?_
  refine Ch.nil ?_
  refine T_seq ?_
  refine T_cond (b := (decide (((k : Nat) : Int) < ((a.length : Nat) : Int)))) rfl (fun h1 => ?_) (fun h1 => ?_)
  · replace h1 := of_decide_eq_true h1
    refine T_skip ?_
    refine T_seq ?_
    refine T_block ?_
    refine T_seq ?_
    refine T_region hc ?_
    refine Ch.step (v := (.d (.int .i64 ((k : Nat) : Int)))) rfl (.pure (.move _ rfl rfl)) rfl rfl ?_
    refine Ch.step (v := (.d (.int .i64 ((k : Nat) : Int)))) rfl (.pure (.assign _ rfl rfl)) rfl rfl ?_
    refine Ch.nil ?_
    refine T_seq ?_
    refine T_regionD hc (by kernel_rfl) ?_
    refine ChD.step (v := (.d (.str a))) [] rfl (.pure (.move _ rfl rfl)) rfl rfl ?_
    refine ChD.step (v := (.d (.int .i64 ((k : Nat) : Int)))) [] rfl (.pure (.move _ rfl rfl)) rfl rfl ?_
    refine ChD.step (v := (.d (.int .u8 ((a.getD k 0).toNat : Int)))) [] rfl (.pure (.idxStr _ _ _ (k) rfl Try.underlying9 rfl rfl rfl (get_str (by first | omega | (simp only [List.length_map, List.length_append, List.length_take, List.length_drop, List.length_cons, List.length_nil]; omega) | (simp; omega) | (simp; done))))) rfl rfl ?_
    refine ChD.step (v := (.d (.bool (!(decide (((a.getD k 0) : UInt8) = 45)))))) [] rfl (.pure (.int _ _ _ _ _ rfl rfl rfl (u8_neq ((a.getD k 0) : UInt8) 45 rfl rfl))) rfl rfl ?_
    refine ChD.step (v := (.d (.bool (!(decide (((a.getD k 0) : UInt8) = 45)))))) [] rfl (.pure (.move _ rfl rfl)) rfl rfl ?_
    cases h2 : (decide (((a.getD k 0) : UInt8) = 45)) with
    | true =>
      replace h2 := of_decide_eq_true h2
      refine ChD.skip rfl rfl ?_
      refine ChD.skip rfl rfl ?_
      refine ChD.skip rfl rfl ?_
      refine ChD.skip rfl rfl ?_
      refine ChD.skip rfl rfl ?_
      refine ChD.skip rfl rfl ?_
      refine ChD.skip rfl rfl ?_
      refine ChD.step (v := (.d (.bool false))) [] rfl (.pure (.pickF _ _ _ rfl rfl rfl)) rfl rfl ?_
      refine ChD.nil (And.intro ?_ (by kernel_rfl))
      refine T_cond (b := false) rfl (fun h => nomatch h) (fun _ => ?_)
      refine T_skip ?_
      refine T_region hc ?_
      refine Ch.step (v := (.d (.int .i64 (((k : Nat) : Int) + 1)))) rfl (.pure (.int _ _ _ _ _ rfl rfl rfl (intV_add (by first | omega | (simp only [List.length_map, List.length_append, List.length_take, List.length_drop, List.length_cons, List.length_nil]; omega) | (simp; omega) | (simp; done)) (by first | omega | (simp only [List.length_map, List.length_append, List.length_take, List.length_drop, List.length_cons, List.length_nil]; omega) | (simp; omega) | (simp; done))))) rfl rfl ?_
      refine Ch.step (v := (.d (.int .i64 (((k : Nat) : Int) + 1)))) rfl (.pure (.move _ rfl rfl)) rfl rfl ?_
      refine Ch.nil ?_
      refine Exists.intro (k + 1) (And.intro ⟨by omega, upto_succ hp0.2 (by simp_all [hasCh])⟩ (And.intro (by first | omega | (dsimp only; omega)) (Wk.of rfl rfl (And.intro rfl (And.intro rfl (And.intro rfl (And.intro (vI (by first | rfl | omega | (simp; done) | (simp; omega))) trivial)))) trivial)))
    | false =>
      replace h2 := of_decide_eq_false h2
      refine ChD.step (v := (.d (.str a))) [] rfl (.pure (.move _ rfl rfl)) rfl rfl ?_
      refine ChD.step (v := (.d (.int .i64 ((k : Nat) : Int)))) [] rfl (.pure (.move _ rfl rfl)) rfl rfl ?_
      refine ChD.step (v := (.d (.int .u8 ((a.getD k 0).toNat : Int)))) [] rfl (.pure (.idxStr _ _ _ (k) rfl Try.underlying9 rfl rfl rfl (get_str (by first | omega | (simp only [List.length_map, List.length_append, List.length_take, List.length_drop, List.length_cons, List.length_nil]; omega) | (simp; omega) | (simp; done))))) rfl rfl ?_
      refine ChD.step (v := (.d (.str b))) [] rfl (.pure (.move _ rfl rfl)) rfl rfl ?_
      refine ChD.step (v := (.d (.int .i64 ((k : Nat) : Int)))) [] rfl (.pure (.move _ rfl rfl)) rfl rfl ?_
      refine ChD.step (v := (.d (.int .u8 ((b.getD k 0).toNat : Int)))) [] rfl (.pure (.idxStr _ _ _ (k) rfl Try.underlying9 rfl rfl rfl (get_str (by first | omega | (simp only [List.length_map, List.length_append, List.length_take, List.length_drop, List.length_cons, List.length_nil]; omega) | (simp; omega) | (simp; done))))) rfl rfl ?_
      refine ChD.step (v := (.d (.bool (!(decide (((a.getD k 0) : UInt8) = (b.getD k 0))))))) [] rfl (.pure (.int _ _ _ _ _ rfl rfl rfl (u8_neq ((a.getD k 0) : UInt8) (b.getD k 0) rfl rfl))) rfl rfl ?_
      refine ChD.step (v := (.d (.bool (!(decide (((a.getD k 0) : UInt8) = (b.getD k 0))))))) [] rfl (.pure (.pickT _ _ _ rfl rfl rfl)) rfl rfl ?_
      refine ChD.nil (And.intro ?_ (by kernel_rfl))
      refine T_cond (b := (!(decide (((a.getD k 0) : UInt8) = (b.getD k 0))))) rfl (fun h3 => ?_) (fun h3 => ?_)
      · replace h3 := nott h3
        replace h3 := of_decide_eq_false h3
        refine T_seq ?_
        refine T_region hc ?_
        refine Ch.step (v := (.d (.bool false))) rfl (.pure (.assign _ rfl rfl)) rfl rfl ?_
        refine Ch.nil ?_
        refine T_ret ?_
        refine And.intro (.inr rfl) ?_
        exact Exists.intro [(.d (.bool false))] (Exists.intro [] (Exists.intro [] (And.intro (.cons (.tmp 4 rfl) .nil) (And.intro (.cons (.any _) (.cons (.any _) .nil)) (And.intro (Exp.of (congrArg D.bool (by first | (rw [hasB, allB_no k (by omega) (by simp_all [hasCh])]; done) | (rw [hasB, allB_of (fun j hj => hp0.2 j (by omega))]; done))) (.d _)) (And.intro rfl rfl))))))
      · replace h3 := notf h3
        replace h3 := of_decide_eq_true h3
        refine T_skip ?_
        refine T_region hc ?_
        refine Ch.step (v := (.d (.int .i64 (((k : Nat) : Int) + 1)))) rfl (.pure (.int _ _ _ _ _ rfl rfl rfl (intV_add (by first | omega | (simp only [List.length_map, List.length_append, List.length_take, List.length_drop, List.length_cons, List.length_nil]; omega) | (simp; omega) | (simp; done)) (by first | omega | (simp only [List.length_map, List.length_append, List.length_take, List.length_drop, List.length_cons, List.length_nil]; omega) | (simp; omega) | (simp; done))))) rfl rfl ?_
        refine Ch.step (v := (.d (.int .i64 (((k : Nat) : Int) + 1)))) rfl (.pure (.move _ rfl rfl)) rfl rfl ?_
        refine Ch.nil ?_
        refine Exists.intro (k + 1) (And.intro ⟨by omega, upto_succ hp0.2 (by simp_all [hasCh])⟩ (And.intro (by first | omega | (dsimp only; omega)) (Wk.of rfl rfl (And.intro rfl (And.intro rfl (And.intro rfl (And.intro (vI (by first | rfl | omega | (simp; done) | (simp; omega))) trivial)))) trivial)))
  · replace h1 := of_decide_eq_false h1
    refine T_exit ?_
    refine T_seq ?_
    refine T_region hc ?_
    refine Ch.step (v := (.d (.bool true))) rfl (.pure (.assign _ rfl rfl)) rfl rfl ?_
    refine Ch.nil ?_
    refine T_ret ?_
    refine And.intro (.inr rfl) ?_
    exact Exists.intro [(.d (.bool true))] (Exists.intro [] (Exists.intro [] (And.intro (.cons (.tmp 4 rfl) .nil) (And.intro (.cons (.any _) (.cons (.any _) .nil)) (And.intro (Exp.of (congrArg D.bool (by first | (rw [hasB, allB_no k (by omega) (by simp_all [hasCh])]; done) | (rw [hasB, allB_of (fun j hj => hp0.2 j (by omega))]; done))) (.d _)) (And.intro rfl rfl))))))

theorem sp_stringslite_IndexByte (u : List UInt8) (x : UInt8) : Sp Try.prog 182 [(.str u), (.int .u8 (x.toNat : Int))] [.any, .any] (.int .i64 (Lib.indexByte u x)) := by
  refine Sp_intro (lend := true) Try.func182 rfl rfl rfl (fun _ => rfl) (fun c hc hX => ?_)
  refine T_seq ?_
  refine T_region hc ?_
  refine Ch.step (v := (.d (.int .i64 0))) rfl (.pure (.assign _ rfl rfl)) rfl rfl ?_
  refine Ch.nil ?_
  refine T_seq ?_
  refine T_region hc ?_
  refine Ch.step (v := (.d (.str u))) rfl (.pure (.move _ rfl rfl)) rfl rfl ?_
  refine Ch.step (v := (.d (.int .u8 (x.toNat : Int)))) rfl (.pure (.move _ rfl rfl)) rfl rfl ?_
  refine Ch.step (v := (.d (.int .i64 (Lib.indexByte u x)))) rfl (.pure (.ext 186 _ _ _ (ext_indexByte Try.func186 (by kernel_rfl) rfl (by kernel_rfl) (by kernel_rfl) u x) rfl rfl rfl)) rfl rfl ?_
  refine Ch.step (v := (.d (.int .i64 (Lib.indexByte u x)))) rfl (.pure (.assign _ rfl rfl)) rfl rfl ?_
  refine Ch.nil ?_
  refine T_ret ?_
  refine And.intro (.inr rfl) ?_
  exact Exists.intro [(.d (.int .i64 (Lib.indexByte u x)))] (Exists.intro [] (Exists.intro [] (And.intro (.cons (.tmp 4 rfl) .nil) (And.intro (.cons (.any _) (.cons (.any _) .nil)) (And.intro (.d _) (And.intro rfl rfl))))))

theorem sp_stringslite_Index (u : List UInt8) : Sp Try.prog 181 [(.str u), (.str ([45]))] [.any, .any] (.int .i64 (Lib.indexByte u 45)) := by
  refine Sp_intro (lend := true) Try.func181 rfl rfl rfl (fun _ => rfl) (fun c hc hX => ?_)
  refine T_seq ?_
  refine T_region hc ?_
  refine Ch.step (v := (.d (.int .i64 0))) rfl (.pure (.assign _ rfl rfl)) rfl rfl ?_
  refine Ch.nil ?_
  refine T_seq ?_
  refine T_region hc ?_
  refine Ch.step (v := (.d (.str ([45])))) rfl (.pure (.move _ rfl rfl)) rfl rfl ?_
  refine Ch.step (v := (.d (.int .i64 1))) rfl (.pure (.lenStr (s := ([45])) _ _ rfl Try.underlying9 rfl)) rfl rfl ?_
  refine Ch.step (v := (.d (.int .i64 1))) rfl (.pure (.assign _ rfl rfl)) rfl rfl ?_
  refine Ch.nil ?_
  refine T_seq ?_
  refine T_block ?_
  refine T_seq ?_
  refine T_region hc ?_
  refine Ch.step (v := (.d (.int .i64 1))) rfl (.pure (.move _ rfl rfl)) rfl rfl ?_
  refine Ch.step (v := (.d (.bool false))) rfl (.pure (.int _ _ _ _ _ rfl rfl rfl rfl)) rfl rfl ?_
  refine Ch.step (v := (.d (.bool false))) rfl (.pure (.move _ rfl rfl)) rfl rfl ?_
  refine Ch.step (v := (.d (.str ([45])))) rfl (.pure (.move _ rfl rfl)) rfl rfl ?_
  refine Ch.step (v := (.d (.str u))) rfl (.pure (.move _ rfl rfl)) rfl rfl ?_
  refine Ch.step (v := (.d (.bool (decide (([45]) = u))))) rfl (.pure (.str _ _ _ _ _ rfl rfl rfl rfl)) rfl rfl ?_
  refine Ch.step (v := (.d (.bool (decide (([45]) = u))))) rfl (.pure (.pickF _ _ _ rfl rfl rfl)) rfl rfl ?_
  refine Ch.step (v := (.d (.bool (decide (([45]) = u))))) rfl (.pure (.assign _ rfl rfl)) rfl rfl ?_
  refine Ch.nil ?_
  refine T_cond (b := (decide (([45]) = u))) rfl (fun h1 => ?_) (fun h1 => ?_)
  · replace h1 := of_decide_eq_true h1
    refine T_seq ?_
    refine T_region hc ?_
    refine Ch.step (v := (.d (.int .i64 0))) rfl (.pure (.assign _ rfl rfl)) rfl rfl ?_
    refine Ch.nil ?_
    refine T_ret ?_
    refine And.intro (.inr rfl) ?_
    exact Exists.intro [(.d (.int .i64 0))] (Exists.intro [] (Exists.intro [] (And.intro (.cons (.tmp 4 rfl) .nil) (And.intro (.cons (.any _) (.cons (.any _) .nil)) (And.intro (Exp.of (congrArg (D.int .i64) (by first | rfl | (subst_vars; rfl) | (simp_all; done))) (.d _)) (And.intro rfl rfl))))))
  · replace h1 := of_decide_eq_false h1
    refine T_seq ?_
    refine T_region hc ?_
    refine Ch.step (v := (.d (.int .i64 1))) rfl (.pure (.move _ rfl rfl)) rfl rfl ?_
    refine Ch.step (v := (.d (.bool true))) rfl (.pure (.int _ _ _ _ _ rfl rfl rfl rfl)) rfl rfl ?_
    refine Ch.step (v := (.d (.bool true))) rfl (.pure (.assign _ rfl rfl)) rfl rfl ?_
    refine Ch.nil ?_
    refine T_cond (b := true) rfl (fun _ => ?_) (fun h => nomatch h)
    refine T_seq ?_
    refine T_region hc ?_
    refine Ch.step (v := (.d (.str u))) rfl (.pure (.move _ rfl rfl)) rfl rfl ?_
    refine Ch.step (v := (.d (.str ([45])))) rfl (.pure (.move _ rfl rfl)) rfl rfl ?_
    refine Ch.step (v := (.d (.int .u8 ((45 : UInt8).toNat : Int)))) rfl (.pure (.idxStr _ _ _ (0) rfl Try.underlying9 rfl rfl rfl rfl)) rfl rfl ?_
    refine Ch.step (v := (.d (.int .i64 (Lib.indexByte u ((45 : UInt8) : UInt8))))) rfl (.call 30000 182 _ _ _ en182 rfl (.inl rfl) (.cons (.d _) (.cons (.d _) .nil)) rfl rfl (sp_stringslite_IndexByte u ((45 : UInt8) : UInt8)) (.skip _ _ (.skip _ _ .nil)) rfl) rfl rfl ?_
    refine Ch.step (v := (.d (.int .i64 (Lib.indexByte u ((45 : UInt8) : UInt8))))) rfl (.pure (.assign _ rfl rfl)) rfl rfl ?_
    refine Ch.nil ?_
    refine T_ret ?_
    refine And.intro (.inr rfl) ?_
    exact Exists.intro [(.d (.int .i64 (Lib.indexByte u ((45 : UInt8) : UInt8))))] (Exists.intro [] (Exists.intro [] (And.intro (.cons (.tmp 4 rfl) .nil) (And.intro (.cons (.any _) (.cons (.any _) .nil)) (And.intro (Exp.of (congrArg (D.int .i64) (by first | rfl | (subst_vars; rfl) | (simp_all; done))) (.d _)) (And.intro rfl rfl))))))

theorem sp_strings_Index (u : List UInt8) : Sp Try.prog 178 [(.str u), (.str ([45]))] [.any, .any] (.int .i64 (Lib.indexByte u 45)) := by
  refine Sp_intro (lend := true) Try.func178 rfl rfl rfl (fun _ => rfl) (fun c hc hX => ?_)
  refine T_seq ?_
  refine T_region hc ?_
  refine Ch.step (v := (.d (.int .i64 0))) rfl (.pure (.assign _ rfl rfl)) rfl rfl ?_
  refine Ch.nil ?_
  refine T_seq ?_
  refine T_region hc ?_
  refine Ch.step (v := (.d (.str u))) rfl (.pure (.move _ rfl rfl)) rfl rfl ?_
  refine Ch.step (v := (.d (.str ([45])))) rfl (.pure (.move _ rfl rfl)) rfl rfl ?_
  refine Ch.step (v := (.d (.int .i64 (Lib.indexByte u 45)))) rfl (.call 7000 181 _ _ _ en181 rfl (.inl rfl) (.cons (.d _) (.cons (.d _) .nil)) rfl rfl (sp_stringslite_Index u) (.skip _ _ (.skip _ _ .nil)) rfl) rfl rfl ?_
  refine Ch.step (v := (.d (.int .i64 (Lib.indexByte u 45)))) rfl (.pure (.assign _ rfl rfl)) rfl rfl ?_
  refine Ch.nil ?_
  refine T_ret ?_
  refine And.intro (.inr rfl) ?_
  exact Exists.intro [(.d (.int .i64 (Lib.indexByte u 45)))] (Exists.intro [] (Exists.intro [] (And.intro (.cons (.tmp 4 rfl) .nil) (And.intro (.cons (.any _) (.cons (.any _) .nil)) (And.intro (.d _) (And.intro rfl rfl))))))

theorem sp_strings_Contains (u : List UInt8) : Sp Try.prog 173 [(.str u), (.str ([45]))] [.any, .any] (.bool (dashB u)) := by
  refine Sp_intro (lend := true) Try.func173 rfl rfl rfl (fun _ => rfl) (fun c hc hX => ?_)
  refine T_seq ?_
  refine T_region hc ?_
  refine Ch.step (v := (.d (.bool false))) rfl (.pure (.assign _ rfl rfl)) rfl rfl ?_
  refine Ch.nil ?_
  refine T_seq ?_
  refine T_region hc ?_
  refine Ch.step (v := (.d (.str u))) rfl (.pure (.move _ rfl rfl)) rfl rfl ?_
  refine Ch.step (v := (.d (.str ([45])))) rfl (.pure (.move _ rfl rfl)) rfl rfl ?_
  refine Ch.step (v := (.d (.int .i64 (Lib.indexByte u 45)))) rfl (.call 7000 178 _ _ _ en178 rfl (.inl rfl) (.cons (.d _) (.cons (.d _) .nil)) rfl rfl (sp_strings_Index u) (.skip _ _ (.skip _ _ .nil)) rfl) rfl rfl ?_
  refine Ch.step (v := (.d (.bool (decide (0 ≤ (Lib.indexByte u 45)))))) rfl (.pure (.int _ _ _ _ _ rfl rfl rfl rfl)) rfl rfl ?_
  refine Ch.step (v := (.d (.bool (decide (0 ≤ (Lib.indexByte u 45)))))) rfl (.pure (.assign _ rfl rfl)) rfl rfl ?_
  refine Ch.nil ?_
  refine T_ret ?_
  refine And.intro (.inr rfl) ?_
  exact Exists.intro [(.d (.bool (decide (0 ≤ (Lib.indexByte u 45)))))] (Exists.intro [] (Exists.intro [] (And.intro (.cons (.tmp 4 rfl) .nil) (And.intro (.cons (.any _) (.cons (.any _) .nil)) (And.intro (Exp.of (congrArg D.bool (by rfl)) (.d _)) (And.intro rfl rfl))))))

theorem sp_impl_isCode (u : List UInt8) (n : Int) (hs : u.length ≤ 1048576) : Sp Try.prog 160 [(.str u), (.int .i64 n)] [.any, .any] (.bool (isCodeB u n)) := by
  refine Sp_intro (lend := true) Try.func160 rfl rfl rfl (fun _ => rfl) (fun c hc hX => ?_)
  refine T_seq ?_
  refine T_region hc ?_
  refine Ch.step (v := (.d (.bool false))) rfl (.pure (.assign _ rfl rfl)) rfl rfl ?_
  refine Ch.nil ?_
  refine T_seq ?_
  refine T_region hc ?_
  refine Ch.step (v := (.d (.str u))) rfl (.pure (.move _ rfl rfl)) rfl rfl ?_
  refine Ch.step (v := (.d (.int .i64 n))) rfl (.pure (.move _ rfl rfl)) rfl rfl ?_
  refine Ch.step (v := (.d (.bool (cubeN u n)))) rfl (.call 7000 121 _ _ _ en121 rfl (.inl rfl) (.cons (.d _) (.cons (.d _) .nil)) rfl rfl (sp_impl_isCube u n (by first | omega | assumption | (exact hx _ (getD_mem (by omega))) | (exact hx _ (by assumption)) | (exact Nat.le_trans (hx _ (by assumption)) (by omega)) | (simp only [List.length_append, List.length_take, List.length_drop, List.length_cons, List.length_nil]; omega) | (simp_all; done))) (.skip _ _ (.skip _ _ .nil)) rfl) rfl rfl ?_
  refine Ch.step (v := (.d (.bool (cubeN u n)))) rfl (.pure (.move _ rfl rfl)) rfl rfl ?_
  cases h1 : (cubeN u n) with
  | true =>
    refine Ch.step (v := (.d (.str u))) rfl (.pure (.move _ rfl rfl)) rfl rfl ?_
    refine Ch.step (v := (.d (.bool (dashB u)))) rfl (.call 10000 173 _ _ _ en173 rfl (.inl rfl) (.cons (.d _) (.cons (.d _) .nil)) rfl rfl (sp_strings_Contains u) (.skip _ _ (.skip _ _ .nil)) rfl) rfl rfl ?_
    refine Ch.step (v := (.d (.bool (!(dashB u))))) rfl (.pure (.not _ _ rfl rfl)) rfl rfl ?_
    refine Ch.step (v := (.d (.bool (!(dashB u))))) rfl (.pure (.pickT _ _ _ rfl rfl rfl)) rfl rfl ?_
    refine Ch.step (v := (.d (.bool (!(dashB u))))) rfl (.pure (.assign _ rfl rfl)) rfl rfl ?_
    refine Ch.nil ?_
    refine T_ret ?_
    refine And.intro (.inr rfl) ?_
    exact Exists.intro [(.d (.bool (!(dashB u))))] (Exists.intro [] (Exists.intro [] (And.intro (.cons (.tmp 4 rfl) .nil) (And.intro (.cons (.any _) (.cons (.any _) .nil)) (And.intro (Exp.of (congrArg D.bool (by first | (simp_all; done) | simp_all [isCodeB])) (.d _)) (And.intro rfl rfl))))))
  | false =>
    refine Ch.skip rfl rfl ?_
    refine Ch.skip rfl rfl ?_
    refine Ch.skip rfl rfl ?_
    refine Ch.step (v := (.d (.bool false))) rfl (.pure (.pickF _ _ _ rfl rfl rfl)) rfl rfl ?_
    refine Ch.step (v := (.d (.bool false))) rfl (.pure (.assign _ rfl rfl)) rfl rfl ?_
    refine Ch.nil ?_
    refine T_ret ?_
    refine And.intro (.inr rfl) ?_
    exact Exists.intro [(.d (.bool false))] (Exists.intro [] (Exists.intro [] (And.intro (.cons (.tmp 4 rfl) .nil) (And.intro (.cons (.any _) (.cons (.any _) .nil)) (And.intro (Exp.of (congrArg D.bool (by first | (simp_all; done) | simp_all [isCodeB])) (.d _)) (And.intro rfl rfl))))))

def ccOk (a u : List UInt8) : Bool := cubeB a && codeN u a.length
def ccB (a u : List UInt8) : Bool := ccOk a u && hasB a u
theorem ccOk_len {a u : List UInt8} (h : ccOk a u = true) : a.length ≤ u.length := by simp [ccOk, codeN] at h; omega
theorem ccOk_eq (a u : List UInt8) : ccOk a u = (cubeN a u.length && isCodeB u u.length) := by
  rw [code_eq]
  unfold ccOk cubeB cubeN codeN
  by_cases h : (a.length : Int) = u.length
  · have h2 : (u.length : Int) = a.length := h.symm
    rw [h]; simp
    cases cubeS a <;> cases withinB (u.length : Int) 1 8 <;> simp
  · have h2 : ¬ (u.length : Int) = a.length := fun e => h e.symm
    have e1 : decide ((a.length : Int) = u.length) = false := decide_eq_false h
    have e2 : decide ((u.length : Int) = a.length) = false := decide_eq_false h2
    rw [e1, e2]; simp







def cvOk (xs : List (List UInt8)) (u : List UInt8) : Bool := goodB u.length xs && codeN u u.length
def cvB (xs : List (List UInt8)) (u : List UInt8) : Bool := cvOk xs u && inB xs u
theorem good_len {n : Int} {xs : List (List UInt8)} (h : goodB n xs = true) : ∀ a ∈ xs, (a.length : Int) = n := by
  intro a ha
  obtain ⟨j, hj, rfl⟩ := List.mem_iff_getElem.1 ha
  unfold goodB at h
  simp only [Bool.and_eq_true] at h
  have h1 := allB_true.1 h.1 j hj
  unfold okCube at h1
  simp only [Bool.and_eq_true, decide_eq_true_iff] at h1
  have h2 := h1.2
  simpa [hj] using h2
theorem good_le {n : Nat} {xs : List (List UInt8)} (h : goodB n xs = true) : ∀ a ∈ xs, a.length ≤ n := fun a ha => by have := good_len h a ha; omega
theorem cvOk_eq (xs : List (List UInt8)) (u : List UInt8) : cvOk xs u = (goodB u.length xs && isCodeB u u.length) := by
  rw [code_eq]
  unfold cvOk goodB
  cases withinB (u.length : Int) 1 8 <;> simp
theorem any_yes {τ : Type} {l : List τ} {p : τ → Bool} (d : τ) (k : Nat) (hk : k < l.length) (h : p (l.getD k d) = true) : true = l.any p := (List.any_eq_true.2 ⟨_, getD_mem hk, h⟩).symm
theorem any_no {τ : Type} {l : List τ} {p : τ → Bool} (d : τ) (h : ∀ j, j < l.length → p (l.getD j d) = false) : false = l.any p := by
  symm
  rw [List.any_eq_false]
  intro x hx
  obtain ⟨j, hj, rfl⟩ := List.mem_iff_getElem.1 hx
  have := h j hj
  simp [hj] at this
  simp [this]

theorem sp_spec_l13In (xs : List (List UInt8)) (u : List UInt8) (hn : xs.length ≤ 1048576) (hx : ∀ a ∈ xs, a.length ≤ u.length) (hu : u.length ≤ 1048576) : Sp Try.prog 119 [(.slice false 1 (xs.map D.str)), (.str u)] [.any, .any] (.bool (inB xs u)) := by
  refine Sp_intro (lend := true) Try.func119 rfl rfl rfl (fun _ => rfl) (fun c hc hX => ?_)
  refine T_seq ?_
  refine T_region hc ?_
  refine Ch.step (v := (.d (.bool false))) rfl (.pure (.assign _ rfl rfl)) rfl rfl ?_
  refine Ch.nil ?_
  refine T_seq ?_
  refine T_seq ?_
  refine T_region hc ?_
  refine Ch.step (v := (.d (.slice false 1 (xs.map D.str)))) rfl (.pure (.move _ rfl rfl)) rfl rfl ?_
  refine Ch.step (v := (.d (.int .i64 ((xs.length : Nat) : Int)))) rfl (.pure (.len _ _ 9 rfl Try.underlying22 (.sh _ _) (by simp))) rfl rfl ?_
  refine Ch.step (v := (.d (.int .i64 0))) rfl (.pure (.move _ rfl rfl)) rfl rfl ?_
  refine Ch.nil ?_
  refine T_block ?_
  refine T_loop (ι := Nat) (fun k => { n := 17, sl := [(1, (.d (.str u))), (7, (.d (.slice false 1 (xs.map D.str)))), (8, (.d (.int .i64 ((xs.length : Nat) : Int)))), (9, (.d (.int .i64 ((k : Nat) : Int))))], hp := [], pin := [] }) (fun k => k ≤ xs.length ∧ ∀ j, j < k → hasB (xs.getD j default) u = false) (fun k => xs.length - k) ⟨0, ⟨by omega, fun j hj => by omega⟩, (Wk.of rfl rfl (And.intro rfl (And.intro rfl (And.intro rfl (And.intro (vI (by first | rfl | omega | (simp; done) | (simp; omega))) trivial)))) trivial)⟩ (fun k hp0 => ?_)
  refine T_seq ?_
  refine T_region hc ?_
  refine Ch.step (v := (.d (.bool (decide (((k : Nat) : Int) < ((xs.length : Nat) : Int)))))) rfl (.pure (.int _ _ _ _ _ rfl rfl rfl rfl)) rfl rfl ?_
  refine Ch.nil ?_
  refine T_seq ?_
  refine T_cond (b := (decide (((k : Nat) : Int) < ((xs.length : Nat) : Int)))) rfl (fun h1 => ?_) (fun h1 => ?_)
  · replace h1 := of_decide_eq_true h1
    try have hk := hx _ (getD_mem (l := xs) (j := k) (d := default) (by omega))
    refine T_skip ?_
    refine T_seq ?_
    refine T_block ?_
    refine T_seq ?_
    refine T_region hc ?_
    refine Ch.step (v := (.d (.ref (.str (xs.getD k default))))) rfl (.pure (.idx _ _ _ 9 (k) rfl Try.underlying22 sz9 rfl rfl rfl (get_map _ (by first | omega | (simp only [List.length_map, List.length_append, List.length_take, List.length_drop, List.length_cons, List.length_nil]; omega) | (simp; omega) | (simp; done))))) rfl rfl ?_
    refine Ch.step (v := (.d (.str (xs.getD k default)))) rfl (.pure (.loadRef1 _ _ rfl ag9 rfl rfl)) rfl rfl ?_
    refine Ch.step (v := (.d (.str (xs.getD k default)))) rfl (.pure (.assign _ rfl rfl)) rfl rfl ?_
    refine Ch.nil ?_
    refine T_seq ?_
    refine T_region hc ?_
    refine Ch.step (v := (.d (.str (xs.getD k default)))) rfl (.pure (.move _ rfl rfl)) rfl rfl ?_
    refine Ch.step (v := (.d (.str u))) rfl (.pure (.move _ rfl rfl)) rfl rfl ?_
    refine Ch.step (v := (.d (.bool (hasB (xs.getD k default) u)))) rfl (.call 15000 158 _ _ _ en158 rfl (.inl rfl) (.cons (.d _) (.cons (.d _) .nil)) rfl rfl (sp_spec_l13Has (xs.getD k default) u (by first | omega | assumption | (exact hx _ (getD_mem (by omega))) | (exact hx _ (by assumption)) | (exact Nat.le_trans (hx _ (by assumption)) (by omega)) | (simp only [List.length_append, List.length_take, List.length_drop, List.length_cons, List.length_nil]; omega) | (simp_all; done)) (by first | omega | assumption | (exact hx _ (getD_mem (by omega))) | (exact hx _ (by assumption)) | (exact Nat.le_trans (hx _ (by assumption)) (by omega)) | (simp only [List.length_append, List.length_take, List.length_drop, List.length_cons, List.length_nil]; omega) | (simp_all; done))) (.skip _ _ (.skip _ _ .nil)) rfl) rfl rfl ?_
    refine Ch.nil ?_
    refine T_cond (b := (hasB (xs.getD k default) u)) rfl (fun h2 => ?_) (fun h2 => ?_)
    · refine T_seq ?_
      refine T_region hc ?_
      refine Ch.step (v := (.d (.bool true))) rfl (.pure (.assign _ rfl rfl)) rfl rfl ?_
      refine Ch.nil ?_
      refine T_ret ?_
      refine And.intro (.inr rfl) ?_
      exact Exists.intro [(.d (.bool true))] (Exists.intro [] (Exists.intro [] (And.intro (.cons (.tmp 4 rfl) .nil) (And.intro (.cons (.any _) (.cons (.any _) .nil)) (And.intro (Exp.of (congrArg D.bool (by exact any_yes default k (by omega) (by assumption))) (.d _)) (And.intro rfl rfl))))))
    · refine T_skip ?_
      refine T_region hc ?_
      refine Ch.step (v := (.d (.int .i64 (((k : Nat) : Int) + 1)))) rfl (.pure (.int _ _ _ _ _ rfl rfl rfl (intV_add (by first | omega | (simp only [List.length_map, List.length_append, List.length_take, List.length_drop, List.length_cons, List.length_nil]; omega) | (simp; omega) | (simp; done)) (by first | omega | (simp only [List.length_map, List.length_append, List.length_take, List.length_drop, List.length_cons, List.length_nil]; omega) | (simp; omega) | (simp; done))))) rfl rfl ?_
      refine Ch.step (v := (.d (.int .i64 (((k : Nat) : Int) + 1)))) rfl (.pure (.move _ rfl rfl)) rfl rfl ?_
      refine Ch.nil ?_
      refine Exists.intro (k + 1) (And.intro ⟨by omega, upto_succ hp0.2 (by assumption)⟩ (And.intro (by first | omega | (dsimp only; omega)) (Wk.of rfl rfl (And.intro rfl (And.intro rfl (And.intro rfl (And.intro (vI (by first | rfl | omega | (simp; done) | (simp; omega))) trivial)))) trivial)))
  · replace h1 := of_decide_eq_false h1
    try have hk := hx _ (getD_mem (l := xs) (j := k) (d := default) (by omega))
    refine T_exit ?_
    refine T_seq ?_
    refine T_region hc ?_
    refine Ch.step (v := (.d (.bool false))) rfl (.pure (.assign _ rfl rfl)) rfl rfl ?_
    refine Ch.nil ?_
    refine T_ret ?_
    refine And.intro (.inr rfl) ?_
    exact Exists.intro [(.d (.bool false))] (Exists.intro [] (Exists.intro [] (And.intro (.cons (.tmp 4 rfl) .nil) (And.intro (.cons (.any _) (.cons (.any _) .nil)) (And.intro (Exp.of (congrArg D.bool (by exact any_no default (fun j hj => hp0.2 j (by omega)))) (.d _)) (And.intro rfl rfl))))))

theorem sp_impl_covers_1 (a u : List UInt8) (ha : a.length ≤ 1048576) (hl : a.length ≤ u.length) : Sp Try.prog 131 [(.str a), (.ref (.str u))] [.any, .any] (.bool (hasB a u)) := by
  refine Sp_intro (lend := true) Try.func131 rfl rfl rfl (fun _ => rfl) (fun c hc hX => ?_)
  refine T_seq ?_
  refine T_region hc ?_
  refine Ch.step (v := (.d (.bool false))) rfl (.pure (.assign _ rfl rfl)) rfl rfl ?_
  refine Ch.nil ?_
  refine T_seq ?_
  refine T_region hc ?_
  refine Ch.step (v := (.d (.str a))) rfl (.pure (.move _ rfl rfl)) rfl rfl ?_
  refine Ch.step (v := (.d (.str u))) rfl (.pure (.loadRef1 _ _ rfl ag9 rfl rfl)) rfl rfl ?_
  refine Ch.step (v := (.d (.bool (hasB a u)))) rfl (.call 6000 116 _ _ _ en116 rfl (.inl rfl) (.cons (.d _) (.cons (.d _) .nil)) rfl rfl (sp_impl_contains a u (by first | omega | assumption | (exact hx _ (getD_mem (by omega))) | (exact hx _ (by assumption)) | (exact Nat.le_trans (hx _ (by assumption)) (by omega)) | (simp only [List.length_append, List.length_take, List.length_drop, List.length_cons, List.length_nil]; omega) | (simp_all; done)) (by first | omega | assumption | (exact hx _ (getD_mem (by omega))) | (exact hx _ (by assumption)) | (exact Nat.le_trans (hx _ (by assumption)) (by omega)) | (simp only [List.length_append, List.length_take, List.length_drop, List.length_cons, List.length_nil]; omega) | (simp_all; done))) (.skip _ _ (.skip _ _ .nil)) rfl) rfl rfl ?_
  refine Ch.step (v := (.d (.bool (hasB a u)))) rfl (.pure (.assign _ rfl rfl)) rfl rfl ?_
  refine Ch.nil ?_
  refine T_ret ?_
  refine And.intro (.inr rfl) ?_
  exact Exists.intro [(.d (.bool (hasB a u)))] (Exists.intro [] (Exists.intro [] (And.intro (.cons (.tmp 3 rfl) .nil) (And.intro (.cons (.any _) (.cons (.any _) .nil)) (And.intro (.d _) (And.intro rfl rfl))))))

theorem sp_impl_covers (xs : List (List UInt8)) (u : List UInt8) (hn : xs.length ≤ 1048576) (hx : ∀ a ∈ xs, a.length ≤ u.length) (hu : u.length ≤ 1048576) : Sp Try.prog 73 [(.slice false 1 (xs.map D.str)), (.str u)] [.any, .any] (.bool (inB xs u)) := by
  refine Sp_intro (lend := true) Try.func73 rfl rfl rfl (fun _ => rfl) (fun c hc hX => ?_)
  refine T_seq ?_
  refine T_region hc ?_
  refine Ch.step (v := (.ptr 3000 0)) rfl (.box 3000 _ _ rfl (.one _ rfl)) rfl rfl ?_
  refine Ch.step (v := (.d (.bool false))) rfl (.pure (.assign _ rfl rfl)) rfl rfl ?_
  refine Ch.nil ?_
  refine T_seq ?_
  refine T_region hc ?_
  refine Ch.step (v := (.d (.slice false 1 (xs.map D.str)))) rfl (.pure (.move _ rfl rfl)) rfl rfl ?_
  refine Ch.step (v := (.fn 131 [(.ptr 3000 0)])) rfl (.pure (.func _ _ rfl rfl)) rfl rfl ?_
  refine Ch.step (v := (.d (.bool (xs.any (fun a => hasB a u))))) rfl (.call 7000 71 _ _ _ en71 rfl (.inl rfl) (.cons (.d _) (.cons (.lend (.fn (.cons (.ptr rfl (.one (.d _) rfl)) .nil))) .nil)) rfl rfl (sp_ContainsFunc_str xs 131 [(.ref (.str u))] (fun a => hasB a u) en131 (fun a ha => sp_impl_covers_1 a u (by first | omega | assumption | (exact hx _ (getD_mem (by omega))) | (exact hx _ (by assumption)) | (exact Nat.le_trans (hx _ (by assumption)) (by omega)) | (simp only [List.length_append, List.length_take, List.length_drop, List.length_cons, List.length_nil]; omega) | (simp_all; done)) (by first | omega | assumption | (exact hx _ (getD_mem (by omega))) | (exact hx _ (by assumption)) | (exact Nat.le_trans (hx _ (by assumption)) (by omega)) | (simp only [List.length_append, List.length_take, List.length_drop, List.length_cons, List.length_nil]; omega) | (simp_all; done))) (by first | omega | assumption | (exact hx _ (getD_mem (by omega))) | (exact hx _ (by assumption)) | (exact Nat.le_trans (hx _ (by assumption)) (by omega)) | (simp only [List.length_append, List.length_take, List.length_drop, List.length_cons, List.length_nil]; omega) | (simp_all; done))) (.skip _ _ (.skip _ _ .nil)) rfl) rfl rfl ?_
  refine Ch.step (v := (.d (.bool (xs.any (fun a => hasB a u))))) rfl (.pure (.assign _ rfl rfl)) rfl rfl ?_
  refine Ch.nil ?_
  refine T_ret ?_
  refine And.intro (.inr rfl) ?_
  exact Exists.intro [(.d (.bool (xs.any (fun a => hasB a u))))] (Exists.intro [] (Exists.intro [] (And.intro (.cons (.tmp 4 rfl) .nil) (And.intro (.cons (.any _) (.cons (.any _) .nil)) (And.intro (Exp.of (congrArg D.bool (by rfl)) (.d _)) (And.intro rfl rfl))))))







end Go.AM
