/-
  Contracts: slices.Clone, slices.Delete, strings.Join; Irredundant.
-/
import Derived.Test.YtfnomecncgejbaaCq
import Derived.Test.YtfnomecncgejbaaAmW
import Derived.Test.YtfnomecncgejbaaSh
namespace Go.AM
open Go.Proofs
set_option linter.unusedVariables false
set_option linter.unusedSimpArgs false

theorem en140 : Enters Try.prog 140 := ⟨_, Try.func140, by kernel_rfl, rfl⟩
theorem en102 : Enters Try.prog 102 := ⟨_, Try.func102, by kernel_rfl, rfl⟩
theorem en100 : Enters Try.prog 100 := ⟨_, Try.func100, by kernel_rfl, rfl⟩
theorem en101 : Enters Try.prog 101 := ⟨_, Try.func101, by kernel_rfl, rfl⟩
theorem en45 : Enters Try.prog 45 := ⟨_, Try.func45, by kernel_rfl, rfl⟩
theorem en46 : Enters Try.prog 46 := ⟨_, Try.func46, by kernel_rfl, rfl⟩

theorem sp_Clone_str (xs : List (List UInt8)) (hn : xs.length ≤ 1048576) : Sp Try.prog 101 [(.slice false 1 (xs.map D.str))] [.any] (.slice true 1 (xs.map D.str)) := by
  refine Sp_intro (lend := true) Try.func101 rfl rfl rfl (fun _ => rfl) (fun c hc hX => ?_)
  refine T_seq ?_
  refine T_region hc ?_
  refine Ch.step (v := (.c (.slice none 0 0))) rfl (.pure (.assign _ rfl rfl)) rfl rfl ?_
  refine Ch.nil ?_
  refine T_seq ?_
  refine T_seq ?_
  refine T_region hc ?_
  refine Ch.step (v := (.d (.slice false 1 (xs.map D.str)))) rfl (.pure (.move _ rfl rfl)) rfl rfl ?_
  refine Ch.nilq (sz := 1) (xs := (xs.map D.str)) _ _ _ _ 9 rfl rfl Try.underlying22 (.sh _ _) rfl rfl (fun q1 hzq1 => ?_)
  refine Ch.nil ?_
  refine T_cond (b := (q1)) rfl (fun h1 => ?_) (fun h1 => ?_)
  · try have hz := hzq1 h1
    refine T_seq ?_
    refine T_region hc ?_
    refine Ch.step (v := (.c (.slice none 0 0))) rfl (.pure (.assign _ rfl rfl)) rfl rfl ?_
    refine Ch.nil ?_
    refine T_ret ?_
    refine And.intro (.inr rfl) ?_
    exact Exists.intro [(.c (.slice none 0 0))] (Exists.intro [] (Exists.intro [] (And.intro (.cons (.tmp 2 rfl) .nil) (And.intro (.cons (.any _) .nil) (And.intro (Exp.of (congrArg (D.slice true 1) (by first | rfl | (rw [hz]; done))) (.nil true 1)) (And.intro rfl rfl))))))
  · try have hz := hzq1 h1
    refine T_skip ?_
    refine T_seq ?_
    refine T_region hc ?_
    refine Ch.step (v := (.row 5000)) rfl (.slice 5000 _ 9 _ rfl sty22 (xs := []) rfl rfl .nil rfl rfl (by decide)) rfl rfl ?_
    refine Ch.step (v := (.d (.slice false 1 (xs.map D.str)))) rfl (.pure (.move _ rfl rfl)) rfl rfl ?_
    refine Ch.step (v := (.row 7000)) rfl (.append 7000 _ _ _ 9 rfl sty22 (by decide) (.rowK rfl) (.inr ⟨_, rfl, rfl⟩) (.sh _ _) rfl (by first | omega | (simp; omega) | (simp; done))) rfl rfl ?_
    refine Ch.step (v := (.row 7000)) rfl (.pure (.assign _ rfl rfl)) rfl rfl ?_
    refine Ch.nil ?_
    refine T_ret ?_
    refine And.intro (.inr rfl) ?_
    exact Exists.intro [(.row 7000)] (Exists.intro [] (Exists.intro [7000] (And.intro (.cons (.tmp 2 rfl) .nil) (And.intro (.cons (.any _) .nil) (And.intro (.row rfl) (And.intro rfl rfl))))))

theorem sp_spec_l1OwnS (xs : List (List UInt8)) (hn : xs.length ≤ 1048576) : Sp Try.prog 100 [(.slice false 1 (xs.map D.str))] [.any] (.slice true 1 (xs.map D.str)) := by
  refine Sp_intro (lend := true) Try.func100 rfl rfl rfl (fun _ => rfl) (fun c hc hX => ?_)
  refine T_seq ?_
  refine T_region hc ?_
  refine Ch.step (v := (.c (.slice none 0 0))) rfl (.pure (.assign _ rfl rfl)) rfl rfl ?_
  refine Ch.nil ?_
  refine T_seq ?_
  refine T_region hc ?_
  refine Ch.step (v := (.row 3000)) rfl (.slice 3000 _ 9 _ rfl sty22 (xs := []) rfl rfl .nil rfl rfl (by decide)) rfl rfl ?_
  refine Ch.step (v := (.d (.slice false 1 (xs.map D.str)))) rfl (.pure (.move _ rfl rfl)) rfl rfl ?_
  refine Ch.step (v := (.row 5000)) rfl (.append 5000 _ _ _ 9 rfl sty22 (by decide) (.rowK rfl) (.inr ⟨_, rfl, rfl⟩) (.sh _ _) rfl (by first | omega | (simp; omega) | (simp; done))) rfl rfl ?_
  refine Ch.step (v := (.row 5000)) rfl (.pure (.assign _ rfl rfl)) rfl rfl ?_
  refine Ch.nil ?_
  refine T_ret ?_
  refine And.intro (.inr rfl) ?_
  exact Exists.intro [(.row 5000)] (Exists.intro [] (Exists.intro [5000] (And.intro (.cons (.tmp 2 rfl) .nil) (And.intro (.cons (.any _) .nil) (And.intro (.row rfl) (And.intro rfl rfl))))))

theorem sp_Join (xs : List (List UInt8)) (sep : List UInt8) (hn : xs.length ≤ 1048576) (hl : (Lib.join xs sep).length ≤ 140737488355328) : Sp Try.prog 140 [.slice false 1 (xs.map D.str), .str sep] [.any, .any] (.str (Lib.join xs sep)) :=
  sp_join Go.Proofs.Try.strings_Join_none Go.Proofs.Try.strings_Join xs sep (by omega) hl

def del1 {τ : Type} (xs : List τ) (k : Nat) : List τ := xs.take k ++ xs.drop (k + 1)
theorem del1_length {τ : Type} {xs : List τ} {k : Nat} (h : k < xs.length) : (del1 xs k).length = xs.length - 1 := by simp [del1]; omega
theorem del1_mem {τ : Type} {xs : List τ} {k : Nat} : ∀ x ∈ del1 xs k, x ∈ xs := by
  intro x hx
  rcases List.mem_append.1 hx with h | h
  · exact List.mem_of_mem_take h
  · exact List.mem_of_mem_drop h
theorem sp_Delete_str (xs : List (List UInt8)) (k : Nat) (hk : k < xs.length) : Sp Try.prog 102 [.slice true 1 (xs.map D.str), .int .i64 (k : Int), .int .i64 ((k : Int) + 1)] [.any, .any, .any] (.slice true 1 ((del1 xs k).map D.str)) := by
  have hfull : ((xs.take k ++ xs.drop (k + 1) ++ List.replicate 1 []).take (xs.length - 1)) = del1 xs k := by
    have := del1_length hk
    rw [List.take_append_of_le_length (by unfold del1 at this; omega), List.take_of_length_le (by unfold del1 at this; omega)]; rfl
  have h := sp_cutRow (P := Try.prog) (fn := 102) encStrD (more := [.int .i64 (k : Int), .int .i64 ((k : Int) + 1)]) (mvs := [.int .i64 (k : Int), .int .i64 ((k : Int) + 1)])
    (fun S w vs F hd => by
      rw [DRs] at hd
      obtain ⟨v1, vs1, F1, F2, rfl, rfl, d1, d2⟩ := hd
      rw [DRs] at d2
      obtain ⟨v2, vs2, F3, F4, rfl, rfl, d3, d4⟩ := d2
      rw [DRs] at d4
      obtain ⟨rfl, rfl⟩ := d4
      rw [DR] at d1
      rw [DR] at d3
      obtain ⟨rfl, rfl⟩ := d1
      obtain ⟨rfl, rfl⟩ := d3
      exact ⟨rfl, rfl⟩)
    (fun S w => by
      rw [List.map_cons, DRs]
      refine ⟨_, _, [], [], rfl, rfl, by rw [DR], ?_⟩
      rw [List.map_cons, DRs]
      exact ⟨_, _, [], [], rfl, rfl, by rw [DR], by rw [List.map_nil, DRs]; exact ⟨rfl, rfl⟩⟩)
    xs (xs.take k ++ xs.drop (k + 1) ++ List.replicate 1 []) (xs.length - 1) (by simp; omega) (by simp; omega) (fun h => by subst h; simp at hk)
    (fun blk cap w hH hc hm => by
      have := Go.Proofs.Try.slices_Delete_string blk 0 cap k (k + 1) xs w hH hc hm (by omega) (by omega)
      rw [show k + 1 - k = 1 by omega] at this
      exact this)
  rw [hfull] at h
  exact h

def irr (on : List (List UInt8)) : Nat → List (List UInt8) → Nat → List (List UInt8)
  | 0, out, _ => out
  | f + 1, out, k => if allOf on (inB (del1 out k)) then irr on f (del1 out k) k else irr on f out (k + 1)
def irrL (on l : List (List UInt8)) : List (List UInt8) := irr on l.length l 0
theorem irr_yes {on out : List (List UInt8)} {k : Nat} (hk : k < out.length) (h : allOf on (inB (del1 out k)) = true) : irr on (out.length - k) out k = irr on ((del1 out k).length - k) (del1 out k) k := by
  rw [del1_length hk, show out.length - k = (out.length - 1 - k) + 1 by omega, irr, if_pos h]
theorem irr_no {on out : List (List UInt8)} {k : Nat} (hk : k < out.length) (h : allOf on (inB (del1 out k)) = false) : irr on (out.length - k) out k = irr on (out.length - (k + 1)) out (k + 1) := by
  rw [show out.length - k = (out.length - (k + 1)) + 1 by omega, irr, if_neg (by rw [h]; decide)]
theorem irr_done {on out : List (List UInt8)} {k : Nat} (h : out.length ≤ k) : irr on (out.length - k) out k = out := by
  rw [show out.length - k = 0 by omega]; rfl
theorem checkB_nil (on l : List (List UInt8)) : checkB on [] l = allOf on (inB l) := by
  rw [checkB, show allOf ([] : List (List UInt8)) (fun u => !inB l u) = true from rfl, Bool.and_true]
theorem irr_le (on : List (List UInt8)) : ∀ (f : Nat) (out : List (List UInt8)) (k : Nat), (irr on f out k).length ≤ out.length
  | 0, out, _ => Nat.le_refl _
  | f + 1, out, k => by
    rw [irr]; split
    · refine Nat.le_trans (irr_le on f _ k) ?_
      simp [del1]; omega
    · exact irr_le on f out (k + 1)
structure IrrInv (on l : List (List UInt8)) (q : List (List UInt8) × Nat) : Prop where
  eq : irr on (q.1.length - q.2) q.1 q.2 = irrL on l
  sub : ∀ a ∈ q.1, a ∈ l
  le : q.1.length ≤ l.length
theorem IrrInv.yes {on l q} (h : IrrInv on l q) (hk : q.2 < q.1.length) (hc : allOf on (inB (del1 q.1 q.2)) = true) : IrrInv on l (del1 q.1 q.2, q.2) :=
  ⟨by rw [← h.eq, irr_yes hk hc], fun a ha => h.sub a (del1_mem a ha), by have := h.le; have := del1_length hk; dsimp only; omega⟩
theorem IrrInv.no {on l q} (h : IrrInv on l q) (hk : q.2 < q.1.length) (hc : allOf on (inB (del1 q.1 q.2)) = false) : IrrInv on l (q.1, q.2 + 1) :=
  ⟨by rw [← h.eq, irr_no hk hc], h.sub, h.le⟩
def irrOk (n : Int) (on l : List (List UInt8)) : Bool := onoffB n on [] && (goodB n l && allOf on (inB l))
def irrR (n : Int) (on l : List (List UInt8)) : List (List UInt8) := if irrOk n on l then irrL on l else []
theorem irrR_le (n : Int) (on l : List (List UInt8)) : (irrR n on l).length ≤ l.length := by
  unfold irrR; split
  · exact irr_le on _ l 0
  · simp

theorem sp_spec_Irredundant (n : Int) (on l : List (List UInt8)) (hn1 : on.length ≤ 1048576) (hx1 : ∀ x ∈ on, x.length ≤ 1048576) (hn : l.length ≤ 1048576) (hx : ∀ x ∈ l, x.length ≤ 1048576) : Sp Try.prog 45 [(.int .i64 n), (.slice false 1 (on.map D.str)), (.slice false 1 (l.map D.str))] [.any, .any, .any] (.tup [(.slice true 1 ((irrR n on l).map D.str)), (.bool (irrOk n on l))]) := by
  refine Sp_intro (lend := true) Try.func45 rfl rfl rfl (fun _ => rfl) (fun c hc hX => ?_)
  refine T_seq ?_
  refine T_region hc ?_
  refine Ch.step (v := (.c (.slice none 0 0))) rfl (.pure (.assign _ rfl rfl)) rfl rfl ?_
  refine Ch.step (v := (.d (.bool false))) rfl (.pure (.assign _ rfl rfl)) rfl rfl ?_
  refine Ch.nil ?_
  refine T_seq ?_
  refine T_seq ?_
  refine T_region hc ?_
  refine Ch.step (v := (.d (.int .i64 n))) rfl (.pure (.move _ rfl rfl)) rfl rfl ?_
  refine Ch.step (v := (.d (.slice false 1 (on.map D.str)))) rfl (.pure (.move _ rfl rfl)) rfl rfl ?_
  refine Ch.step (v := (.d (.bool (onoffB n on ([]))))) rfl (.call 13000 67 _ _ _ en67 rfl (.inl rfl) (.cons (.d _) (.cons (.d _) (.cons (.lend (.nil false 1)) .nil))) rfl rfl (sp_spec_l14Sets n on ([]) (by first | omega | assumption | (exact hx _ (getD_mem (by omega))) | (exact hx _ (by assumption)) | (exact Nat.le_trans (hx _ (by assumption)) (by omega)) | (simp only [List.length_append, List.length_take, List.length_drop, List.length_cons, List.length_nil]; omega) | (simp_all; done)) (by first | omega | assumption | (exact hx _ (getD_mem (by omega))) | (exact hx _ (by assumption)) | (exact Nat.le_trans (hx _ (by assumption)) (by omega)) | (simp only [List.length_append, List.length_take, List.length_drop, List.length_cons, List.length_nil]; omega) | (simp_all; done)) (by first | omega | assumption | (exact hx _ (getD_mem (by omega))) | (exact hx _ (by assumption)) | (exact Nat.le_trans (hx _ (by assumption)) (by omega)) | (simp only [List.length_append, List.length_take, List.length_drop, List.length_cons, List.length_nil]; omega) | (simp_all; done)) (by first | omega | assumption | (exact hx _ (getD_mem (by omega))) | (exact hx _ (by assumption)) | (exact Nat.le_trans (hx _ (by assumption)) (by omega)) | (simp only [List.length_append, List.length_take, List.length_drop, List.length_cons, List.length_nil]; omega) | (simp_all; done))) (.skip _ _ (.skip _ _ (.skip _ _ .nil))) rfl) rfl rfl ?_
  refine Ch.step (v := (.d (.bool (!(onoffB n on ([])))))) rfl (.pure (.not _ _ rfl rfl)) rfl rfl ?_
  refine Ch.step (v := (.d (.bool (!(onoffB n on ([])))))) rfl (.pure (.move _ rfl rfl)) rfl rfl ?_
  cases h1 : (onoffB n on ([])) with
  | true =>
    try have hop := onoff_parts h1
    refine Ch.step (v := (.d (.int .i64 n))) rfl (.pure (.move _ rfl rfl)) rfl rfl ?_
    refine Ch.step (v := (.d (.slice false 1 (l.map D.str)))) rfl (.pure (.move _ rfl rfl)) rfl rfl ?_
    refine Ch.step (v := (.d (.bool (goodB n l)))) rfl (.call 18000 59 _ _ _ en59 rfl (.inl rfl) (.cons (.d _) (.cons (.d _) .nil)) rfl rfl (sp_spec_l13Good n l (by first | omega | assumption | (exact hx _ (getD_mem (by omega))) | (exact hx _ (by assumption)) | (exact Nat.le_trans (hx _ (by assumption)) (by omega)) | (simp only [List.length_append, List.length_take, List.length_drop, List.length_cons, List.length_nil]; omega) | (simp_all; done)) (by first | omega | assumption | (exact hx _ (getD_mem (by omega))) | (exact hx _ (by assumption)) | (exact Nat.le_trans (hx _ (by assumption)) (by omega)) | (simp only [List.length_append, List.length_take, List.length_drop, List.length_cons, List.length_nil]; omega) | (simp_all; done))) (.skip _ _ (.skip _ _ .nil)) rfl) rfl rfl ?_
    refine Ch.step (v := (.d (.bool (!(goodB n l))))) rfl (.pure (.not _ _ rfl rfl)) rfl rfl ?_
    refine Ch.step (v := (.d (.bool (!(goodB n l))))) rfl (.pure (.pickF _ _ _ rfl rfl rfl)) rfl rfl ?_
    refine Ch.step (v := (.d (.bool (!(goodB n l))))) rfl (.pure (.move _ rfl rfl)) rfl rfl ?_
    cases h2 : (goodB n l) with
    | true =>
      try have hg := good_len h2
      try have hl := fits_of hop.1.2 hop.2.2.2.1 hg
      try have hl0 : ∀ u ∈ ([] : List (List UInt8)), u.length ≤ 1048576 ∧ ∀ a ∈ l, a.length ≤ u.length := fun u hu => by cases hu
      refine Ch.step (v := (.d (.slice false 1 (on.map D.str)))) rfl (.pure (.move _ rfl rfl)) rfl rfl ?_
      refine Ch.step (v := (.d (.slice false 1 (l.map D.str)))) rfl (.pure (.move _ rfl rfl)) rfl rfl ?_
      refine Ch.step (v := (.d (.bool (checkB on ([]) l)))) rfl (.call 24000 68 _ _ _ en68 rfl (.inl rfl) (.cons (.d _) (.cons (.lend (.nil false 1)) (.cons (.d _) .nil))) rfl rfl (sp_spec_l14Check on ([]) l (by first | omega | assumption | (exact hx _ (getD_mem (by omega))) | (exact hx _ (by assumption)) | (exact Nat.le_trans (hx _ (by assumption)) (by omega)) | (simp only [List.length_append, List.length_take, List.length_drop, List.length_cons, List.length_nil]; omega) | (simp_all; done)) (by first | omega | assumption | (exact hx _ (getD_mem (by omega))) | (exact hx _ (by assumption)) | (exact Nat.le_trans (hx _ (by assumption)) (by omega)) | (simp only [List.length_append, List.length_take, List.length_drop, List.length_cons, List.length_nil]; omega) | (simp_all; done)) (by first | omega | assumption | (exact hx _ (getD_mem (by omega))) | (exact hx _ (by assumption)) | (exact Nat.le_trans (hx _ (by assumption)) (by omega)) | (simp only [List.length_append, List.length_take, List.length_drop, List.length_cons, List.length_nil]; omega) | (simp_all; done)) (by assumption) (by assumption)) (.skip _ _ (.skip _ _ (.skip _ _ .nil))) rfl) rfl rfl ?_
      refine Ch.step (v := (.d (.bool (!(checkB on ([]) l))))) rfl (.pure (.not _ _ rfl rfl)) rfl rfl ?_
      refine Ch.step (v := (.d (.bool (!(checkB on ([]) l))))) rfl (.pure (.pickF _ _ _ rfl rfl rfl)) rfl rfl ?_
      refine Ch.nil ?_
      refine T_cond (b := (!(checkB on ([]) l))) rfl (fun h3 => ?_) (fun h3 => ?_)
      · replace h3 := nott h3
        try rw [checkB_nil] at h3
        refine T_seq ?_
        refine T_region hc ?_
        refine Ch.step (v := (.c (.slice none 0 0))) rfl (.pure (.assign _ rfl rfl)) rfl rfl ?_
        refine Ch.step (v := (.d (.bool false))) rfl (.pure (.assign _ rfl rfl)) rfl rfl ?_
        refine Ch.nil ?_
        refine T_ret ?_
        refine And.intro (.inr rfl) ?_
        exact Exists.intro [(.c (.slice none 0 0)), (.d (.bool false))] (Exists.intro [] (Exists.intro [] (And.intro (.cons (.tmp 6 rfl) (.cons (.tmp 7 rfl) .nil)) (And.intro (.cons (.any _) (.cons (.any _) (.cons (.any _) .nil))) (And.intro (.tup (.cons (Exp.of (congrArg (D.slice true 1) (by first | (rw [irrR, irrOk, h1]; rfl) | (rw [irrR, irrOk, h1, h2]; rfl) | (rw [irrR, irrOk, h1, h2, h3]; rfl) | (rw [irrOk, h1]; rfl) | (rw [irrOk, h1, h2]; rfl) | (rw [irrOk, h1, h2, h3]; rfl) | (have e := irr_done (on := on) (out := q.1) (k := q.2) (by omega); rw [irrR, irrOk, h1, h2, h3, ← e, hp0.eq]; rfl) | (have e := irr_done (on := on) (out := q.1) (k := q.2) (by omega); rw [irrR, irrOk, h1, h2, h3, if_pos rfl, ← hp0.eq, e]))) (.nil true 1)) (.cons (Exp.of (congrArg D.bool (by first | (rw [irrR, irrOk, h1]; rfl) | (rw [irrR, irrOk, h1, h2]; rfl) | (rw [irrR, irrOk, h1, h2, h3]; rfl) | (rw [irrOk, h1]; rfl) | (rw [irrOk, h1, h2]; rfl) | (rw [irrOk, h1, h2, h3]; rfl) | (have e := irr_done (on := on) (out := q.1) (k := q.2) (by omega); rw [irrR, irrOk, h1, h2, h3, ← e, hp0.eq]; rfl) | (have e := irr_done (on := on) (out := q.1) (k := q.2) (by omega); rw [irrR, irrOk, h1, h2, h3, if_pos rfl, ← hp0.eq, e]))) (.d _)) .nil))) (And.intro rfl rfl))))))
      · replace h3 := notf h3
        try rw [checkB_nil] at h3
        refine T_skip ?_
        refine T_seq ?_
        refine T_region hc ?_
        refine Ch.step (v := (.d (.slice false 1 (l.map D.str)))) rfl (.pure (.move _ rfl rfl)) rfl rfl ?_
        refine Ch.step (v := (.row 28000)) rfl (.call 28000 100 _ _ _ en100 rfl (.inl rfl) (.cons (.d _) .nil) rfl (sol (solid_row (fun _ => rfl) _) rfl) (sp_spec_l1OwnS l (by first | omega | assumption | (exact hx _ (getD_mem (by omega))) | (exact hx _ (by assumption)) | (exact Nat.le_trans (hx _ (by assumption)) (by omega)) | (simp only [List.length_append, List.length_take, List.length_drop, List.length_cons, List.length_nil]; omega) | (simp_all; done))) (.skip _ _ .nil) rfl) rfl rfl ?_
        refine Ch.step (v := (.row 28000)) rfl (.pure (.assign _ rfl rfl)) rfl rfl ?_
        refine Ch.nil ?_
        refine T_seq ?_
        refine T_seq ?_
        refine T_region hc ?_
        refine Ch.step (v := (.d (.int .i64 0))) rfl (.pure (.assign _ rfl rfl)) rfl rfl ?_
        refine Ch.nil ?_
        refine T_block ?_
        refine T_loop (ι := List (List UInt8) × Nat) (fun q => { n := 49, sl := [(1, (.d (.slice false 1 (on.map D.str)))), (8, (.row 8)), (9, (.d (.int .i64 ((q.2 : Nat) : Int))))], hp := [(8, (some (.row 1 (q.1.map D.str))))], pin := [] }) (fun q => IrrInv on l q) (fun q => q.1.length - q.2) ⟨(l, 0), ⟨rfl, fun a h => h, Nat.le_refl _⟩, (Wk.ren [(8, 28000)] rfl rfl rfl rfl (And.intro rfl (And.intro rfl (And.intro (vI (by first | rfl | omega | (simp; done) | (simp; omega))) trivial))) (And.intro (oR (by first | rfl | (simp [del1]; done))) trivial))⟩ (fun q hp0 => ?_)
        have hle := hp0.le
        refine T_seq ?_
        refine T_seq ?_
        refine T_region hc ?_
        refine Ch.step (v := (.d (.int .i64 ((q.2 : Nat) : Int)))) rfl (.pure (.move _ rfl rfl)) rfl rfl ?_
        refine Ch.step (v := (.row 8)) rfl (.pure (.move _ rfl rfl)) rfl rfl ?_
        refine Ch.step (v := (.d (.int .i64 ((q.1.length : Nat) : Int)))) rfl (.pure (.len _ _ 9 rfl Try.underlying22 (.row rfl) (by simp))) rfl rfl ?_
        refine Ch.step (v := (.d (.bool (decide (((q.2 : Nat) : Int) < ((q.1.length : Nat) : Int)))))) rfl (.pure (.int _ _ _ _ _ rfl rfl rfl rfl)) rfl rfl ?_
        refine Ch.nil ?_
        refine T_cond (b := (decide (((q.2 : Nat) : Int) < ((q.1.length : Nat) : Int)))) rfl (fun h4 => ?_) (fun h4 => ?_)
        · replace h4 := of_decide_eq_true h4
          try have hd := del1_length (xs := q.1) (k := q.2) (by omega)
          try have hfit : ∀ u ∈ on, u.length ≤ 1048576 ∧ ∀ a ∈ del1 q.1 q.2, a.length ≤ u.length := fun u hu => ⟨(hl u hu).1, fun a ha => (hl u hu).2 a (hp0.sub a (del1_mem a ha))⟩
          try have hfit0 : ∀ u ∈ ([] : List (List UInt8)), u.length ≤ 1048576 ∧ ∀ a ∈ del1 q.1 q.2, a.length ≤ u.length := fun u hu => by cases hu
          refine T_skip ?_
          refine T_block ?_
          refine T_seq ?_
          refine T_regionD hc (by kernel_rfl) ?_
          refine ChD.step (v := (.row 8)) [] rfl (.pure (.move _ rfl rfl)) rfl rfl ?_
          refine ChD.step (v := (.d (.int .i64 ((q.2 : Nat) : Int)))) [] rfl (.pure (.move _ rfl rfl)) rfl rfl ?_
          refine ChD.step (v := (.sub 8 1 0 q.2)) [8] rfl (.pure (.subRow _ _ _ _ 9 (0) (q.2) rfl Try.underlying22 sz9 rfl rfl (bndN rfl) (bndS rfl rfl) (by first | omega | (simp only [List.length_map, List.length_append, List.length_take, List.length_drop, List.length_cons, List.length_nil]; omega) | (simp; omega) | (simp; done)) (by first | omega | (simp only [List.length_map, List.length_append, List.length_take, List.length_drop, List.length_cons, List.length_nil]; omega) | (simp; omega) | (simp; done)))) rfl rfl ?_
          refine ChD.step (v := (.row 36000)) [8] rfl (.call 36000 100 _ _ _ en100 rfl (.inl rfl) (.cons (.lend (.sub rfl (by first | omega | (simp only [List.length_map, List.length_append, List.length_take, List.length_drop, List.length_cons, List.length_nil]; omega) | (simp; omega) | (simp; done)) (by first | omega | (simp only [List.length_map, List.length_append, List.length_take, List.length_drop, List.length_cons, List.length_nil]; omega) | (simp; omega) | (simp; done)) (by first | (rw [show frozs (q.1.map D.str) = (q.1.map D.str) from (frozs_map (fun _ => rfl) _), List.map_drop, List.take_of_length_le (by simp)]; done) | (rw [show frozs (q.1.map D.str) = (q.1.map D.str) from (frozs_map (fun _ => rfl) _)]; simp [List.map_take, List.map_drop]; done) | (rw [show frozs (q.1.map D.str) = (q.1.map D.str) from (frozs_map (fun _ => rfl) _), ← List.map_take, ← List.map_drop]; done)))) .nil) rfl (sol (solid_row (fun _ => rfl) _) rfl) (sp_spec_l1OwnS (q.1.take q.2) (by first | omega | assumption | (exact hx _ (getD_mem (by omega))) | (exact hx _ (by assumption)) | (exact Nat.le_trans (hx _ (by assumption)) (by omega)) | (simp only [List.length_append, List.length_take, List.length_drop, List.length_cons, List.length_nil]; omega) | (simp_all; done))) (.skip _ _ .nil) rfl) rfl rfl ?_
          refine ChD.step (v := (.row 8)) [] rfl (.pure (.move _ rfl rfl)) rfl rfl ?_
          refine ChD.step (v := (.d (.int .i64 ((q.2 : Nat) : Int)))) [] rfl (.pure (.move _ rfl rfl)) rfl rfl ?_
          refine ChD.step (v := (.d (.int .i64 (((q.2 : Nat) : Int) + 1)))) [] rfl (.pure (.int _ _ _ _ _ rfl rfl rfl (intV_add (by first | omega | (simp only [List.length_map, List.length_append, List.length_take, List.length_drop, List.length_cons, List.length_nil]; omega) | (simp; omega) | (simp; done)) (by first | omega | (simp only [List.length_map, List.length_append, List.length_take, List.length_drop, List.length_cons, List.length_nil]; omega) | (simp; omega) | (simp; done))))) rfl rfl ?_
          refine ChD.step (v := (.sub 8 1 (q.2 + 1) q.1.length)) [8] rfl (.pure (.subRow _ _ _ _ 9 ((q.2 + 1)) (q.1.length) rfl Try.underlying22 sz9 rfl rfl (bndS rfl (by omega)) (bndN (by simp)) (by first | omega | (simp only [List.length_map, List.length_append, List.length_take, List.length_drop, List.length_cons, List.length_nil]; omega) | (simp; omega) | (simp; done)) (by first | omega | (simp only [List.length_map, List.length_append, List.length_take, List.length_drop, List.length_cons, List.length_nil]; omega) | (simp; omega) | (simp; done)))) rfl rfl ?_
          refine ChD.step (v := (.row 41000)) [8, 36000] rfl (.append 41000 _ _ _ 9 rfl sty22 (by decide) (.rowK rfl) (.inr ⟨_, rfl, rfl⟩) (.sub (ys := ((q.1.drop (q.2 + 1)).map D.str)) rfl (noUs_map (fun _ => rfl) _) (by first | omega | (simp only [List.length_map, List.length_append, List.length_take, List.length_drop, List.length_cons, List.length_nil]; omega) | (simp; omega) | (simp; done)) (by first | omega | (simp only [List.length_map, List.length_append, List.length_take, List.length_drop, List.length_cons, List.length_nil]; omega) | (simp; omega) | (simp; done)) (by first | (rw [List.map_drop, List.take_of_length_le (by simp)]; done) | (simp [List.map_take, List.map_drop]; done))) rfl (by first | omega | (simp; omega) | (simp; done))) rfl rfl ?_
          refine ChD.step (v := (.row 41000)) [] rfl (.pure (.assign _ rfl rfl)) rfl rfl ?_
          refine ChD.nil (And.intro ?_ (by kernel_rfl))
          refine T_seq ?_
          refine T_region hc ?_
          refine Ch.step (v := (.d (.slice false 1 (on.map D.str)))) rfl (.pure (.move _ rfl rfl)) rfl rfl ?_
          refine Ch.step (v := (.row 41000)) rfl (.pure (.move _ rfl rfl)) rfl rfl ?_
          refine Ch.step (v := (.d (.bool (checkB on ([]) ((q.1.take q.2) ++ (q.1.drop (q.2 + 1))))))) rfl (.call 44000 68 _ _ _ en68 rfl (.inl rfl) (.cons (.d _) (.cons (.lend (.nil false 1)) (.cons (.lend (.row rfl (by rw [← List.map_append]; exact (frozs_map (fun _ => rfl) _)))) .nil))) rfl rfl (sp_spec_l14Check on ([]) ((q.1.take q.2) ++ (q.1.drop (q.2 + 1))) (by first | omega | assumption | (exact hx _ (getD_mem (by omega))) | (exact hx _ (by assumption)) | (exact Nat.le_trans (hx _ (by assumption)) (by omega)) | (simp only [List.length_append, List.length_take, List.length_drop, List.length_cons, List.length_nil]; omega) | (simp_all; done)) (by first | omega | assumption | (exact hx _ (getD_mem (by omega))) | (exact hx _ (by assumption)) | (exact Nat.le_trans (hx _ (by assumption)) (by omega)) | (simp only [List.length_append, List.length_take, List.length_drop, List.length_cons, List.length_nil]; omega) | (simp_all; done)) (by first | omega | assumption | (exact hx _ (getD_mem (by omega))) | (exact hx _ (by assumption)) | (exact Nat.le_trans (hx _ (by assumption)) (by omega)) | (simp only [List.length_append, List.length_take, List.length_drop, List.length_cons, List.length_nil]; omega) | (simp_all; done)) (by assumption) (by assumption)) (.skip _ _ (.skip _ _ (.skip _ _ .nil))) rfl) rfl rfl ?_
          refine Ch.nil ?_
          refine T_cond (b := (checkB on ([]) ((q.1.take q.2) ++ (q.1.drop (q.2 + 1))))) rfl (fun h5 => ?_) (fun h5 => ?_)
          · try rw [checkB_nil] at h5
            refine T_region hc ?_
            refine Ch.step (v := (.row 41000)) rfl (.pure (.move _ rfl rfl)) rfl rfl ?_
            refine Ch.step (v := (.row 41000)) rfl (.pure (.assign _ rfl rfl)) rfl rfl ?_
            refine Ch.nil ?_
            refine Exists.intro ((del1 q.1 q.2, q.2)) (And.intro (by first | exact hp0.yes (by omega) (by assumption) | exact hp0.no (by omega) (by assumption)) (And.intro (by have hd2 := del1_length (xs := q.1) (k := q.2) (by omega); dsimp only; omega) (Wk.ren [(8, 41000)] rfl rfl rfl rfl (And.intro rfl (And.intro rfl (And.intro (vI (by first | rfl | omega | (simp; done) | (simp; omega))) trivial))) (And.intro (oR (by first | rfl | (simp [del1]; done))) trivial))))
          · try rw [checkB_nil] at h5
            refine T_region hc ?_
            refine Ch.step (v := (.d (.int .i64 ((q.2 : Nat) : Int)))) rfl (.pure (.move _ rfl rfl)) rfl rfl ?_
            refine Ch.step (v := (.d (.int .i64 (((q.2 : Nat) : Int) + 1)))) rfl (.pure (.int _ _ _ _ _ rfl rfl rfl (intV_add (by first | omega | (simp only [List.length_map, List.length_append, List.length_take, List.length_drop, List.length_cons, List.length_nil]; omega) | (simp; omega) | (simp; done)) (by first | omega | (simp only [List.length_map, List.length_append, List.length_take, List.length_drop, List.length_cons, List.length_nil]; omega) | (simp; omega) | (simp; done))))) rfl rfl ?_
            refine Ch.step (v := (.d (.int .i64 (((q.2 : Nat) : Int) + 1)))) rfl (.pure (.assign _ rfl rfl)) rfl rfl ?_
            refine Ch.nil ?_
            refine Exists.intro ((q.1, q.2 + 1)) (And.intro (by first | exact hp0.yes (by omega) (by assumption) | exact hp0.no (by omega) (by assumption)) (And.intro (by have hd2 := del1_length (xs := q.1) (k := q.2) (by omega); dsimp only; omega) (Wk.of rfl rfl (And.intro rfl (And.intro rfl (And.intro (vI (by first | rfl | omega | (simp; done) | (simp; omega))) trivial))) (And.intro (oR (by first | rfl | (simp [del1]; done))) trivial))))
        · replace h4 := of_decide_eq_false h4
          try have hd := del1_length (xs := q.1) (k := q.2) (by omega)
          try have hfit : ∀ u ∈ on, u.length ≤ 1048576 ∧ ∀ a ∈ del1 q.1 q.2, a.length ≤ u.length := fun u hu => ⟨(hl u hu).1, fun a ha => (hl u hu).2 a (hp0.sub a (del1_mem a ha))⟩
          try have hfit0 : ∀ u ∈ ([] : List (List UInt8)), u.length ≤ 1048576 ∧ ∀ a ∈ del1 q.1 q.2, a.length ≤ u.length := fun u hu => by cases hu
          refine T_exit ?_
          refine T_seq ?_
          refine T_region hc ?_
          refine Ch.step (v := (.row 8)) rfl (.pure (.move _ rfl rfl)) rfl rfl ?_
          refine Ch.step (v := (.row 8)) rfl (.pure (.assign _ rfl rfl)) rfl rfl ?_
          refine Ch.step (v := (.d (.bool true))) rfl (.pure (.assign _ rfl rfl)) rfl rfl ?_
          refine Ch.nil ?_
          refine T_ret ?_
          refine And.intro (.inr rfl) ?_
          exact Exists.intro [(.row 8), (.d (.bool true))] (Exists.intro [] (Exists.intro [8] (And.intro (.cons (.tmp 6 rfl) (.cons (.tmp 7 rfl) .nil)) (And.intro (.cons (.any _) (.cons (.any _) (.cons (.any _) .nil))) (And.intro (.tup (.cons (Exp.of (congrArg (D.slice true 1) (by first | (rw [irrR, irrOk, h1]; rfl) | (rw [irrR, irrOk, h1, h2]; rfl) | (rw [irrR, irrOk, h1, h2, h3]; rfl) | (rw [irrOk, h1]; rfl) | (rw [irrOk, h1, h2]; rfl) | (rw [irrOk, h1, h2, h3]; rfl) | (have e := irr_done (on := on) (out := q.1) (k := q.2) (by omega); rw [irrR, irrOk, h1, h2, h3, ← e, hp0.eq]; rfl) | (have e := irr_done (on := on) (out := q.1) (k := q.2) (by omega); rw [irrR, irrOk, h1, h2, h3, if_pos rfl, ← hp0.eq, e]))) (.row rfl)) (.cons (Exp.of (congrArg D.bool (by first | (rw [irrR, irrOk, h1]; rfl) | (rw [irrR, irrOk, h1, h2]; rfl) | (rw [irrR, irrOk, h1, h2, h3]; rfl) | (rw [irrOk, h1]; rfl) | (rw [irrOk, h1, h2]; rfl) | (rw [irrOk, h1, h2, h3]; rfl) | (have e := irr_done (on := on) (out := q.1) (k := q.2) (by omega); rw [irrR, irrOk, h1, h2, h3, ← e, hp0.eq]; rfl) | (have e := irr_done (on := on) (out := q.1) (k := q.2) (by omega); rw [irrR, irrOk, h1, h2, h3, if_pos rfl, ← hp0.eq, e]))) (.d _)) .nil))) (And.intro rfl rfl))))))
    | false =>
      try have hg := good_len h2
      try have hl := fits_of hop.1.2 hop.2.2.2.1 hg
      try have hl0 : ∀ u ∈ ([] : List (List UInt8)), u.length ≤ 1048576 ∧ ∀ a ∈ l, a.length ≤ u.length := fun u hu => by cases hu
      refine Ch.skip rfl rfl ?_
      refine Ch.skip rfl rfl ?_
      refine Ch.skip rfl rfl ?_
      refine Ch.skip rfl rfl ?_
      refine Ch.step (v := (.d (.bool true))) rfl (.pure (.pickT _ _ _ rfl rfl rfl)) rfl rfl ?_
      refine Ch.nil ?_
      refine T_cond (b := true) rfl (fun _ => ?_) (fun h => nomatch h)
      refine T_seq ?_
      refine T_region hc ?_
      refine Ch.step (v := (.c (.slice none 0 0))) rfl (.pure (.assign _ rfl rfl)) rfl rfl ?_
      refine Ch.step (v := (.d (.bool false))) rfl (.pure (.assign _ rfl rfl)) rfl rfl ?_
      refine Ch.nil ?_
      refine T_ret ?_
      refine And.intro (.inr rfl) ?_
      exact Exists.intro [(.c (.slice none 0 0)), (.d (.bool false))] (Exists.intro [] (Exists.intro [] (And.intro (.cons (.tmp 6 rfl) (.cons (.tmp 7 rfl) .nil)) (And.intro (.cons (.any _) (.cons (.any _) (.cons (.any _) .nil))) (And.intro (.tup (.cons (Exp.of (congrArg (D.slice true 1) (by first | (rw [irrR, irrOk, h1]; rfl) | (rw [irrR, irrOk, h1, h2]; rfl) | (rw [irrR, irrOk, h1, h2, h3]; rfl) | (rw [irrOk, h1]; rfl) | (rw [irrOk, h1, h2]; rfl) | (rw [irrOk, h1, h2, h3]; rfl) | (have e := irr_done (on := on) (out := q.1) (k := q.2) (by omega); rw [irrR, irrOk, h1, h2, h3, ← e, hp0.eq]; rfl) | (have e := irr_done (on := on) (out := q.1) (k := q.2) (by omega); rw [irrR, irrOk, h1, h2, h3, if_pos rfl, ← hp0.eq, e]))) (.nil true 1)) (.cons (Exp.of (congrArg D.bool (by first | (rw [irrR, irrOk, h1]; rfl) | (rw [irrR, irrOk, h1, h2]; rfl) | (rw [irrR, irrOk, h1, h2, h3]; rfl) | (rw [irrOk, h1]; rfl) | (rw [irrOk, h1, h2]; rfl) | (rw [irrOk, h1, h2, h3]; rfl) | (have e := irr_done (on := on) (out := q.1) (k := q.2) (by omega); rw [irrR, irrOk, h1, h2, h3, ← e, hp0.eq]; rfl) | (have e := irr_done (on := on) (out := q.1) (k := q.2) (by omega); rw [irrR, irrOk, h1, h2, h3, if_pos rfl, ← hp0.eq, e]))) (.d _)) .nil))) (And.intro rfl rfl))))))
  | false =>
    try have hop := onoff_parts h1
    refine Ch.skip rfl rfl ?_
    refine Ch.skip rfl rfl ?_
    refine Ch.skip rfl rfl ?_
    refine Ch.skip rfl rfl ?_
    refine Ch.step (v := (.d (.bool true))) rfl (.pure (.pickT _ _ _ rfl rfl rfl)) rfl rfl ?_
    refine Ch.step (v := (.d (.bool true))) rfl (.pure (.move _ rfl rfl)) rfl rfl ?_
    refine Ch.skip rfl rfl ?_
    refine Ch.skip rfl rfl ?_
    refine Ch.skip rfl rfl ?_
    refine Ch.skip rfl rfl ?_
    refine Ch.step (v := (.d (.bool true))) rfl (.pure (.pickT _ _ _ rfl rfl rfl)) rfl rfl ?_
    refine Ch.nil ?_
    refine T_cond (b := true) rfl (fun _ => ?_) (fun h => nomatch h)
    refine T_seq ?_
    refine T_region hc ?_
    refine Ch.step (v := (.c (.slice none 0 0))) rfl (.pure (.assign _ rfl rfl)) rfl rfl ?_
    refine Ch.step (v := (.d (.bool false))) rfl (.pure (.assign _ rfl rfl)) rfl rfl ?_
    refine Ch.nil ?_
    refine T_ret ?_
    refine And.intro (.inr rfl) ?_
    exact Exists.intro [(.c (.slice none 0 0)), (.d (.bool false))] (Exists.intro [] (Exists.intro [] (And.intro (.cons (.tmp 6 rfl) (.cons (.tmp 7 rfl) .nil)) (And.intro (.cons (.any _) (.cons (.any _) (.cons (.any _) .nil))) (And.intro (.tup (.cons (Exp.of (congrArg (D.slice true 1) (by first | (rw [irrR, irrOk, h1]; rfl) | (rw [irrR, irrOk, h1, h2]; rfl) | (rw [irrR, irrOk, h1, h2, h3]; rfl) | (rw [irrOk, h1]; rfl) | (rw [irrOk, h1, h2]; rfl) | (rw [irrOk, h1, h2, h3]; rfl) | (have e := irr_done (on := on) (out := q.1) (k := q.2) (by omega); rw [irrR, irrOk, h1, h2, h3, ← e, hp0.eq]; rfl) | (have e := irr_done (on := on) (out := q.1) (k := q.2) (by omega); rw [irrR, irrOk, h1, h2, h3, if_pos rfl, ← hp0.eq, e]))) (.nil true 1)) (.cons (Exp.of (congrArg D.bool (by first | (rw [irrR, irrOk, h1]; rfl) | (rw [irrR, irrOk, h1, h2]; rfl) | (rw [irrR, irrOk, h1, h2, h3]; rfl) | (rw [irrOk, h1]; rfl) | (rw [irrOk, h1, h2]; rfl) | (rw [irrOk, h1, h2, h3]; rfl) | (have e := irr_done (on := on) (out := q.1) (k := q.2) (by omega); rw [irrR, irrOk, h1, h2, h3, ← e, hp0.eq]; rfl) | (have e := irr_done (on := on) (out := q.1) (k := q.2) (by omega); rw [irrR, irrOk, h1, h2, h3, if_pos rfl, ← hp0.eq, e]))) (.d _)) .nil))) (And.intro rfl rfl))))))

theorem sp_impl_Irredundant (n : Int) (on l : List (List UInt8)) (hn1 : on.length ≤ 1048576) (hx1 : ∀ x ∈ on, x.length ≤ 1048576) (hn : l.length ≤ 1048576) (hx : ∀ x ∈ l, x.length ≤ 1048576) : Sp Try.prog 46 [(.int .i64 n), (.slice false 1 (on.map D.str)), (.slice false 1 (l.map D.str))] [.any, .any, .any] (.tup [(.slice true 1 ((irrR n on l).map D.str)), (.bool (irrOk n on l))]) := by
  refine Sp_intro (lend := true) Try.func46 rfl rfl rfl (fun _ => rfl) (fun c hc hX => ?_)
  refine T_seq ?_
  refine T_region hc ?_
  refine Ch.step (v := (.c (.slice none 0 0))) rfl (.pure (.assign _ rfl rfl)) rfl rfl ?_
  refine Ch.step (v := (.d (.bool false))) rfl (.pure (.assign _ rfl rfl)) rfl rfl ?_
  refine Ch.nil ?_
  refine T_seq ?_
  refine T_seq ?_
  refine T_region hc ?_
  refine Ch.step (v := (.d (.int .i64 n))) rfl (.pure (.move _ rfl rfl)) rfl rfl ?_
  refine Ch.step (v := (.d (.slice false 1 (on.map D.str)))) rfl (.pure (.move _ rfl rfl)) rfl rfl ?_
  refine Ch.step (v := (.d (.bool (onoffB n on ([]))))) rfl (.call 13000 69 _ _ _ en69 rfl (.inl rfl) (.cons (.d _) (.cons (.d _) (.cons (.lend (.nil false 1)) .nil))) rfl rfl (sp_impl_IsValidOnOff n on ([]) (by first | omega | assumption | (exact hx _ (getD_mem (by omega))) | (exact hx _ (by assumption)) | (exact Nat.le_trans (hx _ (by assumption)) (by omega)) | (simp only [List.length_append, List.length_take, List.length_drop, List.length_cons, List.length_nil]; omega) | (simp_all; done)) (by first | omega | assumption | (exact hx _ (getD_mem (by omega))) | (exact hx _ (by assumption)) | (exact Nat.le_trans (hx _ (by assumption)) (by omega)) | (simp only [List.length_append, List.length_take, List.length_drop, List.length_cons, List.length_nil]; omega) | (simp_all; done)) (by first | omega | assumption | (exact hx _ (getD_mem (by omega))) | (exact hx _ (by assumption)) | (exact Nat.le_trans (hx _ (by assumption)) (by omega)) | (simp only [List.length_append, List.length_take, List.length_drop, List.length_cons, List.length_nil]; omega) | (simp_all; done)) (by first | omega | assumption | (exact hx _ (getD_mem (by omega))) | (exact hx _ (by assumption)) | (exact Nat.le_trans (hx _ (by assumption)) (by omega)) | (simp only [List.length_append, List.length_take, List.length_drop, List.length_cons, List.length_nil]; omega) | (simp_all; done))) (.skip _ _ (.skip _ _ (.skip _ _ .nil))) rfl) rfl rfl ?_
  refine Ch.step (v := (.d (.bool (!(onoffB n on ([])))))) rfl (.pure (.not _ _ rfl rfl)) rfl rfl ?_
  refine Ch.step (v := (.d (.bool (!(onoffB n on ([])))))) rfl (.pure (.move _ rfl rfl)) rfl rfl ?_
  cases h1 : (onoffB n on ([])) with
  | true =>
    try have hop := onoff_parts h1
    refine Ch.step (v := (.d (.int .i64 n))) rfl (.pure (.move _ rfl rfl)) rfl rfl ?_
    refine Ch.step (v := (.d (.slice false 1 (l.map D.str)))) rfl (.pure (.move _ rfl rfl)) rfl rfl ?_
    refine Ch.step (v := (.d (.bool (goodB n l)))) rfl (.call 18000 62 _ _ _ en62 rfl (.inl rfl) (.cons (.d _) (.cons (.d _) .nil)) rfl rfl (sp_impl_IsValidCover n l (by first | omega | assumption | (exact hx _ (getD_mem (by omega))) | (exact hx _ (by assumption)) | (exact Nat.le_trans (hx _ (by assumption)) (by omega)) | (simp only [List.length_append, List.length_take, List.length_drop, List.length_cons, List.length_nil]; omega) | (simp_all; done)) (by first | omega | assumption | (exact hx _ (getD_mem (by omega))) | (exact hx _ (by assumption)) | (exact Nat.le_trans (hx _ (by assumption)) (by omega)) | (simp only [List.length_append, List.length_take, List.length_drop, List.length_cons, List.length_nil]; omega) | (simp_all; done))) (.skip _ _ (.skip _ _ .nil)) rfl) rfl rfl ?_
    refine Ch.step (v := (.d (.bool (!(goodB n l))))) rfl (.pure (.not _ _ rfl rfl)) rfl rfl ?_
    refine Ch.step (v := (.d (.bool (!(goodB n l))))) rfl (.pure (.pickF _ _ _ rfl rfl rfl)) rfl rfl ?_
    refine Ch.step (v := (.d (.bool (!(goodB n l))))) rfl (.pure (.move _ rfl rfl)) rfl rfl ?_
    cases h2 : (goodB n l) with
    | true =>
      try have hg := good_len h2
      try have hl := fits_of hop.1.2 hop.2.2.2.1 hg
      try have hl0 : ∀ u ∈ ([] : List (List UInt8)), u.length ≤ 1048576 ∧ ∀ a ∈ l, a.length ≤ u.length := fun u hu => by cases hu
      refine Ch.step (v := (.d (.slice false 1 (l.map D.str)))) rfl (.pure (.move _ rfl rfl)) rfl rfl ?_
      refine Ch.step (v := (.d (.slice false 1 (on.map D.str)))) rfl (.pure (.move _ rfl rfl)) rfl rfl ?_
      refine Ch.step (v := (.d (.bool (allOf on (inB l))))) rfl (.call 24000 70 _ _ _ en70 rfl (.inl rfl) (.cons (.d _) (.cons (.d _) .nil)) rfl rfl (sp_impl_coversAll l on (by first | omega | assumption | (exact hx _ (getD_mem (by omega))) | (exact hx _ (by assumption)) | (exact Nat.le_trans (hx _ (by assumption)) (by omega)) | (simp only [List.length_append, List.length_take, List.length_drop, List.length_cons, List.length_nil]; omega) | (simp_all; done)) (by first | omega | assumption | (exact hx _ (getD_mem (by omega))) | (exact hx _ (by assumption)) | (exact Nat.le_trans (hx _ (by assumption)) (by omega)) | (simp only [List.length_append, List.length_take, List.length_drop, List.length_cons, List.length_nil]; omega) | (simp_all; done)) (by assumption)) (.skip _ _ (.skip _ _ .nil)) rfl) rfl rfl ?_
      refine Ch.step (v := (.d (.bool (!(allOf on (inB l)))))) rfl (.pure (.not _ _ rfl rfl)) rfl rfl ?_
      refine Ch.step (v := (.d (.bool (!(allOf on (inB l)))))) rfl (.pure (.pickF _ _ _ rfl rfl rfl)) rfl rfl ?_
      refine Ch.nil ?_
      refine T_cond (b := (!(allOf on (inB l)))) rfl (fun h3 => ?_) (fun h3 => ?_)
      · replace h3 := nott h3
        try rw [checkB_nil] at h3
        refine T_seq ?_
        refine T_region hc ?_
        refine Ch.step (v := (.c (.slice none 0 0))) rfl (.pure (.assign _ rfl rfl)) rfl rfl ?_
        refine Ch.step (v := (.d (.bool false))) rfl (.pure (.assign _ rfl rfl)) rfl rfl ?_
        refine Ch.nil ?_
        refine T_ret ?_
        refine And.intro (.inr rfl) ?_
        exact Exists.intro [(.c (.slice none 0 0)), (.d (.bool false))] (Exists.intro [] (Exists.intro [] (And.intro (.cons (.tmp 6 rfl) (.cons (.tmp 7 rfl) .nil)) (And.intro (.cons (.any _) (.cons (.any _) (.cons (.any _) .nil))) (And.intro (.tup (.cons (Exp.of (congrArg (D.slice true 1) (by first | (rw [irrR, irrOk, h1]; rfl) | (rw [irrR, irrOk, h1, h2]; rfl) | (rw [irrR, irrOk, h1, h2, h3]; rfl) | (rw [irrOk, h1]; rfl) | (rw [irrOk, h1, h2]; rfl) | (rw [irrOk, h1, h2, h3]; rfl) | (have e := irr_done (on := on) (out := q.1) (k := q.2) (by omega); rw [irrR, irrOk, h1, h2, h3, ← e, hp0.eq]; rfl) | (have e := irr_done (on := on) (out := q.1) (k := q.2) (by omega); rw [irrR, irrOk, h1, h2, h3, if_pos rfl, ← hp0.eq, e]))) (.nil true 1)) (.cons (Exp.of (congrArg D.bool (by first | (rw [irrR, irrOk, h1]; rfl) | (rw [irrR, irrOk, h1, h2]; rfl) | (rw [irrR, irrOk, h1, h2, h3]; rfl) | (rw [irrOk, h1]; rfl) | (rw [irrOk, h1, h2]; rfl) | (rw [irrOk, h1, h2, h3]; rfl) | (have e := irr_done (on := on) (out := q.1) (k := q.2) (by omega); rw [irrR, irrOk, h1, h2, h3, ← e, hp0.eq]; rfl) | (have e := irr_done (on := on) (out := q.1) (k := q.2) (by omega); rw [irrR, irrOk, h1, h2, h3, if_pos rfl, ← hp0.eq, e]))) (.d _)) .nil))) (And.intro rfl rfl))))))
      · replace h3 := notf h3
        try rw [checkB_nil] at h3
        refine T_skip ?_
        refine T_seq ?_
        refine T_region hc ?_
        refine Ch.step (v := (.d (.slice false 1 (l.map D.str)))) rfl (.pure (.move _ rfl rfl)) rfl rfl ?_
        refine Ch.step (v := (.row 28000)) rfl (.call 28000 101 _ _ _ en101 rfl (.inl rfl) (.cons (.d _) .nil) rfl (sol (solid_row (fun _ => rfl) _) rfl) (sp_Clone_str l (by first | omega | assumption | (exact hx _ (getD_mem (by omega))) | (exact hx _ (by assumption)) | (exact Nat.le_trans (hx _ (by assumption)) (by omega)) | (simp only [List.length_append, List.length_take, List.length_drop, List.length_cons, List.length_nil]; omega) | (simp_all; done))) (.skip _ _ .nil) rfl) rfl rfl ?_
        refine Ch.step (v := (.row 28000)) rfl (.pure (.assign _ rfl rfl)) rfl rfl ?_
        refine Ch.nil ?_
        refine T_seq ?_
        refine T_seq ?_
        refine T_region hc ?_
        refine Ch.step (v := (.d (.int .i64 0))) rfl (.pure (.assign _ rfl rfl)) rfl rfl ?_
        refine Ch.nil ?_
        refine T_block ?_
        refine T_loop (ι := List (List UInt8) × Nat) (fun q => { n := 46, sl := [(1, (.d (.slice false 1 (on.map D.str)))), (8, (.row 8)), (9, (.d (.int .i64 ((q.2 : Nat) : Int))))], hp := [(8, (some (.row 1 (q.1.map D.str))))], pin := [] }) (fun q => IrrInv on l q) (fun q => q.1.length - q.2) ⟨(l, 0), ⟨rfl, fun a h => h, Nat.le_refl _⟩, (Wk.ren [(8, 28000)] rfl rfl rfl rfl (And.intro rfl (And.intro rfl (And.intro (vI (by first | rfl | omega | (simp; done) | (simp; omega))) trivial))) (And.intro (oR (by first | rfl | (simp [del1]; done))) trivial))⟩ (fun q hp0 => ?_)
        have hle := hp0.le
        refine T_seq ?_
        refine T_seq ?_
        refine T_region hc ?_
        refine Ch.step (v := (.d (.int .i64 ((q.2 : Nat) : Int)))) rfl (.pure (.move _ rfl rfl)) rfl rfl ?_
        refine Ch.step (v := (.row 8)) rfl (.pure (.move _ rfl rfl)) rfl rfl ?_
        refine Ch.step (v := (.d (.int .i64 ((q.1.length : Nat) : Int)))) rfl (.pure (.len _ _ 9 rfl Try.underlying22 (.row rfl) (by simp))) rfl rfl ?_
        refine Ch.step (v := (.d (.bool (decide (((q.2 : Nat) : Int) < ((q.1.length : Nat) : Int)))))) rfl (.pure (.int _ _ _ _ _ rfl rfl rfl rfl)) rfl rfl ?_
        refine Ch.nil ?_
        refine T_cond (b := (decide (((q.2 : Nat) : Int) < ((q.1.length : Nat) : Int)))) rfl (fun h4 => ?_) (fun h4 => ?_)
        · replace h4 := of_decide_eq_true h4
          try have hd := del1_length (xs := q.1) (k := q.2) (by omega)
          try have hfit : ∀ u ∈ on, u.length ≤ 1048576 ∧ ∀ a ∈ del1 q.1 q.2, a.length ≤ u.length := fun u hu => ⟨(hl u hu).1, fun a ha => (hl u hu).2 a (hp0.sub a (del1_mem a ha))⟩
          try have hfit0 : ∀ u ∈ ([] : List (List UInt8)), u.length ≤ 1048576 ∧ ∀ a ∈ del1 q.1 q.2, a.length ≤ u.length := fun u hu => by cases hu
          refine T_skip ?_
          refine T_block ?_
          refine T_seq ?_
          refine T_region hc ?_
          refine Ch.step (v := (.row 8)) rfl (.pure (.move _ rfl rfl)) rfl rfl ?_
          refine Ch.step (v := (.row 34000)) rfl (.call 34000 101 _ _ _ en101 rfl (.inl rfl) (.cons (.lend (.row rfl (frozs_map (fun _ => rfl) _))) .nil) rfl (sol (solid_row (fun _ => rfl) _) rfl) (sp_Clone_str q.1 (by first | omega | assumption | (exact hx _ (getD_mem (by omega))) | (exact hx _ (by assumption)) | (exact Nat.le_trans (hx _ (by assumption)) (by omega)) | (simp only [List.length_append, List.length_take, List.length_drop, List.length_cons, List.length_nil]; omega) | (simp_all; done))) (.skip _ _ .nil) rfl) rfl rfl ?_
          refine Ch.step (v := (.d (.int .i64 ((q.2 : Nat) : Int)))) rfl (.pure (.move _ rfl rfl)) rfl rfl ?_
          refine Ch.step (v := (.d (.int .i64 ((q.2 : Nat) : Int)))) rfl (.pure (.move _ rfl rfl)) rfl rfl ?_
          refine Ch.step (v := (.d (.int .i64 (((q.2 : Nat) : Int) + 1)))) rfl (.pure (.int _ _ _ _ _ rfl rfl rfl (intV_add (by first | omega | (simp only [List.length_map, List.length_append, List.length_take, List.length_drop, List.length_cons, List.length_nil]; omega) | (simp; omega) | (simp; done)) (by first | omega | (simp only [List.length_map, List.length_append, List.length_take, List.length_drop, List.length_cons, List.length_nil]; omega) | (simp; omega) | (simp; done))))) rfl rfl ?_
          refine Ch.step (v := (.row 38000)) rfl (.call 38000 102 _ _ _ en102 rfl (.inl rfl) (.cons (.row rfl) (.cons (.d _) (.cons (.d _) .nil))) rfl (sol (solid_row (fun _ => rfl) _) rfl) (sp_Delete_str q.1 q.2 (by first | omega | assumption | (exact hx _ (getD_mem (by omega))) | (exact hx _ (by assumption)) | (exact Nat.le_trans (hx _ (by assumption)) (by omega)) | (simp only [List.length_append, List.length_take, List.length_drop, List.length_cons, List.length_nil]; omega) | (simp_all; done))) (.skip _ _ (.skip _ _ (.skip _ _ .nil))) rfl) rfl rfl ?_
          refine Ch.step (v := (.row 38000)) rfl (.pure (.assign _ rfl rfl)) rfl rfl ?_
          refine Ch.nil ?_
          refine T_seq ?_
          refine T_region hc ?_
          refine Ch.step (v := (.row 38000)) rfl (.pure (.move _ rfl rfl)) rfl rfl ?_
          refine Ch.step (v := (.d (.slice false 1 (on.map D.str)))) rfl (.pure (.move _ rfl rfl)) rfl rfl ?_
          refine Ch.step (v := (.d (.bool (allOf on (inB (del1 q.1 q.2)))))) rfl (.call 41000 70 _ _ _ en70 rfl (.inl rfl) (.cons (.lend (.row rfl (frozs_map (fun _ => rfl) _))) (.cons (.d _) .nil)) rfl rfl (sp_impl_coversAll (del1 q.1 q.2) on (by first | omega | assumption | (exact hx _ (getD_mem (by omega))) | (exact hx _ (by assumption)) | (exact Nat.le_trans (hx _ (by assumption)) (by omega)) | (simp only [List.length_append, List.length_take, List.length_drop, List.length_cons, List.length_nil]; omega) | (simp_all; done)) (by first | omega | assumption | (exact hx _ (getD_mem (by omega))) | (exact hx _ (by assumption)) | (exact Nat.le_trans (hx _ (by assumption)) (by omega)) | (simp only [List.length_append, List.length_take, List.length_drop, List.length_cons, List.length_nil]; omega) | (simp_all; done)) (by assumption)) (.skip _ _ (.skip _ _ .nil)) rfl) rfl rfl ?_
          refine Ch.nil ?_
          refine T_cond (b := (allOf on (inB (del1 q.1 q.2)))) rfl (fun h5 => ?_) (fun h5 => ?_)
          · try rw [checkB_nil] at h5
            refine T_region hc ?_
            refine Ch.step (v := (.row 38000)) rfl (.pure (.move _ rfl rfl)) rfl rfl ?_
            refine Ch.step (v := (.row 38000)) rfl (.pure (.assign _ rfl rfl)) rfl rfl ?_
            refine Ch.nil ?_
            refine Exists.intro ((del1 q.1 q.2, q.2)) (And.intro (by first | exact hp0.yes (by omega) (by assumption) | exact hp0.no (by omega) (by assumption)) (And.intro (by have hd2 := del1_length (xs := q.1) (k := q.2) (by omega); dsimp only; omega) (Wk.ren [(8, 38000)] rfl rfl rfl rfl (And.intro rfl (And.intro rfl (And.intro (vI (by first | rfl | omega | (simp; done) | (simp; omega))) trivial))) (And.intro (oR (by first | rfl | (simp [del1]; done))) trivial))))
          · try rw [checkB_nil] at h5
            refine T_region hc ?_
            refine Ch.step (v := (.d (.int .i64 ((q.2 : Nat) : Int)))) rfl (.pure (.move _ rfl rfl)) rfl rfl ?_
            refine Ch.step (v := (.d (.int .i64 (((q.2 : Nat) : Int) + 1)))) rfl (.pure (.int _ _ _ _ _ rfl rfl rfl (intV_add (by first | omega | (simp only [List.length_map, List.length_append, List.length_take, List.length_drop, List.length_cons, List.length_nil]; omega) | (simp; omega) | (simp; done)) (by first | omega | (simp only [List.length_map, List.length_append, List.length_take, List.length_drop, List.length_cons, List.length_nil]; omega) | (simp; omega) | (simp; done))))) rfl rfl ?_
            refine Ch.step (v := (.d (.int .i64 (((q.2 : Nat) : Int) + 1)))) rfl (.pure (.assign _ rfl rfl)) rfl rfl ?_
            refine Ch.nil ?_
            refine Exists.intro ((q.1, q.2 + 1)) (And.intro (by first | exact hp0.yes (by omega) (by assumption) | exact hp0.no (by omega) (by assumption)) (And.intro (by have hd2 := del1_length (xs := q.1) (k := q.2) (by omega); dsimp only; omega) (Wk.of rfl rfl (And.intro rfl (And.intro rfl (And.intro (vI (by first | rfl | omega | (simp; done) | (simp; omega))) trivial))) (And.intro (oR (by first | rfl | (simp [del1]; done))) trivial))))
        · replace h4 := of_decide_eq_false h4
          try have hd := del1_length (xs := q.1) (k := q.2) (by omega)
          try have hfit : ∀ u ∈ on, u.length ≤ 1048576 ∧ ∀ a ∈ del1 q.1 q.2, a.length ≤ u.length := fun u hu => ⟨(hl u hu).1, fun a ha => (hl u hu).2 a (hp0.sub a (del1_mem a ha))⟩
          try have hfit0 : ∀ u ∈ ([] : List (List UInt8)), u.length ≤ 1048576 ∧ ∀ a ∈ del1 q.1 q.2, a.length ≤ u.length := fun u hu => by cases hu
          refine T_exit ?_
          refine T_seq ?_
          refine T_region hc ?_
          refine Ch.step (v := (.row 8)) rfl (.pure (.move _ rfl rfl)) rfl rfl ?_
          refine Ch.step (v := (.row 8)) rfl (.pure (.assign _ rfl rfl)) rfl rfl ?_
          refine Ch.step (v := (.d (.bool true))) rfl (.pure (.assign _ rfl rfl)) rfl rfl ?_
          refine Ch.nil ?_
          refine T_ret ?_
          refine And.intro (.inr rfl) ?_
          exact Exists.intro [(.row 8), (.d (.bool true))] (Exists.intro [] (Exists.intro [8] (And.intro (.cons (.tmp 6 rfl) (.cons (.tmp 7 rfl) .nil)) (And.intro (.cons (.any _) (.cons (.any _) (.cons (.any _) .nil))) (And.intro (.tup (.cons (Exp.of (congrArg (D.slice true 1) (by first | (rw [irrR, irrOk, h1]; rfl) | (rw [irrR, irrOk, h1, h2]; rfl) | (rw [irrR, irrOk, h1, h2, h3]; rfl) | (rw [irrOk, h1]; rfl) | (rw [irrOk, h1, h2]; rfl) | (rw [irrOk, h1, h2, h3]; rfl) | (have e := irr_done (on := on) (out := q.1) (k := q.2) (by omega); rw [irrR, irrOk, h1, h2, h3, ← e, hp0.eq]; rfl) | (have e := irr_done (on := on) (out := q.1) (k := q.2) (by omega); rw [irrR, irrOk, h1, h2, h3, if_pos rfl, ← hp0.eq, e]))) (.row rfl)) (.cons (Exp.of (congrArg D.bool (by first | (rw [irrR, irrOk, h1]; rfl) | (rw [irrR, irrOk, h1, h2]; rfl) | (rw [irrR, irrOk, h1, h2, h3]; rfl) | (rw [irrOk, h1]; rfl) | (rw [irrOk, h1, h2]; rfl) | (rw [irrOk, h1, h2, h3]; rfl) | (have e := irr_done (on := on) (out := q.1) (k := q.2) (by omega); rw [irrR, irrOk, h1, h2, h3, ← e, hp0.eq]; rfl) | (have e := irr_done (on := on) (out := q.1) (k := q.2) (by omega); rw [irrR, irrOk, h1, h2, h3, if_pos rfl, ← hp0.eq, e]))) (.d _)) .nil))) (And.intro rfl rfl))))))
    | false =>
      try have hg := good_len h2
      try have hl := fits_of hop.1.2 hop.2.2.2.1 hg
      try have hl0 : ∀ u ∈ ([] : List (List UInt8)), u.length ≤ 1048576 ∧ ∀ a ∈ l, a.length ≤ u.length := fun u hu => by cases hu
      refine Ch.skip rfl rfl ?_
      refine Ch.skip rfl rfl ?_
      refine Ch.skip rfl rfl ?_
      refine Ch.skip rfl rfl ?_
      refine Ch.step (v := (.d (.bool true))) rfl (.pure (.pickT _ _ _ rfl rfl rfl)) rfl rfl ?_
      refine Ch.nil ?_
      refine T_cond (b := true) rfl (fun _ => ?_) (fun h => nomatch h)
      refine T_seq ?_
      refine T_region hc ?_
      refine Ch.step (v := (.c (.slice none 0 0))) rfl (.pure (.assign _ rfl rfl)) rfl rfl ?_
      refine Ch.step (v := (.d (.bool false))) rfl (.pure (.assign _ rfl rfl)) rfl rfl ?_
      refine Ch.nil ?_
      refine T_ret ?_
      refine And.intro (.inr rfl) ?_
      exact Exists.intro [(.c (.slice none 0 0)), (.d (.bool false))] (Exists.intro [] (Exists.intro [] (And.intro (.cons (.tmp 6 rfl) (.cons (.tmp 7 rfl) .nil)) (And.intro (.cons (.any _) (.cons (.any _) (.cons (.any _) .nil))) (And.intro (.tup (.cons (Exp.of (congrArg (D.slice true 1) (by first | (rw [irrR, irrOk, h1]; rfl) | (rw [irrR, irrOk, h1, h2]; rfl) | (rw [irrR, irrOk, h1, h2, h3]; rfl) | (rw [irrOk, h1]; rfl) | (rw [irrOk, h1, h2]; rfl) | (rw [irrOk, h1, h2, h3]; rfl) | (have e := irr_done (on := on) (out := q.1) (k := q.2) (by omega); rw [irrR, irrOk, h1, h2, h3, ← e, hp0.eq]; rfl) | (have e := irr_done (on := on) (out := q.1) (k := q.2) (by omega); rw [irrR, irrOk, h1, h2, h3, if_pos rfl, ← hp0.eq, e]))) (.nil true 1)) (.cons (Exp.of (congrArg D.bool (by first | (rw [irrR, irrOk, h1]; rfl) | (rw [irrR, irrOk, h1, h2]; rfl) | (rw [irrR, irrOk, h1, h2, h3]; rfl) | (rw [irrOk, h1]; rfl) | (rw [irrOk, h1, h2]; rfl) | (rw [irrOk, h1, h2, h3]; rfl) | (have e := irr_done (on := on) (out := q.1) (k := q.2) (by omega); rw [irrR, irrOk, h1, h2, h3, ← e, hp0.eq]; rfl) | (have e := irr_done (on := on) (out := q.1) (k := q.2) (by omega); rw [irrR, irrOk, h1, h2, h3, if_pos rfl, ← hp0.eq, e]))) (.d _)) .nil))) (And.intro rfl rfl))))))
  | false =>
    try have hop := onoff_parts h1
    refine Ch.skip rfl rfl ?_
    refine Ch.skip rfl rfl ?_
    refine Ch.skip rfl rfl ?_
    refine Ch.skip rfl rfl ?_
    refine Ch.step (v := (.d (.bool true))) rfl (.pure (.pickT _ _ _ rfl rfl rfl)) rfl rfl ?_
    refine Ch.step (v := (.d (.bool true))) rfl (.pure (.move _ rfl rfl)) rfl rfl ?_
    refine Ch.skip rfl rfl ?_
    refine Ch.skip rfl rfl ?_
    refine Ch.skip rfl rfl ?_
    refine Ch.skip rfl rfl ?_
    refine Ch.step (v := (.d (.bool true))) rfl (.pure (.pickT _ _ _ rfl rfl rfl)) rfl rfl ?_
    refine Ch.nil ?_
    refine T_cond (b := true) rfl (fun _ => ?_) (fun h => nomatch h)
    refine T_seq ?_
    refine T_region hc ?_
    refine Ch.step (v := (.c (.slice none 0 0))) rfl (.pure (.assign _ rfl rfl)) rfl rfl ?_
    refine Ch.step (v := (.d (.bool false))) rfl (.pure (.assign _ rfl rfl)) rfl rfl ?_
    refine Ch.nil ?_
    refine T_ret ?_
    refine And.intro (.inr rfl) ?_
    exact Exists.intro [(.c (.slice none 0 0)), (.d (.bool false))] (Exists.intro [] (Exists.intro [] (And.intro (.cons (.tmp 6 rfl) (.cons (.tmp 7 rfl) .nil)) (And.intro (.cons (.any _) (.cons (.any _) (.cons (.any _) .nil))) (And.intro (.tup (.cons (Exp.of (congrArg (D.slice true 1) (by first | (rw [irrR, irrOk, h1]; rfl) | (rw [irrR, irrOk, h1, h2]; rfl) | (rw [irrR, irrOk, h1, h2, h3]; rfl) | (rw [irrOk, h1]; rfl) | (rw [irrOk, h1, h2]; rfl) | (rw [irrOk, h1, h2, h3]; rfl) | (have e := irr_done (on := on) (out := q.1) (k := q.2) (by omega); rw [irrR, irrOk, h1, h2, h3, ← e, hp0.eq]; rfl) | (have e := irr_done (on := on) (out := q.1) (k := q.2) (by omega); rw [irrR, irrOk, h1, h2, h3, if_pos rfl, ← hp0.eq, e]))) (.nil true 1)) (.cons (Exp.of (congrArg D.bool (by first | (rw [irrR, irrOk, h1]; rfl) | (rw [irrR, irrOk, h1, h2]; rfl) | (rw [irrR, irrOk, h1, h2, h3]; rfl) | (rw [irrOk, h1]; rfl) | (rw [irrOk, h1, h2]; rfl) | (rw [irrOk, h1, h2, h3]; rfl) | (have e := irr_done (on := on) (out := q.1) (k := q.2) (by omega); rw [irrR, irrOk, h1, h2, h3, ← e, hp0.eq]; rfl) | (have e := irr_done (on := on) (out := q.1) (k := q.2) (by omega); rw [irrR, irrOk, h1, h2, h3, if_pos rfl, ← hp0.eq, e]))) (.d _)) .nil))) (And.intro rfl rfl))))))

theorem sp_laws_FnExactIrredundant (n : Int) (on l : List (List UInt8)) (hn1 : on.length ≤ 9223372036854775807) (hx1 : ∀ x ∈ on, x.length ≤ 9223372036854775807) (hn : l.length ≤ 9223372036854775807) (hx : ∀ x ∈ l, x.length ≤ 9223372036854775807) : Sp Try.prog 10 [(.int .i64 n), (.slice false 1 (on.map D.str)), (.slice false 1 (l.map D.str))] [.any, .any, .any] (.bool true) := by
  refine Sp_intro (lend := true) Try.func10 rfl rfl rfl (fun _ => rfl) (fun c hc hX => ?_)
  refine T_seq ?_
  refine T_region hc ?_
  refine Ch.step (v := (.d (.bool false))) rfl (.pure (.assign _ rfl rfl)) rfl rfl ?_
  refine Ch.nil ?_
  refine T_seq ?_
  refine T_region hc ?_
  refine Ch.step (v := (.d (.int .i64 1048576))) rfl (.pure (.assign _ rfl rfl)) rfl rfl ?_
  refine Ch.nil ?_
  refine T_seq ?_
  refine T_region hc ?_
  refine Ch.step (v := (.d (.slice false 1 (on.map D.str)))) rfl (.pure (.move _ rfl rfl)) rfl rfl ?_
  refine Ch.step (v := (.d (.int .i64 1048576))) rfl (.pure (.move _ rfl rfl)) rfl rfl ?_
  refine Ch.step (v := (.d (.int .i64 (szS on 1048576)))) rfl (.call 21000 17 _ _ _ en17 rfl (.inl rfl) (.cons (.d _) (.cons (.d _) .nil)) rfl rfl (sp_laws_szStringS on 1048576 (by first | omega | assumption | (exact hx _ (getD_mem (by omega))) | (exact hx _ (by assumption)) | (exact Nat.le_trans (hx _ (by assumption)) (by omega)) | (simp only [List.length_append, List.length_take, List.length_drop, List.length_cons, List.length_nil]; omega) | (simp_all; done)) (by first | omega | assumption | (exact hx _ (getD_mem (by omega))) | (exact hx _ (by assumption)) | (exact Nat.le_trans (hx _ (by assumption)) (by omega)) | (simp only [List.length_append, List.length_take, List.length_drop, List.length_cons, List.length_nil]; omega) | (simp_all; done)) (by first | omega | assumption | (exact hx _ (getD_mem (by omega))) | (exact hx _ (by assumption)) | (exact Nat.le_trans (hx _ (by assumption)) (by omega)) | (simp only [List.length_append, List.length_take, List.length_drop, List.length_cons, List.length_nil]; omega) | (simp_all; done)) (by first | omega | assumption | (exact hx _ (getD_mem (by omega))) | (exact hx _ (by assumption)) | (exact Nat.le_trans (hx _ (by assumption)) (by omega)) | (simp only [List.length_append, List.length_take, List.length_drop, List.length_cons, List.length_nil]; omega) | (simp_all; done))) (.skip _ _ (.skip _ _ .nil)) rfl) rfl rfl ?_
  refine Ch.step (v := (.d (.int .i64 (szS on 1048576)))) rfl (.pure (.assign _ rfl rfl)) rfl rfl ?_
  refine Ch.nil ?_
  refine T_seq ?_
  refine T_seq ?_
  refine T_region hc ?_
  refine Ch.step (v := (.d (.int .i64 (szS on 1048576)))) rfl (.pure (.move _ rfl rfl)) rfl rfl ?_
  refine Ch.step (v := (.d (.bool (decide ((szS on 1048576) < 0))))) rfl (.pure (.int _ _ _ _ _ rfl rfl rfl rfl)) rfl rfl ?_
  refine Ch.nil ?_
  refine T_cond (b := (decide ((szS on 1048576) < 0))) rfl (fun h1 => ?_) (fun h1 => ?_)
  · replace h1 := of_decide_eq_true h1
    try have hb1 := szS_ok (xs := on) h1
    try have hc1 : bulkS on ≤ 1048576 := by omega
    try replace hn1 := bulk_len hc1
    try replace hx1 := bulk_mem hc1
    try have hz1 := szS_val hb1
    try have hz1a : 0 ≤ szS on _ := Int.not_lt.1 h1
    try have hz1b : szS on _ ≤ 1048576 := by (rw [hz1]; omega)
    refine T_seq ?_
    refine T_region hc ?_
    refine Ch.step (v := (.d (.bool true))) rfl (.pure (.assign _ rfl rfl)) rfl rfl ?_
    refine Ch.nil ?_
    refine T_ret ?_
    refine And.intro (.inr rfl) ?_
    exact Exists.intro [(.d (.bool true))] (Exists.intro [] (Exists.intro [] (And.intro (.cons (.tmp 6 rfl) .nil) (And.intro (.cons (.any _) (.cons (.any _) (.cons (.any _) .nil))) (And.intro (.d _) (And.intro rfl rfl))))))
  · replace h1 := of_decide_eq_false h1
    try have hb1 := szS_ok (xs := on) h1
    try have hc1 : bulkS on ≤ 1048576 := by omega
    try replace hn1 := bulk_len hc1
    try replace hx1 := bulk_mem hc1
    try have hz1 := szS_val hb1
    try have hz1a : 0 ≤ szS on _ := Int.not_lt.1 h1
    try have hz1b : szS on _ ≤ 1048576 := by (rw [hz1]; omega)
    refine T_skip ?_
    refine T_seq ?_
    refine T_region hc ?_
    refine Ch.step (v := (.d (.slice false 1 (l.map D.str)))) rfl (.pure (.move _ rfl rfl)) rfl rfl ?_
    refine Ch.step (v := (.d (.int .i64 (szS on 1048576)))) rfl (.pure (.move _ rfl rfl)) rfl rfl ?_
    refine Ch.step (v := (.d (.int .i64 (szS l (szS on 1048576))))) rfl (.call 26000 17 _ _ _ en17 rfl (.inl rfl) (.cons (.d _) (.cons (.d _) .nil)) rfl rfl (sp_laws_szStringS l (szS on 1048576) (by first | omega | assumption | (exact hx _ (getD_mem (by omega))) | (exact hx _ (by assumption)) | (exact Nat.le_trans (hx _ (by assumption)) (by omega)) | (simp only [List.length_append, List.length_take, List.length_drop, List.length_cons, List.length_nil]; omega) | (simp_all; done)) (by first | omega | assumption | (exact hx _ (getD_mem (by omega))) | (exact hx _ (by assumption)) | (exact Nat.le_trans (hx _ (by assumption)) (by omega)) | (simp only [List.length_append, List.length_take, List.length_drop, List.length_cons, List.length_nil]; omega) | (simp_all; done)) (by first | omega | assumption | (exact hx _ (getD_mem (by omega))) | (exact hx _ (by assumption)) | (exact Nat.le_trans (hx _ (by assumption)) (by omega)) | (simp only [List.length_append, List.length_take, List.length_drop, List.length_cons, List.length_nil]; omega) | (simp_all; done)) (by first | omega | assumption | (exact hx _ (getD_mem (by omega))) | (exact hx _ (by assumption)) | (exact Nat.le_trans (hx _ (by assumption)) (by omega)) | (simp only [List.length_append, List.length_take, List.length_drop, List.length_cons, List.length_nil]; omega) | (simp_all; done))) (.skip _ _ (.skip _ _ .nil)) rfl) rfl rfl ?_
    refine Ch.step (v := (.d (.int .i64 (szS l (szS on 1048576))))) rfl (.pure (.assign _ rfl rfl)) rfl rfl ?_
    refine Ch.nil ?_
    refine T_seq ?_
    refine T_seq ?_
    refine T_region hc ?_
    refine Ch.step (v := (.d (.int .i64 (szS l (szS on 1048576))))) rfl (.pure (.move _ rfl rfl)) rfl rfl ?_
    refine Ch.step (v := (.d (.bool (decide ((szS l (szS on 1048576)) < 0))))) rfl (.pure (.int _ _ _ _ _ rfl rfl rfl rfl)) rfl rfl ?_
    refine Ch.nil ?_
    refine T_cond (b := (decide ((szS l (szS on 1048576)) < 0))) rfl (fun h2 => ?_) (fun h2 => ?_)
    · replace h2 := of_decide_eq_true h2
      try have hb2 := szS_ok (xs := l) h2
      try have hc2 : bulkS l ≤ 1048576 := by omega
      try replace hn := bulk_len hc2
      try replace hx := bulk_mem hc2
      try have hz2 := szS_val hb2
      try have hz2a : 0 ≤ szS l _ := Int.not_lt.1 h2
      try have hz2b : szS l _ ≤ 1048576 := by (rw [hz2]; omega)
      try have hcl : (irrR n on l).length ≤ 1048576 := Nat.le_trans (irrR_le n on l) hn
      try have hhm := held_marks 1 (irrR n on l).length
      refine T_seq ?_
      refine T_region hc ?_
      refine Ch.step (v := (.d (.bool true))) rfl (.pure (.assign _ rfl rfl)) rfl rfl ?_
      refine Ch.nil ?_
      refine T_ret ?_
      refine And.intro (.inr rfl) ?_
      exact Exists.intro [(.d (.bool true))] (Exists.intro [] (Exists.intro [] (And.intro (.cons (.tmp 6 rfl) .nil) (And.intro (.cons (.any _) (.cons (.any _) (.cons (.any _) .nil))) (And.intro (.d _) (And.intro rfl rfl))))))
    · replace h2 := of_decide_eq_false h2
      try have hb2 := szS_ok (xs := l) h2
      try have hc2 : bulkS l ≤ 1048576 := by omega
      try replace hn := bulk_len hc2
      try replace hx := bulk_mem hc2
      try have hz2 := szS_val hb2
      try have hz2a : 0 ≤ szS l _ := Int.not_lt.1 h2
      try have hz2b : szS l _ ≤ 1048576 := by (rw [hz2]; omega)
      try have hcl : (irrR n on l).length ≤ 1048576 := Nat.le_trans (irrR_le n on l) hn
      try have hhm := held_marks 1 (irrR n on l).length
      refine T_skip ?_
      refine T_seq ?_
      refine T_region hc ?_
      refine Ch.step (v := (.d (.int .i64 n))) rfl (.pure (.move _ rfl rfl)) rfl rfl ?_
      refine Ch.step (v := (.d (.slice false 1 (on.map D.str)))) rfl (.pure (.move _ rfl rfl)) rfl rfl ?_
      refine Ch.step (v := (.row 32000)) rfl (.call 32000 19 _ _ _ en19 rfl (.inl rfl) (.cons (.d _) .nil) rfl (sol (solid_row (fun _ => rfl) _) rfl) (sp_laws_toStringS on (by first | omega | assumption | (exact hx _ (getD_mem (by omega))) | (exact hx _ (by assumption)) | (exact Nat.le_trans (hx _ (by assumption)) (by omega)) | (simp only [List.length_append, List.length_take, List.length_drop, List.length_cons, List.length_nil]; omega) | (simp_all; done))) (.skip _ _ .nil) rfl) rfl rfl ?_
      refine Ch.step (v := (.d (.slice false 1 (l.map D.str)))) rfl (.pure (.move _ rfl rfl)) rfl rfl ?_
      refine Ch.step (v := (.row 34000)) rfl (.call 34000 19 _ _ _ en19 rfl (.inl rfl) (.cons (.d _) .nil) rfl (sol (solid_row (fun _ => rfl) _) rfl) (sp_laws_toStringS l (by first | omega | assumption | (exact hx _ (getD_mem (by omega))) | (exact hx _ (by assumption)) | (exact Nat.le_trans (hx _ (by assumption)) (by omega)) | (simp only [List.length_append, List.length_take, List.length_drop, List.length_cons, List.length_nil]; omega) | (simp_all; done))) (.skip _ _ .nil) rfl) rfl rfl ?_
      refine Ch.step (v := (.tup [(.row 35000), (.d (.bool (irrOk n on l)))])) rfl (.call 35000 45 _ _ _ en45 rfl (.inl rfl) (.cons (.d _) (.cons (.lend (.row rfl (frozs_map (fun _ => rfl) _))) (.cons (.lend (.row rfl (frozs_map (fun _ => rfl) _))) .nil))) rfl (sol (by rw [D.solid]; exact solids_c (solid_row (fun _ => rfl) _) rfl) rfl) (sp_spec_Irredundant n on l (by first | omega | assumption | (exact hx _ (getD_mem (by omega))) | (exact hx _ (by assumption)) | (exact Nat.le_trans (hx _ (by assumption)) (by omega)) | (simp only [List.length_append, List.length_take, List.length_drop, List.length_cons, List.length_nil]; omega) | (simp_all; done)) (by first | omega | assumption | (exact hx _ (getD_mem (by omega))) | (exact hx _ (by assumption)) | (exact Nat.le_trans (hx _ (by assumption)) (by omega)) | (simp only [List.length_append, List.length_take, List.length_drop, List.length_cons, List.length_nil]; omega) | (simp_all; done)) (by first | omega | assumption | (exact hx _ (getD_mem (by omega))) | (exact hx _ (by assumption)) | (exact Nat.le_trans (hx _ (by assumption)) (by omega)) | (simp only [List.length_append, List.length_take, List.length_drop, List.length_cons, List.length_nil]; omega) | (simp_all; done)) (by first | omega | assumption | (exact hx _ (getD_mem (by omega))) | (exact hx _ (by assumption)) | (exact Nat.le_trans (hx _ (by assumption)) (by omega)) | (simp only [List.length_append, List.length_take, List.length_drop, List.length_cons, List.length_nil]; omega) | (simp_all; done))) (.skip _ _ (.skip _ _ (.skip _ _ .nil))) rfl) rfl rfl ?_
      refine Ch.step (v := (.tup [(.row 35000), (.d (.bool (irrOk n on l)))])) rfl (.pure (.move _ rfl rfl)) rfl rfl ?_
      refine Ch.step (v := (.row 35000)) rfl (.pure (.extract _ rfl rfl rfl)) rfl rfl ?_
      refine Ch.step (v := (.d (.bool (irrOk n on l)))) rfl (.pure (.extract _ rfl rfl rfl)) rfl rfl ?_
      refine Ch.step (v := (.row 35000)) rfl (.pure (.assign _ rfl rfl)) rfl rfl ?_
      refine Ch.step (v := (.d (.bool (irrOk n on l)))) rfl (.pure (.assign _ rfl rfl)) rfl rfl ?_
      refine Ch.nil ?_
      refine T_seq ?_
      refine T_region hc ?_
      refine Ch.step (v := (.d (.slice false 1 (on.map D.str)))) rfl (.pure (.move _ rfl rfl)) rfl rfl ?_
      refine Ch.step (v := (.row 39000)) rfl (.call 39000 19 _ _ _ en19 rfl (.inl rfl) (.cons (.d _) .nil) rfl (sol (solid_row (fun _ => rfl) _) rfl) (sp_laws_toStringS on (by first | omega | assumption | (exact hx _ (getD_mem (by omega))) | (exact hx _ (by assumption)) | (exact Nat.le_trans (hx _ (by assumption)) (by omega)) | (simp only [List.length_append, List.length_take, List.length_drop, List.length_cons, List.length_nil]; omega) | (simp_all; done))) (.skip _ _ .nil) rfl) rfl rfl ?_
      refine Ch.step (v := (.row 39000)) rfl (.pure (.assign _ rfl rfl)) rfl rfl ?_
      refine Ch.nil ?_
      refine T_seq ?_
      refine T_region hc ?_
      refine Ch.step (v := (.d (.slice false 1 (l.map D.str)))) rfl (.pure (.move _ rfl rfl)) rfl rfl ?_
      refine Ch.step (v := (.row 41000)) rfl (.call 41000 19 _ _ _ en19 rfl (.inl rfl) (.cons (.d _) .nil) rfl (sol (solid_row (fun _ => rfl) _) rfl) (sp_laws_toStringS l (by first | omega | assumption | (exact hx _ (getD_mem (by omega))) | (exact hx _ (by assumption)) | (exact Nat.le_trans (hx _ (by assumption)) (by omega)) | (simp only [List.length_append, List.length_take, List.length_drop, List.length_cons, List.length_nil]; omega) | (simp_all; done))) (.skip _ _ .nil) rfl) rfl rfl ?_
      refine Ch.step (v := (.row 41000)) rfl (.pure (.assign _ rfl rfl)) rfl rfl ?_
      refine Ch.nil ?_
      refine T_seq ?_
      refine T_region hc ?_
      refine Ch.step (v := (.d (.int .i64 n))) rfl (.pure (.move _ rfl rfl)) rfl rfl ?_
      refine Ch.step (v := (.row 39000)) rfl (.pure (.move _ rfl rfl)) rfl rfl ?_
      refine Ch.step (v := (.row 41000)) rfl (.pure (.move _ rfl rfl)) rfl rfl ?_
      refine Ch.step (v := (.tup [(.row 46000), (.d (.bool (irrOk n on l)))])) rfl (.call 46000 46 _ _ _ en46 rfl (.inl rfl) (.cons (.d _) (.cons (.lend (.row rfl (frozs_map (fun _ => rfl) _))) (.cons (.lend (.row rfl (frozs_map (fun _ => rfl) _))) .nil))) rfl (sol (by rw [D.solid]; exact solids_c (solid_row (fun _ => rfl) _) rfl) rfl) (sp_impl_Irredundant n on l (by first | omega | assumption | (exact hx _ (getD_mem (by omega))) | (exact hx _ (by assumption)) | (exact Nat.le_trans (hx _ (by assumption)) (by omega)) | (simp only [List.length_append, List.length_take, List.length_drop, List.length_cons, List.length_nil]; omega) | (simp_all; done)) (by first | omega | assumption | (exact hx _ (getD_mem (by omega))) | (exact hx _ (by assumption)) | (exact Nat.le_trans (hx _ (by assumption)) (by omega)) | (simp only [List.length_append, List.length_take, List.length_drop, List.length_cons, List.length_nil]; omega) | (simp_all; done)) (by first | omega | assumption | (exact hx _ (getD_mem (by omega))) | (exact hx _ (by assumption)) | (exact Nat.le_trans (hx _ (by assumption)) (by omega)) | (simp only [List.length_append, List.length_take, List.length_drop, List.length_cons, List.length_nil]; omega) | (simp_all; done)) (by first | omega | assumption | (exact hx _ (getD_mem (by omega))) | (exact hx _ (by assumption)) | (exact Nat.le_trans (hx _ (by assumption)) (by omega)) | (simp only [List.length_append, List.length_take, List.length_drop, List.length_cons, List.length_nil]; omega) | (simp_all; done))) (.skip _ _ (.skip _ _ (.skip _ _ .nil))) rfl) rfl rfl ?_
      refine Ch.step (v := (.tup [(.row 46000), (.d (.bool (irrOk n on l)))])) rfl (.pure (.move _ rfl rfl)) rfl rfl ?_
      refine Ch.step (v := (.row 46000)) rfl (.pure (.extract _ rfl rfl rfl)) rfl rfl ?_
      refine Ch.step (v := (.d (.bool (irrOk n on l)))) rfl (.pure (.extract _ rfl rfl rfl)) rfl rfl ?_
      refine Ch.step (v := (.row 46000)) rfl (.pure (.assign _ rfl rfl)) rfl rfl ?_
      refine Ch.step (v := (.d (.bool (irrOk n on l)))) rfl (.pure (.assign _ rfl rfl)) rfl rfl ?_
      refine Ch.nil ?_
      refine T_seq ?_
      refine T_seq ?_
      refine T_region hc ?_
      refine Ch.step (v := (.row 46000)) rfl (.pure (.move _ rfl rfl)) rfl rfl ?_
      refine Ch.step (v := (.row 35000)) rfl (.pure (.move _ rfl rfl)) rfl rfl ?_
      refine Ch.step (v := (.d (.bool (decide ((irrR n on l) = (irrR n on l)))))) rfl (.call 51000 21 _ _ _ en21 rfl (.inl rfl) (.cons (.lend (.row rfl (frozs_map (fun _ => rfl) _))) (.cons (.lend (.row rfl (frozs_map (fun _ => rfl) _))) .nil)) rfl rfl (sp_laws_eqStringS (irrR n on l) (irrR n on l) (by first | omega | assumption | (exact hx _ (getD_mem (by omega))) | (exact hx _ (by assumption)) | (exact Nat.le_trans (hx _ (by assumption)) (by omega)) | (simp only [List.length_append, List.length_take, List.length_drop, List.length_cons, List.length_nil]; omega) | (simp_all; done))) (.skip _ _ (.skip _ _ .nil)) rfl) rfl rfl ?_
      refine Ch.step (v := (.d (.bool (!(decide ((irrR n on l) = (irrR n on l))))))) rfl (.pure (.not _ _ rfl rfl)) rfl rfl ?_
      refine Ch.step (v := (.d (.bool (!(decide ((irrR n on l) = (irrR n on l))))))) rfl (.pure (.move _ rfl rfl)) rfl rfl ?_
      cases h3 : (decide ((irrR n on l) = (irrR n on l))) with
      | true =>
        replace h3 := of_decide_eq_true h3
        refine Ch.step (v := (.d (.bool (irrOk n on l)))) rfl (.pure (.move _ rfl rfl)) rfl rfl ?_
        refine Ch.step (v := (.d (.bool (irrOk n on l)))) rfl (.pure (.move _ rfl rfl)) rfl rfl ?_
        refine Ch.step (v := (.d (.bool (!(decide ((irrOk n on l) = (irrOk n on l))))))) rfl (.pure (.neB _ _ _ _ rfl Try.underlying4 rfl rfl)) rfl rfl ?_
        refine Ch.step (v := (.d (.bool (!(decide ((irrOk n on l) = (irrOk n on l))))))) rfl (.pure (.pickF _ _ _ rfl rfl rfl)) rfl rfl ?_
        refine Ch.nil ?_
        refine T_cond (b := (!(decide ((irrOk n on l) = (irrOk n on l))))) rfl (fun h4 => ?_) (fun h4 => ?_)
        · replace h4 := nott h4
          replace h4 := of_decide_eq_false h4
          refine T_seq ?_
          refine T_region hc ?_
          refine Ch.step (v := (.d (.bool false))) rfl (.pure (.assign _ rfl rfl)) rfl rfl ?_
          refine Ch.nil ?_
          refine T_ret ?_
          refine And.intro (.inr rfl) ?_
          exact Exists.intro [(.d (.bool false))] (Exists.intro [] (Exists.intro [] (And.intro (.cons (.tmp 6 rfl) .nil) (And.intro (.cons (.any _) (.cons (.any _) (.cons (.any _) .nil))) (And.intro (Exp.of (congrArg D.bool (by first | rfl | (simp_all; done) | (exfalso; omega) | (exfalso; simp_all; omega))) (.d _)) (And.intro rfl rfl))))))
        · replace h4 := notf h4
          replace h4 := of_decide_eq_true h4
          refine T_skip ?_
          refine T_seq ?_
          refine T_seq ?_
          refine T_region hc ?_
          refine Ch.step (v := (.row 39000)) rfl (.pure (.move _ rfl rfl)) rfl rfl ?_
          refine Ch.step (v := (.d (.slice false 1 (on.map D.str)))) rfl (.pure (.move _ rfl rfl)) rfl rfl ?_
          refine Ch.step (v := (.row 60000)) rfl (.call 60000 19 _ _ _ en19 rfl (.inl rfl) (.cons (.d _) .nil) rfl (sol (solid_row (fun _ => rfl) _) rfl) (sp_laws_toStringS on (by first | omega | assumption | (exact hx _ (getD_mem (by omega))) | (exact hx _ (by assumption)) | (exact Nat.le_trans (hx _ (by assumption)) (by omega)) | (simp only [List.length_append, List.length_take, List.length_drop, List.length_cons, List.length_nil]; omega) | (simp_all; done))) (.skip _ _ .nil) rfl) rfl rfl ?_
          refine Ch.step (v := (.d (.bool (decide (on = on))))) rfl (.call 61000 21 _ _ _ en21 rfl (.inl rfl) (.cons (.lend (.row rfl (frozs_map (fun _ => rfl) _))) (.cons (.lend (.row rfl (frozs_map (fun _ => rfl) _))) .nil)) rfl rfl (sp_laws_eqStringS on on (by first | omega | assumption | (exact hx _ (getD_mem (by omega))) | (exact hx _ (by assumption)) | (exact Nat.le_trans (hx _ (by assumption)) (by omega)) | (simp only [List.length_append, List.length_take, List.length_drop, List.length_cons, List.length_nil]; omega) | (simp_all; done))) (.skip _ _ (.skip _ _ .nil)) rfl) rfl rfl ?_
          refine Ch.step (v := (.d (.bool (!(decide (on = on)))))) rfl (.pure (.not _ _ rfl rfl)) rfl rfl ?_
          refine Ch.nil ?_
          refine T_cond (b := (!(decide (on = on)))) rfl (fun h5 => ?_) (fun h5 => ?_)
          · replace h5 := nott h5
            replace h5 := of_decide_eq_false h5
            refine T_seq ?_
            refine T_region hc ?_
            refine Ch.step (v := (.d (.bool false))) rfl (.pure (.assign _ rfl rfl)) rfl rfl ?_
            refine Ch.nil ?_
            refine T_ret ?_
            refine And.intro (.inr rfl) ?_
            exact Exists.intro [(.d (.bool false))] (Exists.intro [] (Exists.intro [] (And.intro (.cons (.tmp 6 rfl) .nil) (And.intro (.cons (.any _) (.cons (.any _) (.cons (.any _) .nil))) (And.intro (Exp.of (congrArg D.bool (by first | rfl | (simp_all; done) | (exfalso; omega) | (exfalso; simp_all; omega))) (.d _)) (And.intro rfl rfl))))))
          · replace h5 := notf h5
            replace h5 := of_decide_eq_true h5
            refine T_skip ?_
            refine T_seq ?_
            refine T_seq ?_
            refine T_region hc ?_
            refine Ch.step (v := (.row 41000)) rfl (.pure (.move _ rfl rfl)) rfl rfl ?_
            refine Ch.step (v := (.d (.slice false 1 (l.map D.str)))) rfl (.pure (.move _ rfl rfl)) rfl rfl ?_
            refine Ch.step (v := (.row 65000)) rfl (.call 65000 19 _ _ _ en19 rfl (.inl rfl) (.cons (.d _) .nil) rfl (sol (solid_row (fun _ => rfl) _) rfl) (sp_laws_toStringS l (by first | omega | assumption | (exact hx _ (getD_mem (by omega))) | (exact hx _ (by assumption)) | (exact Nat.le_trans (hx _ (by assumption)) (by omega)) | (simp only [List.length_append, List.length_take, List.length_drop, List.length_cons, List.length_nil]; omega) | (simp_all; done))) (.skip _ _ .nil) rfl) rfl rfl ?_
            refine Ch.step (v := (.d (.bool (decide (l = l))))) rfl (.call 66000 21 _ _ _ en21 rfl (.inl rfl) (.cons (.lend (.row rfl (frozs_map (fun _ => rfl) _))) (.cons (.lend (.row rfl (frozs_map (fun _ => rfl) _))) .nil)) rfl rfl (sp_laws_eqStringS l l (by first | omega | assumption | (exact hx _ (getD_mem (by omega))) | (exact hx _ (by assumption)) | (exact Nat.le_trans (hx _ (by assumption)) (by omega)) | (simp only [List.length_append, List.length_take, List.length_drop, List.length_cons, List.length_nil]; omega) | (simp_all; done))) (.skip _ _ (.skip _ _ .nil)) rfl) rfl rfl ?_
            refine Ch.step (v := (.d (.bool (!(decide (l = l)))))) rfl (.pure (.not _ _ rfl rfl)) rfl rfl ?_
            refine Ch.nil ?_
            refine T_cond (b := (!(decide (l = l)))) rfl (fun h6 => ?_) (fun h6 => ?_)
            · replace h6 := nott h6
              replace h6 := of_decide_eq_false h6
              refine T_seq ?_
              refine T_region hc ?_
              refine Ch.step (v := (.d (.bool false))) rfl (.pure (.assign _ rfl rfl)) rfl rfl ?_
              refine Ch.nil ?_
              refine T_ret ?_
              refine And.intro (.inr rfl) ?_
              exact Exists.intro [(.d (.bool false))] (Exists.intro [] (Exists.intro [] (And.intro (.cons (.tmp 6 rfl) .nil) (And.intro (.cons (.any _) (.cons (.any _) (.cons (.any _) .nil))) (And.intro (Exp.of (congrArg D.bool (by first | rfl | (simp_all; done) | (exfalso; omega) | (exfalso; simp_all; omega))) (.d _)) (And.intro rfl rfl))))))
            · replace h6 := notf h6
              replace h6 := of_decide_eq_true h6
              refine T_skip ?_
              refine T_seq ?_
              refine T_region hc ?_
              refine Ch.step (v := (.d (.int .i64 1))) rfl (.pure (.assign _ rfl rfl)) rfl rfl ?_
              refine Ch.nil ?_
              refine T_seq ?_
              refine T_region hc ?_
              refine Ch.step (v := (.row 39000)) rfl (.pure (.move _ rfl rfl)) rfl rfl ?_
              refine Ch.step (v := (.d (.int .i64 1))) rfl (.pure (.move _ rfl rfl)) rfl rfl ?_
              refine Ch.step (v := (.d (.int .i64 ((1 + on.length : Nat) : Int)))) rfl (.call 70000 26 _ _ _ en26 rfl (.inl rfl) (.cons (.row rfl) (.cons (.d _) .nil)) rfl (sol rfl (solids_c (solid_row (fun _ => rfl) _) rfl)) (sp_laws_markStringS on 1 (by first | omega | assumption | (exact hx _ (getD_mem (by omega))) | (exact hx _ (by assumption)) | (exact Nat.le_trans (hx _ (by assumption)) (by omega)) | (simp only [List.length_append, List.length_take, List.length_drop, List.length_cons, List.length_nil]; omega) | (simp_all; done)) (by first | omega | assumption | (exact hx _ (getD_mem (by omega))) | (exact hx _ (by assumption)) | (exact Nat.le_trans (hx _ (by assumption)) (by omega)) | (simp only [List.length_append, List.length_take, List.length_drop, List.length_cons, List.length_nil]; omega) | (simp_all; done))) (.row _ _ _ (.skip _ _ .nil)) rfl) rfl rfl ?_
              refine Ch.step (v := (.d (.int .i64 ((1 + on.length : Nat) : Int)))) rfl (.pure (.assign _ rfl rfl)) rfl rfl ?_
              refine Ch.nil ?_
              refine T_seq ?_
              refine T_region hc ?_
              refine Ch.step (v := (.row 41000)) rfl (.pure (.move _ rfl rfl)) rfl rfl ?_
              refine Ch.step (v := (.d (.int .i64 ((1 + on.length : Nat) : Int)))) rfl (.pure (.move _ rfl rfl)) rfl rfl ?_
              refine Ch.step (v := (.d (.int .i64 (((1 + on.length) + l.length : Nat) : Int)))) rfl (.call 73000 26 _ _ _ en26 rfl (.inl rfl) (.cons (.row rfl) (.cons (.d _) .nil)) rfl (sol rfl (solids_c (solid_row (fun _ => rfl) _) rfl)) (sp_laws_markStringS l (1 + on.length) (by first | omega | assumption | (exact hx _ (getD_mem (by omega))) | (exact hx _ (by assumption)) | (exact Nat.le_trans (hx _ (by assumption)) (by omega)) | (simp only [List.length_append, List.length_take, List.length_drop, List.length_cons, List.length_nil]; omega) | (simp_all; done)) (by first | omega | assumption | (exact hx _ (getD_mem (by omega))) | (exact hx _ (by assumption)) | (exact Nat.le_trans (hx _ (by assumption)) (by omega)) | (simp only [List.length_append, List.length_take, List.length_drop, List.length_cons, List.length_nil]; omega) | (simp_all; done))) (.row _ _ _ (.skip _ _ .nil)) rfl) rfl rfl ?_
              refine Ch.step (v := (.d (.int .i64 (((1 + on.length) + l.length : Nat) : Int)))) rfl (.pure (.assign _ rfl rfl)) rfl rfl ?_
              refine Ch.nil ?_
              refine T_seq ?_
              refine T_seq ?_
              refine T_region hc ?_
              refine Ch.step (v := (.d (.int .i64 (((1 + on.length) + l.length : Nat) : Int)))) rfl (.pure (.move _ rfl rfl)) rfl rfl ?_
              refine Ch.step (v := (.d (.bool (decide ((((1 + on.length) + l.length : Nat) : Int) < 0))))) rfl (.pure (.int _ _ _ _ _ rfl rfl rfl rfl)) rfl rfl ?_
              refine Ch.step (v := (.d (.bool (decide ((((1 + on.length) + l.length : Nat) : Int) < 0))))) rfl (.pure (.move _ rfl rfl)) rfl rfl ?_
              cases h7 : (decide ((((1 + on.length) + l.length : Nat) : Int) < 0)) with
              | true =>
                replace h7 := of_decide_eq_true h7
                refine Ch.skip rfl rfl ?_
                refine Ch.skip rfl rfl ?_
                refine Ch.skip rfl rfl ?_
                refine Ch.skip rfl rfl ?_
                refine Ch.step (v := (.d (.bool true))) rfl (.pure (.pickT _ _ _ rfl rfl rfl)) rfl rfl ?_
                refine Ch.step (v := (.d (.bool true))) rfl (.pure (.move _ rfl rfl)) rfl rfl ?_
                refine Ch.skip rfl rfl ?_
                refine Ch.skip rfl rfl ?_
                refine Ch.skip rfl rfl ?_
                refine Ch.step (v := (.d (.bool true))) rfl (.pure (.pickT _ _ _ rfl rfl rfl)) rfl rfl ?_
                refine Ch.nil ?_
                refine T_cond (b := true) rfl (fun _ => ?_) (fun h => nomatch h)
                refine T_seq ?_
                refine T_region hc ?_
                refine Ch.step (v := (.d (.bool false))) rfl (.pure (.assign _ rfl rfl)) rfl rfl ?_
                refine Ch.nil ?_
                refine T_ret ?_
                refine And.intro (.inr rfl) ?_
                exact Exists.intro [(.d (.bool false))] (Exists.intro [] (Exists.intro [] (And.intro (.cons (.tmp 6 rfl) .nil) (And.intro (.cons (.any _) (.cons (.any _) (.cons (.any _) .nil))) (And.intro (Exp.of (congrArg D.bool (by first | rfl | (simp_all; done) | (exfalso; omega) | (exfalso; simp_all; omega))) (.d _)) (And.intro rfl rfl))))))
              | false =>
                replace h7 := of_decide_eq_false h7
                refine Ch.step (v := (.row 46000)) rfl (.pure (.move _ rfl rfl)) rfl rfl ?_
                refine Ch.step (v := (.row 35000)) rfl (.pure (.move _ rfl rfl)) rfl rfl ?_
                refine Ch.step (v := (.d (.bool (decide ((irrR n on l) = (irrR n on l)))))) rfl (.call 79000 21 _ _ _ en21 rfl (.inl rfl) (.cons (.lend (.row rfl (frozs_map (fun _ => rfl) _))) (.cons (.lend (.row rfl (frozs_map (fun _ => rfl) _))) .nil)) rfl rfl (sp_laws_eqStringS (irrR n on l) (irrR n on l) (by first | omega | assumption | (exact hx _ (getD_mem (by omega))) | (exact hx _ (by assumption)) | (exact Nat.le_trans (hx _ (by assumption)) (by omega)) | (simp only [List.length_append, List.length_take, List.length_drop, List.length_cons, List.length_nil]; omega) | (simp_all; done))) (.skip _ _ (.skip _ _ .nil)) rfl) rfl rfl ?_
                refine Ch.step (v := (.d (.bool (!(decide ((irrR n on l) = (irrR n on l))))))) rfl (.pure (.not _ _ rfl rfl)) rfl rfl ?_
                refine Ch.step (v := (.d (.bool (!(decide ((irrR n on l) = (irrR n on l))))))) rfl (.pure (.pickF _ _ _ rfl rfl rfl)) rfl rfl ?_
                refine Ch.step (v := (.d (.bool (!(decide ((irrR n on l) = (irrR n on l))))))) rfl (.pure (.move _ rfl rfl)) rfl rfl ?_
                cases h8 : (decide ((irrR n on l) = (irrR n on l))) with
                | true =>
                  replace h8 := of_decide_eq_true h8
                  refine Ch.step (v := (.d (.bool (irrOk n on l)))) rfl (.pure (.move _ rfl rfl)) rfl rfl ?_
                  refine Ch.step (v := (.d (.bool (irrOk n on l)))) rfl (.pure (.move _ rfl rfl)) rfl rfl ?_
                  refine Ch.step (v := (.d (.bool (!(decide ((irrOk n on l) = (irrOk n on l))))))) rfl (.pure (.neB _ _ _ _ rfl Try.underlying4 rfl rfl)) rfl rfl ?_
                  refine Ch.step (v := (.d (.bool (!(decide ((irrOk n on l) = (irrOk n on l))))))) rfl (.pure (.pickF _ _ _ rfl rfl rfl)) rfl rfl ?_
                  refine Ch.nil ?_
                  refine T_cond (b := (!(decide ((irrOk n on l) = (irrOk n on l))))) rfl (fun h9 => ?_) (fun h9 => ?_)
                  · replace h9 := nott h9
                    replace h9 := of_decide_eq_false h9
                    refine T_seq ?_
                    refine T_region hc ?_
                    refine Ch.step (v := (.d (.bool false))) rfl (.pure (.assign _ rfl rfl)) rfl rfl ?_
                    refine Ch.nil ?_
                    refine T_ret ?_
                    refine And.intro (.inr rfl) ?_
                    exact Exists.intro [(.d (.bool false))] (Exists.intro [] (Exists.intro [] (And.intro (.cons (.tmp 6 rfl) .nil) (And.intro (.cons (.any _) (.cons (.any _) (.cons (.any _) .nil))) (And.intro (Exp.of (congrArg D.bool (by first | rfl | (simp_all; done) | (exfalso; omega) | (exfalso; simp_all; omega))) (.d _)) (And.intro rfl rfl))))))
                  · replace h9 := notf h9
                    replace h9 := of_decide_eq_true h9
                    refine T_skip ?_
                    refine T_seq ?_
                    refine T_region hc ?_
                    refine Ch.step (v := (.d (.int .i64 1))) rfl (.pure (.assign _ rfl rfl)) rfl rfl ?_
                    refine Ch.nil ?_
                    refine T_seq ?_
                    refine T_region hc ?_
                    refine Ch.step (v := (.row 46000)) rfl (.pure (.move _ rfl rfl)) rfl rfl ?_
                    refine Ch.step (v := (.d (.int .i64 1))) rfl (.pure (.move _ rfl rfl)) rfl rfl ?_
                    refine Ch.step (v := (.d (.int .i64 ((1 + (irrR n on l).length : Nat) : Int)))) rfl (.call 89000 26 _ _ _ en26 rfl (.inl rfl) (.cons (.row rfl) (.cons (.d _) .nil)) rfl (sol rfl (solids_c (solid_row (fun _ => rfl) _) rfl)) (sp_laws_markStringS (irrR n on l) 1 (by first | omega | assumption | (exact hx _ (getD_mem (by omega))) | (exact hx _ (by assumption)) | (exact Nat.le_trans (hx _ (by assumption)) (by omega)) | (simp only [List.length_append, List.length_take, List.length_drop, List.length_cons, List.length_nil]; omega) | (simp_all; done)) (by first | omega | assumption | (exact hx _ (getD_mem (by omega))) | (exact hx _ (by assumption)) | (exact Nat.le_trans (hx _ (by assumption)) (by omega)) | (simp only [List.length_append, List.length_take, List.length_drop, List.length_cons, List.length_nil]; omega) | (simp_all; done))) (.row _ _ _ (.skip _ _ .nil)) rfl) rfl rfl ?_
                    refine Ch.step (v := (.d (.int .i64 ((1 + (irrR n on l).length : Nat) : Int)))) rfl (.pure (.assign _ rfl rfl)) rfl rfl ?_
                    refine Ch.nil ?_
                    refine T_seq ?_
                    refine T_region hc ?_
                    refine Ch.step (v := (.d (.int .i64 1))) rfl (.pure (.assign _ rfl rfl)) rfl rfl ?_
                    refine Ch.nil ?_
                    refine T_seq ?_
                    refine T_region hc ?_
                    refine Ch.step (v := (.row 46000)) rfl (.pure (.move _ rfl rfl)) rfl rfl ?_
                    refine Ch.step (v := (.d (.int .i64 1))) rfl (.pure (.move _ rfl rfl)) rfl rfl ?_
                    refine Ch.step (v := (.d (.int .i64 (heldR (marks 1 (irrR n on l).length) 1)))) rfl (.call 92000 27 _ _ _ en27 rfl (.inl rfl) (.cons (.lend (.row rfl (frozs_map (fun _ => rfl) _))) (.cons (.d _) .nil)) rfl rfl (sp_laws_heldStringS (marks 1 (irrR n on l).length) 1 (by first | omega | assumption | (exact hx _ (getD_mem (by omega))) | (exact hx _ (by assumption)) | (exact Nat.le_trans (hx _ (by assumption)) (by omega)) | (simp only [List.length_append, List.length_take, List.length_drop, List.length_cons, List.length_nil]; omega) | (simp_all; done)) (by first | omega | assumption | (exact hx _ (getD_mem (by omega))) | (exact hx _ (by assumption)) | (exact Nat.le_trans (hx _ (by assumption)) (by omega)) | (simp only [List.length_append, List.length_take, List.length_drop, List.length_cons, List.length_nil]; omega) | (simp_all; done))) (.skip _ _ (.skip _ _ .nil)) rfl) rfl rfl ?_
                    refine Ch.step (v := (.d (.int .i64 (heldR (marks 1 (irrR n on l).length) 1)))) rfl (.pure (.assign _ rfl rfl)) rfl rfl ?_
                    refine Ch.nil ?_
                    refine T_seq ?_
                    refine T_seq ?_
                    refine T_region hc ?_
                    refine Ch.step (v := (.d (.int .i64 (heldR (marks 1 (irrR n on l).length) 1)))) rfl (.pure (.move _ rfl rfl)) rfl rfl ?_
                    refine Ch.step (v := (.d (.bool (decide ((heldR (marks 1 (irrR n on l).length) 1) < 0))))) rfl (.pure (.int _ _ _ _ _ rfl rfl rfl rfl)) rfl rfl ?_
                    refine Ch.nil ?_
                    refine T_cond (b := (decide ((heldR (marks 1 (irrR n on l).length) 1) < 0))) rfl (fun h10 => ?_) (fun h10 => ?_)
                    · replace h10 := of_decide_eq_true h10
                      refine T_seq ?_
                      refine T_region hc ?_
                      refine Ch.step (v := (.d (.bool false))) rfl (.pure (.assign _ rfl rfl)) rfl rfl ?_
                      refine Ch.nil ?_
                      refine T_ret ?_
                      refine And.intro (.inr rfl) ?_
                      exact Exists.intro [(.d (.bool false))] (Exists.intro [] (Exists.intro [] (And.intro (.cons (.tmp 6 rfl) .nil) (And.intro (.cons (.any _) (.cons (.any _) (.cons (.any _) .nil))) (And.intro (Exp.of (congrArg D.bool (by first | rfl | (simp_all; done) | (exfalso; omega) | (exfalso; simp_all; omega))) (.d _)) (And.intro rfl rfl))))))
                    · replace h10 := of_decide_eq_false h10
                      refine T_skip ?_
                      refine T_seq ?_
                      refine T_seq ?_
                      refine T_region hc ?_
                      refine Ch.step (v := (.d (.int .i64 (heldR (marks 1 (irrR n on l).length) 1)))) rfl (.pure (.move _ rfl rfl)) rfl rfl ?_
                      refine Ch.step (v := (.d (.int .i64 ((1 + (irrR n on l).length : Nat) : Int)))) rfl (.pure (.move _ rfl rfl)) rfl rfl ?_
                      refine Ch.step (v := (.d (.bool (!(decide ((heldR (marks 1 (irrR n on l).length) 1) = ((1 + (irrR n on l).length : Nat) : Int))))))) rfl (.pure (.int _ _ _ _ _ rfl rfl rfl rfl)) rfl rfl ?_
                      refine Ch.nil ?_
                      refine T_cond (b := (!(decide ((heldR (marks 1 (irrR n on l).length) 1) = ((1 + (irrR n on l).length : Nat) : Int))))) rfl (fun h11 => ?_) (fun h11 => ?_)
                      · replace h11 := nott h11
                        replace h11 := of_decide_eq_false h11
                        refine T_seq ?_
                        refine T_region hc ?_
                        refine Ch.step (v := (.d (.bool false))) rfl (.pure (.assign _ rfl rfl)) rfl rfl ?_
                        refine Ch.nil ?_
                        refine T_ret ?_
                        refine And.intro (.inr rfl) ?_
                        exact Exists.intro [(.d (.bool false))] (Exists.intro [] (Exists.intro [] (And.intro (.cons (.tmp 6 rfl) .nil) (And.intro (.cons (.any _) (.cons (.any _) (.cons (.any _) .nil))) (And.intro (Exp.of (congrArg D.bool (by first | rfl | (simp_all; done) | (exfalso; omega) | (exfalso; simp_all; omega))) (.d _)) (And.intro rfl rfl))))))
                      · replace h11 := notf h11
                        replace h11 := of_decide_eq_true h11
                        refine T_skip ?_
                        refine T_seq ?_
                        refine T_region hc ?_
                        refine Ch.step (v := (.d (.int .i64 n))) rfl (.pure (.move _ rfl rfl)) rfl rfl ?_
                        refine Ch.step (v := (.d (.slice false 1 (on.map D.str)))) rfl (.pure (.move _ rfl rfl)) rfl rfl ?_
                        refine Ch.step (v := (.row 101000)) rfl (.call 101000 19 _ _ _ en19 rfl (.inl rfl) (.cons (.d _) .nil) rfl (sol (solid_row (fun _ => rfl) _) rfl) (sp_laws_toStringS on (by first | omega | assumption | (exact hx _ (getD_mem (by omega))) | (exact hx _ (by assumption)) | (exact Nat.le_trans (hx _ (by assumption)) (by omega)) | (simp only [List.length_append, List.length_take, List.length_drop, List.length_cons, List.length_nil]; omega) | (simp_all; done))) (.skip _ _ .nil) rfl) rfl rfl ?_
                        refine Ch.step (v := (.d (.slice false 1 (l.map D.str)))) rfl (.pure (.move _ rfl rfl)) rfl rfl ?_
                        refine Ch.step (v := (.row 103000)) rfl (.call 103000 19 _ _ _ en19 rfl (.inl rfl) (.cons (.d _) .nil) rfl (sol (solid_row (fun _ => rfl) _) rfl) (sp_laws_toStringS l (by first | omega | assumption | (exact hx _ (getD_mem (by omega))) | (exact hx _ (by assumption)) | (exact Nat.le_trans (hx _ (by assumption)) (by omega)) | (simp only [List.length_append, List.length_take, List.length_drop, List.length_cons, List.length_nil]; omega) | (simp_all; done))) (.skip _ _ .nil) rfl) rfl rfl ?_
                        refine Ch.step (v := (.tup [(.row 104000), (.d (.bool (irrOk n on l)))])) rfl (.call 104000 46 _ _ _ en46 rfl (.inl rfl) (.cons (.d _) (.cons (.lend (.row rfl (frozs_map (fun _ => rfl) _))) (.cons (.lend (.row rfl (frozs_map (fun _ => rfl) _))) .nil))) rfl (sol (by rw [D.solid]; exact solids_c (solid_row (fun _ => rfl) _) rfl) rfl) (sp_impl_Irredundant n on l (by first | omega | assumption | (exact hx _ (getD_mem (by omega))) | (exact hx _ (by assumption)) | (exact Nat.le_trans (hx _ (by assumption)) (by omega)) | (simp only [List.length_append, List.length_take, List.length_drop, List.length_cons, List.length_nil]; omega) | (simp_all; done)) (by first | omega | assumption | (exact hx _ (getD_mem (by omega))) | (exact hx _ (by assumption)) | (exact Nat.le_trans (hx _ (by assumption)) (by omega)) | (simp only [List.length_append, List.length_take, List.length_drop, List.length_cons, List.length_nil]; omega) | (simp_all; done)) (by first | omega | assumption | (exact hx _ (getD_mem (by omega))) | (exact hx _ (by assumption)) | (exact Nat.le_trans (hx _ (by assumption)) (by omega)) | (simp only [List.length_append, List.length_take, List.length_drop, List.length_cons, List.length_nil]; omega) | (simp_all; done)) (by first | omega | assumption | (exact hx _ (getD_mem (by omega))) | (exact hx _ (by assumption)) | (exact Nat.le_trans (hx _ (by assumption)) (by omega)) | (simp only [List.length_append, List.length_take, List.length_drop, List.length_cons, List.length_nil]; omega) | (simp_all; done))) (.skip _ _ (.skip _ _ (.skip _ _ .nil))) rfl) rfl rfl ?_
                        refine Ch.step (v := (.tup [(.row 104000), (.d (.bool (irrOk n on l)))])) rfl (.pure (.move _ rfl rfl)) rfl rfl ?_
                        refine Ch.step (v := (.row 104000)) rfl (.pure (.extract _ rfl rfl rfl)) rfl rfl ?_
                        refine Ch.step (v := (.d (.bool (irrOk n on l)))) rfl (.pure (.extract _ rfl rfl rfl)) rfl rfl ?_
                        refine Ch.step (v := (.row 104000)) rfl (.pure (.assign _ rfl rfl)) rfl rfl ?_
                        refine Ch.step (v := (.d (.bool (irrOk n on l)))) rfl (.pure (.assign _ rfl rfl)) rfl rfl ?_
                        refine Ch.nil ?_
                        refine T_seq ?_
                        refine T_seq ?_
                        refine T_region hc ?_
                        refine Ch.step (v := (.row 104000)) rfl (.pure (.move _ rfl rfl)) rfl rfl ?_
                        refine Ch.step (v := (.row 35000)) rfl (.pure (.move _ rfl rfl)) rfl rfl ?_
                        refine Ch.step (v := (.d (.bool (decide ((irrR n on l) = (irrR n on l)))))) rfl (.call 109000 21 _ _ _ en21 rfl (.inl rfl) (.cons (.lend (.row rfl (frozs_map (fun _ => rfl) _))) (.cons (.lend (.row rfl (frozs_map (fun _ => rfl) _))) .nil)) rfl rfl (sp_laws_eqStringS (irrR n on l) (irrR n on l) (by first | omega | assumption | (exact hx _ (getD_mem (by omega))) | (exact hx _ (by assumption)) | (exact Nat.le_trans (hx _ (by assumption)) (by omega)) | (simp only [List.length_append, List.length_take, List.length_drop, List.length_cons, List.length_nil]; omega) | (simp_all; done))) (.skip _ _ (.skip _ _ .nil)) rfl) rfl rfl ?_
                        refine Ch.step (v := (.d (.bool (!(decide ((irrR n on l) = (irrR n on l))))))) rfl (.pure (.not _ _ rfl rfl)) rfl rfl ?_
                        refine Ch.step (v := (.d (.bool (!(decide ((irrR n on l) = (irrR n on l))))))) rfl (.pure (.move _ rfl rfl)) rfl rfl ?_
                        cases h12 : (decide ((irrR n on l) = (irrR n on l))) with
                        | true =>
                          replace h12 := of_decide_eq_true h12
                          refine Ch.step (v := (.d (.bool (irrOk n on l)))) rfl (.pure (.move _ rfl rfl)) rfl rfl ?_
                          refine Ch.step (v := (.d (.bool (irrOk n on l)))) rfl (.pure (.move _ rfl rfl)) rfl rfl ?_
                          refine Ch.step (v := (.d (.bool (!(decide ((irrOk n on l) = (irrOk n on l))))))) rfl (.pure (.neB _ _ _ _ rfl Try.underlying4 rfl rfl)) rfl rfl ?_
                          refine Ch.step (v := (.d (.bool (!(decide ((irrOk n on l) = (irrOk n on l))))))) rfl (.pure (.pickF _ _ _ rfl rfl rfl)) rfl rfl ?_
                          refine Ch.nil ?_
                          refine T_cond (b := (!(decide ((irrOk n on l) = (irrOk n on l))))) rfl (fun h13 => ?_) (fun h13 => ?_)
                          · replace h13 := nott h13
                            replace h13 := of_decide_eq_false h13
                            refine T_seq ?_
                            refine T_region hc ?_
                            refine Ch.step (v := (.d (.bool false))) rfl (.pure (.assign _ rfl rfl)) rfl rfl ?_
                            refine Ch.nil ?_
                            refine T_ret ?_
                            refine And.intro (.inr rfl) ?_
                            exact Exists.intro [(.d (.bool false))] (Exists.intro [] (Exists.intro [] (And.intro (.cons (.tmp 6 rfl) .nil) (And.intro (.cons (.any _) (.cons (.any _) (.cons (.any _) .nil))) (And.intro (Exp.of (congrArg D.bool (by first | rfl | (simp_all; done) | (exfalso; omega) | (exfalso; simp_all; omega))) (.d _)) (And.intro rfl rfl))))))
                          · replace h13 := notf h13
                            replace h13 := of_decide_eq_true h13
                            refine T_skip ?_
                            refine T_seq ?_
                            refine T_region hc ?_
                            refine Ch.step (v := (.d (.int .i64 1))) rfl (.pure (.assign _ rfl rfl)) rfl rfl ?_
                            refine Ch.nil ?_
                            refine T_seq ?_
                            refine T_region hc ?_
                            refine Ch.step (v := (.row 46000)) rfl (.pure (.move _ rfl rfl)) rfl rfl ?_
                            refine Ch.step (v := (.d (.int .i64 1))) rfl (.pure (.move _ rfl rfl)) rfl rfl ?_
                            refine Ch.step (v := (.d (.int .i64 (heldR (marks 1 (irrR n on l).length) 1)))) rfl (.call 118000 27 _ _ _ en27 rfl (.inl rfl) (.cons (.lend (.row rfl (frozs_map (fun _ => rfl) _))) (.cons (.d _) .nil)) rfl rfl (sp_laws_heldStringS (marks 1 (irrR n on l).length) 1 (by first | omega | assumption | (exact hx _ (getD_mem (by omega))) | (exact hx _ (by assumption)) | (exact Nat.le_trans (hx _ (by assumption)) (by omega)) | (simp only [List.length_append, List.length_take, List.length_drop, List.length_cons, List.length_nil]; omega) | (simp_all; done)) (by first | omega | assumption | (exact hx _ (getD_mem (by omega))) | (exact hx _ (by assumption)) | (exact Nat.le_trans (hx _ (by assumption)) (by omega)) | (simp only [List.length_append, List.length_take, List.length_drop, List.length_cons, List.length_nil]; omega) | (simp_all; done))) (.skip _ _ (.skip _ _ .nil)) rfl) rfl rfl ?_
                            refine Ch.step (v := (.d (.int .i64 (heldR (marks 1 (irrR n on l).length) 1)))) rfl (.pure (.assign _ rfl rfl)) rfl rfl ?_
                            refine Ch.nil ?_
                            refine T_seq ?_
                            refine T_seq ?_
                            refine T_region hc ?_
                            refine Ch.step (v := (.d (.int .i64 (heldR (marks 1 (irrR n on l).length) 1)))) rfl (.pure (.move _ rfl rfl)) rfl rfl ?_
                            refine Ch.step (v := (.d (.bool (decide ((heldR (marks 1 (irrR n on l).length) 1) < 0))))) rfl (.pure (.int _ _ _ _ _ rfl rfl rfl rfl)) rfl rfl ?_
                            refine Ch.nil ?_
                            refine T_cond (b := (decide ((heldR (marks 1 (irrR n on l).length) 1) < 0))) rfl (fun h14 => ?_) (fun h14 => ?_)
                            · replace h14 := of_decide_eq_true h14
                              refine T_seq ?_
                              refine T_region hc ?_
                              refine Ch.step (v := (.d (.bool false))) rfl (.pure (.assign _ rfl rfl)) rfl rfl ?_
                              refine Ch.nil ?_
                              refine T_ret ?_
                              refine And.intro (.inr rfl) ?_
                              exact Exists.intro [(.d (.bool false))] (Exists.intro [] (Exists.intro [] (And.intro (.cons (.tmp 6 rfl) .nil) (And.intro (.cons (.any _) (.cons (.any _) (.cons (.any _) .nil))) (And.intro (Exp.of (congrArg D.bool (by first | rfl | (simp_all; done) | (exfalso; omega) | (exfalso; simp_all; omega))) (.d _)) (And.intro rfl rfl))))))
                            · replace h14 := of_decide_eq_false h14
                              refine T_skip ?_
                              refine T_seq ?_
                              refine T_seq ?_
                              refine T_region hc ?_
                              refine Ch.step (v := (.d (.int .i64 (heldR (marks 1 (irrR n on l).length) 1)))) rfl (.pure (.move _ rfl rfl)) rfl rfl ?_
                              refine Ch.step (v := (.d (.int .i64 ((1 + (irrR n on l).length : Nat) : Int)))) rfl (.pure (.move _ rfl rfl)) rfl rfl ?_
                              refine Ch.step (v := (.d (.bool (!(decide ((heldR (marks 1 (irrR n on l).length) 1) = ((1 + (irrR n on l).length : Nat) : Int))))))) rfl (.pure (.int _ _ _ _ _ rfl rfl rfl rfl)) rfl rfl ?_
                              refine Ch.nil ?_
                              refine T_cond (b := (!(decide ((heldR (marks 1 (irrR n on l).length) 1) = ((1 + (irrR n on l).length : Nat) : Int))))) rfl (fun h15 => ?_) (fun h15 => ?_)
                              · replace h15 := nott h15
                                replace h15 := of_decide_eq_false h15
                                refine T_seq ?_
                                refine T_region hc ?_
                                refine Ch.step (v := (.d (.bool false))) rfl (.pure (.assign _ rfl rfl)) rfl rfl ?_
                                refine Ch.nil ?_
                                refine T_ret ?_
                                refine And.intro (.inr rfl) ?_
                                exact Exists.intro [(.d (.bool false))] (Exists.intro [] (Exists.intro [] (And.intro (.cons (.tmp 6 rfl) .nil) (And.intro (.cons (.any _) (.cons (.any _) (.cons (.any _) .nil))) (And.intro (Exp.of (congrArg D.bool (by first | rfl | (simp_all; done) | (exfalso; omega) | (exfalso; simp_all; omega))) (.d _)) (And.intro rfl rfl))))))
                              · replace h15 := notf h15
                                replace h15 := of_decide_eq_true h15
                                refine T_skip ?_
                                refine T_seq ?_
                                refine T_region hc ?_
                                refine Ch.step (v := (.d (.bool true))) rfl (.pure (.assign _ rfl rfl)) rfl rfl ?_
                                refine Ch.nil ?_
                                refine T_ret ?_
                                refine And.intro (.inr rfl) ?_
                                exact Exists.intro [(.d (.bool true))] (Exists.intro [] (Exists.intro [] (And.intro (.cons (.tmp 6 rfl) .nil) (And.intro (.cons (.any _) (.cons (.any _) (.cons (.any _) .nil))) (And.intro (.d _) (And.intro rfl rfl))))))
                        | false =>
                          replace h12 := of_decide_eq_false h12
                          refine Ch.skip rfl rfl ?_
                          refine Ch.skip rfl rfl ?_
                          refine Ch.skip rfl rfl ?_
                          refine Ch.step (v := (.d (.bool true))) rfl (.pure (.pickT _ _ _ rfl rfl rfl)) rfl rfl ?_
                          refine Ch.nil ?_
                          refine T_cond (b := true) rfl (fun _ => ?_) (fun h => nomatch h)
                          refine T_seq ?_
                          refine T_region hc ?_
                          refine Ch.step (v := (.d (.bool false))) rfl (.pure (.assign _ rfl rfl)) rfl rfl ?_
                          refine Ch.nil ?_
                          refine T_ret ?_
                          refine And.intro (.inr rfl) ?_
                          exact Exists.intro [(.d (.bool false))] (Exists.intro [] (Exists.intro [] (And.intro (.cons (.tmp 6 rfl) .nil) (And.intro (.cons (.any _) (.cons (.any _) (.cons (.any _) .nil))) (And.intro (Exp.of (congrArg D.bool (by first | rfl | (simp_all; done) | (exfalso; omega) | (exfalso; simp_all; omega))) (.d _)) (And.intro rfl rfl))))))
                | false =>
                  replace h8 := of_decide_eq_false h8
                  refine Ch.skip rfl rfl ?_
                  refine Ch.skip rfl rfl ?_
                  refine Ch.skip rfl rfl ?_
                  refine Ch.step (v := (.d (.bool true))) rfl (.pure (.pickT _ _ _ rfl rfl rfl)) rfl rfl ?_
                  refine Ch.nil ?_
                  refine T_cond (b := true) rfl (fun _ => ?_) (fun h => nomatch h)
                  refine T_seq ?_
                  refine T_region hc ?_
                  refine Ch.step (v := (.d (.bool false))) rfl (.pure (.assign _ rfl rfl)) rfl rfl ?_
                  refine Ch.nil ?_
                  refine T_ret ?_
                  refine And.intro (.inr rfl) ?_
                  exact Exists.intro [(.d (.bool false))] (Exists.intro [] (Exists.intro [] (And.intro (.cons (.tmp 6 rfl) .nil) (And.intro (.cons (.any _) (.cons (.any _) (.cons (.any _) .nil))) (And.intro (Exp.of (congrArg D.bool (by first | rfl | (simp_all; done) | (exfalso; omega) | (exfalso; simp_all; omega))) (.d _)) (And.intro rfl rfl))))))
      | false =>
        replace h3 := of_decide_eq_false h3
        refine Ch.skip rfl rfl ?_
        refine Ch.skip rfl rfl ?_
        refine Ch.skip rfl rfl ?_
        refine Ch.step (v := (.d (.bool true))) rfl (.pure (.pickT _ _ _ rfl rfl rfl)) rfl rfl ?_
        refine Ch.nil ?_
        refine T_cond (b := true) rfl (fun _ => ?_) (fun h => nomatch h)
        refine T_seq ?_
        refine T_region hc ?_
        refine Ch.step (v := (.d (.bool false))) rfl (.pure (.assign _ rfl rfl)) rfl rfl ?_
        refine Ch.nil ?_
        refine T_ret ?_
        refine And.intro (.inr rfl) ?_
        exact Exists.intro [(.d (.bool false))] (Exists.intro [] (Exists.intro [] (And.intro (.cons (.tmp 6 rfl) .nil) (And.intro (.cons (.any _) (.cons (.any _) (.cons (.any _) .nil))) (And.intro (Exp.of (congrArg D.bool (by first | rfl | (simp_all; done) | (exfalso; omega) | (exfalso; simp_all; omega))) (.d _)) (And.intro rfl rfl))))))

end Go.AM
