/-
  The contracts that the law FnExactEssentialPrimes needs.
-/
import Derived.Test.YtogmlhclonlnpaaZEssentialPrimes1
import Derived.Test.YtogmlhclonlnpaaSh
namespace Go.AM
open Go.Proofs
set_option linter.unusedVariables false
set_option linter.unusedSimpArgs false

theorem sp_spec_Primes (n : Int) (on off : List (List UInt8)) (hn1 : on.length ≤ 1048576) (hx1 : ∀ x ∈ on, x.length ≤ 1048576) (hn2 : off.length ≤ 1048576) (hx2 : ∀ x ∈ off, x.length ≤ 1048576) : Sp Try.prog 51 [(.int .i64 n), (.slice false 1 (on.map D.str)), (.slice false 1 (off.map D.str))] [.any, .any, .any] (.tup [(.slice true 1 ((primR n on off).map D.str)), (.bool (primOk n on off))]) := by
 refine Sp_intro (lend := true) Try.func51 rfl rfl rfl (fun _ => rfl) (fun c hc hX => ?_)
 refine T_seq ?_
 refine T_region hc ?_
 refine Ch.s (.c (.slice none 0 0)) (.pure (.assign _ rfl rfl)) ?_
 refine Ch.s (.d (.bool false)) (.pure (.assign _ rfl rfl)) ?_
 refine Ch.nil ?_
 refine T_seq ?_
 refine T_seq ?_
 refine T_region hc ?_
 refine Ch.s (.d (.int .i64 n)) (.pure (.move _ rfl rfl)) ?_
 refine Ch.s (.d (.slice false 1 (on.map D.str))) (.pure (.move _ rfl rfl)) ?_
 refine Ch.s (.d (.slice false 1 (off.map D.str))) (.pure (.move _ rfl rfl)) ?_
 refine Ch.s (.d (.bool (onoffB n on off))) (.call 12000 92 _ _ _ en92 rfl (.inl rfl) (.cons (.d _) (.cons (.d _) (.cons (.d _) .nil))) rfl rfl (sp_spec_l14Sets n on off (by first | omega | assumption | (exact hx _ (getD_mem (by omega))) | (exact hx _ (by assumption)) | (exact Nat.le_trans (hx _ (by assumption)) (by omega)) | (simp only [List.length_append, List.length_take, List.length_drop, List.length_cons, List.length_nil]; omega) | (simp_all; done)) (by first | omega | assumption | (exact hx _ (getD_mem (by omega))) | (exact hx _ (by assumption)) | (exact Nat.le_trans (hx _ (by assumption)) (by omega)) | (simp only [List.length_append, List.length_take, List.length_drop, List.length_cons, List.length_nil]; omega) | (simp_all; done)) (by first | omega | assumption | (exact hx _ (getD_mem (by omega))) | (exact hx _ (by assumption)) | (exact Nat.le_trans (hx _ (by assumption)) (by omega)) | (simp only [List.length_append, List.length_take, List.length_drop, List.length_cons, List.length_nil]; omega) | (simp_all; done)) (by first | omega | assumption | (exact hx _ (getD_mem (by omega))) | (exact hx _ (by assumption)) | (exact Nat.le_trans (hx _ (by assumption)) (by omega)) | (simp only [List.length_append, List.length_take, List.length_drop, List.length_cons, List.length_nil]; omega) | (simp_all; done))) (.skip _ _ (.skip _ _ (.skip _ _ .nil))) rfl) ?_
 refine Ch.s (.d (.bool (!(onoffB n on off)))) (.pure (.not _ _ rfl rfl)) ?_
 refine Ch.nil ?_
 refine T_cond (b := (!(onoffB n on off))) rfl (fun h1 => ?_) (fun h1 => ?_)
 ·
  replace h1 := nott h1
  try have hop := onoff_parts h1
  try have h0 : 0 ≤ n := by (have := hop.1; omega)
  try have h8 := hop.1.2
  try have ho1 := hop.2.2.2.1
  try have ho2 := hop.2.2.2.2
  try have hpl := primL_le n.toNat on off
  try have hp3 : 3 ^ n.toNat ≤ 3 ^ 8 := Nat.pow_le_pow_right (by omega) (by omega)
  refine T_seq ?_
  refine T_region hc ?_
  refine Ch.s (.c (.slice none 0 0)) (.pure (.assign _ rfl rfl)) ?_
  refine Ch.s (.d (.bool false)) (.pure (.assign _ rfl rfl)) ?_
  refine Ch.nil ?_
  refine T_ret ?_
  refine And.intro (.inr rfl) ?_
  exact Exists.intro [(.c (.slice none 0 0)), (.d (.bool false))] (Exists.intro [] (Exists.intro [] (And.intro (.cons (.tmp 6 rfl) (.cons (.tmp 7 rfl) .nil)) (And.intro (.cons (.any _) (.cons (.any _) (.cons (.any _) .nil))) (And.intro (.tup (.cons (Exp.of (congrArg (D.slice true 1) (by first | (rw [primR, primOk, h1]; rfl) | (rw [primR, primOk, h1, decide_eq_true h2]; rfl) | (rw [primR, primOk, h1, decide_eq_false h2]; rfl) | (rw [primR, primOk, h1, decide_eq_true (show (((primL n.toNat on off).length : Nat) : Int) ≤ 60 by omega)]; rfl) | (rw [primR, primOk, h1, decide_eq_false (show ¬ (((primL n.toNat on off).length : Nat) : Int) ≤ 60 by omega)]; rfl) | (rw [primOk, h1]; rfl) | (rw [primOk, h1, decide_eq_true h2]; rfl) | (rw [primOk, h1, decide_eq_false h2]; rfl) | (rw [primOk, h1, decide_eq_true (show (((primL n.toNat on off).length : Nat) : Int) ≤ 60 by omega)]; rfl) | (rw [primOk, h1, decide_eq_false (show ¬ (((primL n.toNat on off).length : Nat) : Int) ≤ 60 by omega)]; rfl))) (.nil true 1)) (.cons (Exp.of (congrArg D.bool (by first | (rw [primR, primOk, h1]; rfl) | (rw [primR, primOk, h1, decide_eq_true h2]; rfl) | (rw [primR, primOk, h1, decide_eq_false h2]; rfl) | (rw [primR, primOk, h1, decide_eq_true (show (((primL n.toNat on off).length : Nat) : Int) ≤ 60 by omega)]; rfl) | (rw [primR, primOk, h1, decide_eq_false (show ¬ (((primL n.toNat on off).length : Nat) : Int) ≤ 60 by omega)]; rfl) | (rw [primOk, h1]; rfl) | (rw [primOk, h1, decide_eq_true h2]; rfl) | (rw [primOk, h1, decide_eq_false h2]; rfl) | (rw [primOk, h1, decide_eq_true (show (((primL n.toNat on off).length : Nat) : Int) ≤ 60 by omega)]; rfl) | (rw [primOk, h1, decide_eq_false (show ¬ (((primL n.toNat on off).length : Nat) : Int) ≤ 60 by omega)]; rfl))) (.d _)) .nil))) (And.intro rfl rfl))))))
 ·
  replace h1 := notf h1
  try have hop := onoff_parts h1
  try have h0 : 0 ≤ n := by (have := hop.1; omega)
  try have h8 := hop.1.2
  try have ho1 := hop.2.2.2.1
  try have ho2 := hop.2.2.2.2
  try have hpl := primL_le n.toNat on off
  try have hp3 : 3 ^ n.toNat ≤ 3 ^ 8 := Nat.pow_le_pow_right (by omega) (by omega)
  refine T_skip ?_
  refine T_seq ?_
  refine T_region hc ?_
  refine Ch.s (.d (.int .i64 n)) (.pure (.move _ rfl rfl)) ?_
  refine Ch.s (.d (.slice false 1 (on.map D.str))) (.pure (.move _ rfl rfl)) ?_
  refine Ch.s (.d (.slice false 1 (off.map D.str))) (.pure (.move _ rfl rfl)) ?_
  refine Ch.step (v := (.row 17000)) rfl (.call 17000 93 _ _ _ en93 rfl (.inl rfl) (.cons (.d _) (.cons (.d _) (.cons (.d _) .nil))) rfl (sol (solid_row (fun _ => rfl) _) rfl) (sp_spec_l14Primes n on off (by first | omega | assumption | (exact hx _ (getD_mem (by omega))) | (exact hx _ (by assumption)) | (exact Nat.le_trans (hx _ (by assumption)) (by omega)) | (simp only [List.length_append, List.length_take, List.length_drop, List.length_cons, List.length_nil]; omega) | (simp_all; done)) (by first | omega | assumption | (exact hx _ (getD_mem (by omega))) | (exact hx _ (by assumption)) | (exact Nat.le_trans (hx _ (by assumption)) (by omega)) | (simp only [List.length_append, List.length_take, List.length_drop, List.length_cons, List.length_nil]; omega) | (simp_all; done)) (by first | omega | assumption | (exact hx _ (getD_mem (by omega))) | (exact hx _ (by assumption)) | (exact Nat.le_trans (hx _ (by assumption)) (by omega)) | (simp only [List.length_append, List.length_take, List.length_drop, List.length_cons, List.length_nil]; omega) | (simp_all; done)) (by first | omega | assumption | (exact hx _ (getD_mem (by omega))) | (exact hx _ (by assumption)) | (exact Nat.le_trans (hx _ (by assumption)) (by omega)) | (simp only [List.length_append, List.length_take, List.length_drop, List.length_cons, List.length_nil]; omega) | (simp_all; done)) (by first | omega | assumption | (exact hx _ (getD_mem (by omega))) | (exact hx _ (by assumption)) | (exact Nat.le_trans (hx _ (by assumption)) (by omega)) | (simp only [List.length_append, List.length_take, List.length_drop, List.length_cons, List.length_nil]; omega) | (simp_all; done)) (by first | omega | assumption | (exact hx _ (getD_mem (by omega))) | (exact hx _ (by assumption)) | (exact Nat.le_trans (hx _ (by assumption)) (by omega)) | (simp only [List.length_append, List.length_take, List.length_drop, List.length_cons, List.length_nil]; omega) | (simp_all; done))) (.skip _ _ (.skip _ _ (.skip _ _ .nil))) rfl) rfl rfl ?_
  refine Ch.s (.row 17000) (.pure (.assign _ rfl rfl)) ?_
  refine Ch.nil ?_
  refine T_seq ?_
  refine T_seq ?_
  refine T_region hc ?_
  refine Ch.s (.row 17000) (.pure (.move _ rfl rfl)) ?_
  refine Ch.s (.d (.int .i64 (((primL n.toNat on off).length : Nat) : Int))) (.pure (.len _ _ 9 rfl Try.underlying23 (.row rfl) (by simp))) ?_
  refine Ch.s (.d (.bool (decide (60 < (((primL n.toNat on off).length : Nat) : Int))))) (.pure (.int _ _ _ _ _ rfl rfl rfl rfl)) ?_
  refine Ch.nil ?_
  refine T_cond (b := (decide (60 < (((primL n.toNat on off).length : Nat) : Int)))) rfl (fun h2 => ?_) (fun h2 => ?_)
  ·
   replace h2 := of_decide_eq_true h2
   refine T_seq ?_
   refine T_region hc ?_
   refine Ch.s (.c (.slice none 0 0)) (.pure (.assign _ rfl rfl)) ?_
   refine Ch.s (.d (.bool false)) (.pure (.assign _ rfl rfl)) ?_
   refine Ch.nil ?_
   refine T_ret ?_
   refine And.intro (.inr rfl) ?_
   exact Exists.intro [(.c (.slice none 0 0)), (.d (.bool false))] (Exists.intro [] (Exists.intro [] (And.intro (.cons (.tmp 6 rfl) (.cons (.tmp 7 rfl) .nil)) (And.intro (.cons (.any _) (.cons (.any _) (.cons (.any _) .nil))) (And.intro (.tup (.cons (Exp.of (congrArg (D.slice true 1) (by first | (rw [primR, primOk, h1]; rfl) | (rw [primR, primOk, h1, decide_eq_true h2]; rfl) | (rw [primR, primOk, h1, decide_eq_false h2]; rfl) | (rw [primR, primOk, h1, decide_eq_true (show (((primL n.toNat on off).length : Nat) : Int) ≤ 60 by omega)]; rfl) | (rw [primR, primOk, h1, decide_eq_false (show ¬ (((primL n.toNat on off).length : Nat) : Int) ≤ 60 by omega)]; rfl) | (rw [primOk, h1]; rfl) | (rw [primOk, h1, decide_eq_true h2]; rfl) | (rw [primOk, h1, decide_eq_false h2]; rfl) | (rw [primOk, h1, decide_eq_true (show (((primL n.toNat on off).length : Nat) : Int) ≤ 60 by omega)]; rfl) | (rw [primOk, h1, decide_eq_false (show ¬ (((primL n.toNat on off).length : Nat) : Int) ≤ 60 by omega)]; rfl))) (.nil true 1)) (.cons (Exp.of (congrArg D.bool (by first | (rw [primR, primOk, h1]; rfl) | (rw [primR, primOk, h1, decide_eq_true h2]; rfl) | (rw [primR, primOk, h1, decide_eq_false h2]; rfl) | (rw [primR, primOk, h1, decide_eq_true (show (((primL n.toNat on off).length : Nat) : Int) ≤ 60 by omega)]; rfl) | (rw [primR, primOk, h1, decide_eq_false (show ¬ (((primL n.toNat on off).length : Nat) : Int) ≤ 60 by omega)]; rfl) | (rw [primOk, h1]; rfl) | (rw [primOk, h1, decide_eq_true h2]; rfl) | (rw [primOk, h1, decide_eq_false h2]; rfl) | (rw [primOk, h1, decide_eq_true (show (((primL n.toNat on off).length : Nat) : Int) ≤ 60 by omega)]; rfl) | (rw [primOk, h1, decide_eq_false (show ¬ (((primL n.toNat on off).length : Nat) : Int) ≤ 60 by omega)]; rfl))) (.d _)) .nil))) (And.intro rfl rfl))))))
  ·
   replace h2 := of_decide_eq_false h2
   refine T_skip ?_
   refine T_seq ?_
   refine T_region hc ?_
   refine Ch.s (.row 17000) (.pure (.move _ rfl rfl)) ?_
   refine Ch.s (.row 17000) (.pure (.assign _ rfl rfl)) ?_
   refine Ch.s (.d (.bool true)) (.pure (.assign _ rfl rfl)) ?_
   refine Ch.nil ?_
   refine T_ret ?_
   refine And.intro (.inr rfl) ?_
   exact Exists.intro [(.row 17000), (.d (.bool true))] (Exists.intro [] (Exists.intro [17000] (And.intro (.cons (.tmp 6 rfl) (.cons (.tmp 7 rfl) .nil)) (And.intro (.cons (.any _) (.cons (.any _) (.cons (.any _) .nil))) (And.intro (.tup (.cons (Exp.of (congrArg (D.slice true 1) (by first | (rw [primR, primOk, h1]; rfl) | (rw [primR, primOk, h1, decide_eq_true h2]; rfl) | (rw [primR, primOk, h1, decide_eq_false h2]; rfl) | (rw [primR, primOk, h1, decide_eq_true (show (((primL n.toNat on off).length : Nat) : Int) ≤ 60 by omega)]; rfl) | (rw [primR, primOk, h1, decide_eq_false (show ¬ (((primL n.toNat on off).length : Nat) : Int) ≤ 60 by omega)]; rfl) | (rw [primOk, h1]; rfl) | (rw [primOk, h1, decide_eq_true h2]; rfl) | (rw [primOk, h1, decide_eq_false h2]; rfl) | (rw [primOk, h1, decide_eq_true (show (((primL n.toNat on off).length : Nat) : Int) ≤ 60 by omega)]; rfl) | (rw [primOk, h1, decide_eq_false (show ¬ (((primL n.toNat on off).length : Nat) : Int) ≤ 60 by omega)]; rfl))) (.row rfl)) (.cons (Exp.of (congrArg D.bool (by first | (rw [primR, primOk, h1]; rfl) | (rw [primR, primOk, h1, decide_eq_true h2]; rfl) | (rw [primR, primOk, h1, decide_eq_false h2]; rfl) | (rw [primR, primOk, h1, decide_eq_true (show (((primL n.toNat on off).length : Nat) : Int) ≤ 60 by omega)]; rfl) | (rw [primR, primOk, h1, decide_eq_false (show ¬ (((primL n.toNat on off).length : Nat) : Int) ≤ 60 by omega)]; rfl) | (rw [primOk, h1]; rfl) | (rw [primOk, h1, decide_eq_true h2]; rfl) | (rw [primOk, h1, decide_eq_false h2]; rfl) | (rw [primOk, h1, decide_eq_true (show (((primL n.toNat on off).length : Nat) : Int) ≤ 60 by omega)]; rfl) | (rw [primOk, h1, decide_eq_false (show ¬ (((primL n.toNat on off).length : Nat) : Int) ≤ 60 by omega)]; rfl))) (.d _)) .nil))) (And.intro rfl rfl))))))

theorem sp_impl_Primes (n : Int) (on off : List (List UInt8)) (hn1 : on.length ≤ 1048576) (hx1 : ∀ x ∈ on, x.length ≤ 1048576) (hn2 : off.length ≤ 1048576) (hx2 : ∀ x ∈ off, x.length ≤ 1048576) : Sp Try.prog 55 [(.int .i64 n), (.slice false 1 (on.map D.str)), (.slice false 1 (off.map D.str))] [.any, .any, .any] (.tup [(.slice true 1 ((primR n on off).map D.str)), (.bool (primOk n on off))]) := by
 refine Sp_intro (lend := true) Try.func55 rfl rfl rfl (fun _ => rfl) (fun c hc hX => ?_)
 refine T_seq ?_
 refine T_region hc ?_
 refine Ch.s (.c (.slice none 0 0)) (.pure (.assign _ rfl rfl)) ?_
 refine Ch.s (.d (.bool false)) (.pure (.assign _ rfl rfl)) ?_
 refine Ch.nil ?_
 refine T_seq ?_
 refine T_seq ?_
 refine T_region hc ?_
 refine Ch.s (.d (.int .i64 n)) (.pure (.move _ rfl rfl)) ?_
 refine Ch.s (.d (.slice false 1 (on.map D.str))) (.pure (.move _ rfl rfl)) ?_
 refine Ch.s (.d (.slice false 1 (off.map D.str))) (.pure (.move _ rfl rfl)) ?_
 refine Ch.s (.d (.bool (onoffB n on off))) (.call 13000 64 _ _ _ en64 rfl (.inl rfl) (.cons (.d _) (.cons (.d _) (.cons (.d _) .nil))) rfl rfl (sp_impl_IsValidOnOff n on off (by first | omega | assumption | (exact hx _ (getD_mem (by omega))) | (exact hx _ (by assumption)) | (exact Nat.le_trans (hx _ (by assumption)) (by omega)) | (simp only [List.length_append, List.length_take, List.length_drop, List.length_cons, List.length_nil]; omega) | (simp_all; done)) (by first | omega | assumption | (exact hx _ (getD_mem (by omega))) | (exact hx _ (by assumption)) | (exact Nat.le_trans (hx _ (by assumption)) (by omega)) | (simp only [List.length_append, List.length_take, List.length_drop, List.length_cons, List.length_nil]; omega) | (simp_all; done)) (by first | omega | assumption | (exact hx _ (getD_mem (by omega))) | (exact hx _ (by assumption)) | (exact Nat.le_trans (hx _ (by assumption)) (by omega)) | (simp only [List.length_append, List.length_take, List.length_drop, List.length_cons, List.length_nil]; omega) | (simp_all; done)) (by first | omega | assumption | (exact hx _ (getD_mem (by omega))) | (exact hx _ (by assumption)) | (exact Nat.le_trans (hx _ (by assumption)) (by omega)) | (simp only [List.length_append, List.length_take, List.length_drop, List.length_cons, List.length_nil]; omega) | (simp_all; done))) (.skip _ _ (.skip _ _ (.skip _ _ .nil))) rfl) ?_
 refine Ch.s (.d (.bool (!(onoffB n on off)))) (.pure (.not _ _ rfl rfl)) ?_
 refine Ch.nil ?_
 refine T_cond (b := (!(onoffB n on off))) rfl (fun h1 => ?_) (fun h1 => ?_)
 ·
  replace h1 := nott h1
  try have hop := onoff_parts h1
  try have h0 : 0 ≤ n := by (have := hop.1; omega)
  try have h8 := hop.1.2
  try have ho1 := hop.2.2.2.1
  try have ho2 := hop.2.2.2.2
  try have hpl := primL_le n.toNat on off
  try have hp3 : 3 ^ n.toNat ≤ 3 ^ 8 := Nat.pow_le_pow_right (by omega) (by omega)
  refine T_seq ?_
  refine T_region hc ?_
  refine Ch.s (.c (.slice none 0 0)) (.pure (.assign _ rfl rfl)) ?_
  refine Ch.s (.d (.bool false)) (.pure (.assign _ rfl rfl)) ?_
  refine Ch.nil ?_
  refine T_ret ?_
  refine And.intro (.inr rfl) ?_
  exact Exists.intro [(.c (.slice none 0 0)), (.d (.bool false))] (Exists.intro [] (Exists.intro [] (And.intro (.cons (.tmp 6 rfl) (.cons (.tmp 7 rfl) .nil)) (And.intro (.cons (.any _) (.cons (.any _) (.cons (.any _) .nil))) (And.intro (.tup (.cons (Exp.of (congrArg (D.slice true 1) (by first | (rw [primR, primOk, h1]; rfl) | (rw [primR, primOk, h1, decide_eq_true h2]; rfl) | (rw [primR, primOk, h1, decide_eq_false h2]; rfl) | (rw [primR, primOk, h1, decide_eq_true (show (((primL n.toNat on off).length : Nat) : Int) ≤ 60 by omega)]; rfl) | (rw [primR, primOk, h1, decide_eq_false (show ¬ (((primL n.toNat on off).length : Nat) : Int) ≤ 60 by omega)]; rfl) | (rw [primOk, h1]; rfl) | (rw [primOk, h1, decide_eq_true h2]; rfl) | (rw [primOk, h1, decide_eq_false h2]; rfl) | (rw [primOk, h1, decide_eq_true (show (((primL n.toNat on off).length : Nat) : Int) ≤ 60 by omega)]; rfl) | (rw [primOk, h1, decide_eq_false (show ¬ (((primL n.toNat on off).length : Nat) : Int) ≤ 60 by omega)]; rfl))) (.nil true 1)) (.cons (Exp.of (congrArg D.bool (by first | (rw [primR, primOk, h1]; rfl) | (rw [primR, primOk, h1, decide_eq_true h2]; rfl) | (rw [primR, primOk, h1, decide_eq_false h2]; rfl) | (rw [primR, primOk, h1, decide_eq_true (show (((primL n.toNat on off).length : Nat) : Int) ≤ 60 by omega)]; rfl) | (rw [primR, primOk, h1, decide_eq_false (show ¬ (((primL n.toNat on off).length : Nat) : Int) ≤ 60 by omega)]; rfl) | (rw [primOk, h1]; rfl) | (rw [primOk, h1, decide_eq_true h2]; rfl) | (rw [primOk, h1, decide_eq_false h2]; rfl) | (rw [primOk, h1, decide_eq_true (show (((primL n.toNat on off).length : Nat) : Int) ≤ 60 by omega)]; rfl) | (rw [primOk, h1, decide_eq_false (show ¬ (((primL n.toNat on off).length : Nat) : Int) ≤ 60 by omega)]; rfl))) (.d _)) .nil))) (And.intro rfl rfl))))))
 ·
  replace h1 := notf h1
  try have hop := onoff_parts h1
  try have h0 : 0 ≤ n := by (have := hop.1; omega)
  try have h8 := hop.1.2
  try have ho1 := hop.2.2.2.1
  try have ho2 := hop.2.2.2.2
  try have hpl := primL_le n.toNat on off
  try have hp3 : 3 ^ n.toNat ≤ 3 ^ 8 := Nat.pow_le_pow_right (by omega) (by omega)
  refine T_skip ?_
  refine T_seq ?_
  refine T_region hc ?_
  refine Ch.s (.d (.int .i64 n)) (.pure (.move _ rfl rfl)) ?_
  refine Ch.s (.d (.slice false 1 (on.map D.str))) (.pure (.move _ rfl rfl)) ?_
  refine Ch.s (.d (.slice false 1 (off.map D.str))) (.pure (.move _ rfl rfl)) ?_
  refine Ch.step (v := (.tup [(.row 19000), (.d (.bool (decide ((((primL n.toNat on off).length : Nat) : Int) ≤ 60))))])) rfl (.call 19000 94 _ _ _ en94 rfl (.inl rfl) (.cons (.d _) (.cons (.d _) (.cons (.d _) .nil))) rfl (sol (by rw [D.solid]; exact solids_c (solid_row (fun _ => rfl) _) rfl) rfl) (sp_impl_primes n on off (by first | omega | assumption | (exact hx _ (getD_mem (by omega))) | (exact hx _ (by assumption)) | (exact Nat.le_trans (hx _ (by assumption)) (by omega)) | (simp only [List.length_append, List.length_take, List.length_drop, List.length_cons, List.length_nil]; omega) | (simp_all; done)) (by first | omega | assumption | (exact hx _ (getD_mem (by omega))) | (exact hx _ (by assumption)) | (exact Nat.le_trans (hx _ (by assumption)) (by omega)) | (simp only [List.length_append, List.length_take, List.length_drop, List.length_cons, List.length_nil]; omega) | (simp_all; done)) (by first | omega | assumption | (exact hx _ (getD_mem (by omega))) | (exact hx _ (by assumption)) | (exact Nat.le_trans (hx _ (by assumption)) (by omega)) | (simp only [List.length_append, List.length_take, List.length_drop, List.length_cons, List.length_nil]; omega) | (simp_all; done)) (by first | omega | assumption | (exact hx _ (getD_mem (by omega))) | (exact hx _ (by assumption)) | (exact Nat.le_trans (hx _ (by assumption)) (by omega)) | (simp only [List.length_append, List.length_take, List.length_drop, List.length_cons, List.length_nil]; omega) | (simp_all; done)) (by first | omega | assumption | (exact hx _ (getD_mem (by omega))) | (exact hx _ (by assumption)) | (exact Nat.le_trans (hx _ (by assumption)) (by omega)) | (simp only [List.length_append, List.length_take, List.length_drop, List.length_cons, List.length_nil]; omega) | (simp_all; done)) (by first | omega | assumption | (exact hx _ (getD_mem (by omega))) | (exact hx _ (by assumption)) | (exact Nat.le_trans (hx _ (by assumption)) (by omega)) | (simp only [List.length_append, List.length_take, List.length_drop, List.length_cons, List.length_nil]; omega) | (simp_all; done))) (.skip _ _ (.skip _ _ (.skip _ _ .nil))) rfl) rfl rfl ?_
  refine Ch.s (.tup [(.row 19000), (.d (.bool (decide ((((primL n.toNat on off).length : Nat) : Int) ≤ 60))))]) (.pure (.move _ rfl rfl)) ?_
  refine Ch.s (.row 19000) (.pure (.extract _ rfl rfl rfl)) ?_
  refine Ch.s (.d (.bool (decide ((((primL n.toNat on off).length : Nat) : Int) ≤ 60)))) (.pure (.extract _ rfl rfl rfl)) ?_
  refine Ch.s (.row 19000) (.pure (.assign _ rfl rfl)) ?_
  refine Ch.s (.d (.bool (decide ((((primL n.toNat on off).length : Nat) : Int) ≤ 60)))) (.pure (.assign _ rfl rfl)) ?_
  refine Ch.nil ?_
  refine T_seq ?_
  refine T_seq ?_
  refine T_region hc ?_
  refine Ch.s (.d (.bool (decide ((((primL n.toNat on off).length : Nat) : Int) ≤ 60)))) (.pure (.move _ rfl rfl)) ?_
  refine Ch.s (.d (.bool (!(decide ((((primL n.toNat on off).length : Nat) : Int) ≤ 60))))) (.pure (.not _ _ rfl rfl)) ?_
  refine Ch.nil ?_
  refine T_cond (b := (!(decide ((((primL n.toNat on off).length : Nat) : Int) ≤ 60)))) rfl (fun h2 => ?_) (fun h2 => ?_)
  ·
   replace h2 := nott h2
   replace h2 := of_decide_eq_false h2
   refine T_seq ?_
   refine T_region hc ?_
   refine Ch.s (.c (.slice none 0 0)) (.pure (.assign _ rfl rfl)) ?_
   refine Ch.s (.d (.bool false)) (.pure (.assign _ rfl rfl)) ?_
   refine Ch.nil ?_
   refine T_ret ?_
   refine And.intro (.inr rfl) ?_
   exact Exists.intro [(.c (.slice none 0 0)), (.d (.bool false))] (Exists.intro [] (Exists.intro [] (And.intro (.cons (.tmp 6 rfl) (.cons (.tmp 7 rfl) .nil)) (And.intro (.cons (.any _) (.cons (.any _) (.cons (.any _) .nil))) (And.intro (.tup (.cons (Exp.of (congrArg (D.slice true 1) (by first | (rw [primR, primOk, h1]; rfl) | (rw [primR, primOk, h1, decide_eq_true h2]; rfl) | (rw [primR, primOk, h1, decide_eq_false h2]; rfl) | (rw [primR, primOk, h1, decide_eq_true (show (((primL n.toNat on off).length : Nat) : Int) ≤ 60 by omega)]; rfl) | (rw [primR, primOk, h1, decide_eq_false (show ¬ (((primL n.toNat on off).length : Nat) : Int) ≤ 60 by omega)]; rfl) | (rw [primOk, h1]; rfl) | (rw [primOk, h1, decide_eq_true h2]; rfl) | (rw [primOk, h1, decide_eq_false h2]; rfl) | (rw [primOk, h1, decide_eq_true (show (((primL n.toNat on off).length : Nat) : Int) ≤ 60 by omega)]; rfl) | (rw [primOk, h1, decide_eq_false (show ¬ (((primL n.toNat on off).length : Nat) : Int) ≤ 60 by omega)]; rfl))) (.nil true 1)) (.cons (Exp.of (congrArg D.bool (by first | (rw [primR, primOk, h1]; rfl) | (rw [primR, primOk, h1, decide_eq_true h2]; rfl) | (rw [primR, primOk, h1, decide_eq_false h2]; rfl) | (rw [primR, primOk, h1, decide_eq_true (show (((primL n.toNat on off).length : Nat) : Int) ≤ 60 by omega)]; rfl) | (rw [primR, primOk, h1, decide_eq_false (show ¬ (((primL n.toNat on off).length : Nat) : Int) ≤ 60 by omega)]; rfl) | (rw [primOk, h1]; rfl) | (rw [primOk, h1, decide_eq_true h2]; rfl) | (rw [primOk, h1, decide_eq_false h2]; rfl) | (rw [primOk, h1, decide_eq_true (show (((primL n.toNat on off).length : Nat) : Int) ≤ 60 by omega)]; rfl) | (rw [primOk, h1, decide_eq_false (show ¬ (((primL n.toNat on off).length : Nat) : Int) ≤ 60 by omega)]; rfl))) (.d _)) .nil))) (And.intro rfl rfl))))))
  ·
   replace h2 := notf h2
   replace h2 := of_decide_eq_true h2
   refine T_skip ?_
   refine T_seq ?_
   refine T_region hc ?_
   refine Ch.s (.row 19000) (.pure (.move _ rfl rfl)) ?_
   refine Ch.s (.row 19000) (.pure (.assign _ rfl rfl)) ?_
   refine Ch.s (.d (.bool true)) (.pure (.assign _ rfl rfl)) ?_
   refine Ch.nil ?_
   refine T_ret ?_
   refine And.intro (.inr rfl) ?_
   exact Exists.intro [(.row 19000), (.d (.bool true))] (Exists.intro [] (Exists.intro [19000] (And.intro (.cons (.tmp 6 rfl) (.cons (.tmp 7 rfl) .nil)) (And.intro (.cons (.any _) (.cons (.any _) (.cons (.any _) .nil))) (And.intro (.tup (.cons (Exp.of (congrArg (D.slice true 1) (by first | (rw [primR, primOk, h1]; rfl) | (rw [primR, primOk, h1, decide_eq_true h2]; rfl) | (rw [primR, primOk, h1, decide_eq_false h2]; rfl) | (rw [primR, primOk, h1, decide_eq_true (show (((primL n.toNat on off).length : Nat) : Int) ≤ 60 by omega)]; rfl) | (rw [primR, primOk, h1, decide_eq_false (show ¬ (((primL n.toNat on off).length : Nat) : Int) ≤ 60 by omega)]; rfl) | (rw [primOk, h1]; rfl) | (rw [primOk, h1, decide_eq_true h2]; rfl) | (rw [primOk, h1, decide_eq_false h2]; rfl) | (rw [primOk, h1, decide_eq_true (show (((primL n.toNat on off).length : Nat) : Int) ≤ 60 by omega)]; rfl) | (rw [primOk, h1, decide_eq_false (show ¬ (((primL n.toNat on off).length : Nat) : Int) ≤ 60 by omega)]; rfl))) (.row rfl)) (.cons (Exp.of (congrArg D.bool (by first | (rw [primR, primOk, h1]; rfl) | (rw [primR, primOk, h1, decide_eq_true h2]; rfl) | (rw [primR, primOk, h1, decide_eq_false h2]; rfl) | (rw [primR, primOk, h1, decide_eq_true (show (((primL n.toNat on off).length : Nat) : Int) ≤ 60 by omega)]; rfl) | (rw [primR, primOk, h1, decide_eq_false (show ¬ (((primL n.toNat on off).length : Nat) : Int) ≤ 60 by omega)]; rfl) | (rw [primOk, h1]; rfl) | (rw [primOk, h1, decide_eq_true h2]; rfl) | (rw [primOk, h1, decide_eq_false h2]; rfl) | (rw [primOk, h1, decide_eq_true (show (((primL n.toNat on off).length : Nat) : Int) ≤ 60 by omega)]; rfl) | (rw [primOk, h1, decide_eq_false (show ¬ (((primL n.toNat on off).length : Nat) : Int) ≤ 60 by omega)]; rfl))) (.d _)) .nil))) (And.intro rfl rfl))))))

theorem sp_Clone_str (xs : List (List UInt8)) (hn : xs.length ≤ 1048576) : Sp Try.prog 57 [(.slice false 1 (xs.map D.str))] [.any] (.slice true 1 (xs.map D.str)) := by
 refine Sp_intro (lend := true) Try.func57 rfl rfl rfl (fun _ => rfl) (fun c hc hX => ?_)
 refine T_seq ?_
 refine T_region hc ?_
 refine Ch.s (.c (.slice none 0 0)) (.pure (.assign _ rfl rfl)) ?_
 refine Ch.nil ?_
 refine T_seq ?_
 refine T_seq ?_
 refine T_region hc ?_
 refine Ch.s (.d (.slice false 1 (xs.map D.str))) (.pure (.move _ rfl rfl)) ?_
 refine Ch.nilq (sz := 1) (xs := (xs.map D.str)) _ _ _ _ 9 rfl rfl Try.underlying23 (.sh _ _) rfl rfl (fun q1 hzq1 => ?_)
 refine Ch.nil ?_
 refine T_cond (b := (q1)) rfl (fun h1 => ?_) (fun h1 => ?_)
 ·
  try have hz := hzq1 h1
  refine T_seq ?_
  refine T_region hc ?_
  refine Ch.s (.c (.slice none 0 0)) (.pure (.assign _ rfl rfl)) ?_
  refine Ch.nil ?_
  refine T_ret ?_
  refine And.intro (.inr rfl) ?_
  exact Exists.intro [(.c (.slice none 0 0))] (Exists.intro [] (Exists.intro [] (And.intro (.cons (.tmp 2 rfl) .nil) (And.intro (.cons (.any _) .nil) (And.intro (Exp.of (congrArg (D.slice true 1) (by first | rfl | (rw [hz]; done))) (.nil true 1)) (And.intro rfl rfl))))))
 ·
  try have hz := hzq1 h1
  refine T_skip ?_
  refine T_seq ?_
  refine T_region hc ?_
  refine Ch.s (.row 5000) (.slice 5000 _ 9 _ rfl sty23 (xs := []) rfl rfl .nil rfl rfl (by decide)) ?_
  refine Ch.s (.d (.slice false 1 (xs.map D.str))) (.pure (.move _ rfl rfl)) ?_
  refine Ch.step (v := (.row 7000)) rfl (.append 7000 _ _ _ 9 rfl sty23 (by decide) (.rowK rfl) (.inr ⟨_, rfl, rfl⟩) (.sh _ _) rfl (by first | omega | (simp only [List.length_append, List.length_map, List.length_cons, List.length_nil]; omega) | (simp; omega) | (simp; done))) rfl rfl ?_
  refine Ch.s (.row 7000) (.pure (.assign _ rfl rfl)) ?_
  refine Ch.nil ?_
  refine T_ret ?_
  refine And.intro (.inr rfl) ?_
  exact Exists.intro [(.row 7000)] (Exists.intro [] (Exists.intro [7000] (And.intro (.cons (.tmp 2 rfl) .nil) (And.intro (.cons (.any _) .nil) (And.intro (.row rfl) (And.intro rfl rfl))))))

theorem sp_spec_l1OwnS (xs : List (List UInt8)) (hn : xs.length ≤ 1048576) : Sp Try.prog 52 [(.slice false 1 (xs.map D.str))] [.any] (.slice true 1 (xs.map D.str)) := by
 refine Sp_intro (lend := true) Try.func52 rfl rfl rfl (fun _ => rfl) (fun c hc hX => ?_)
 refine T_seq ?_
 refine T_region hc ?_
 refine Ch.s (.c (.slice none 0 0)) (.pure (.assign _ rfl rfl)) ?_
 refine Ch.nil ?_
 refine T_seq ?_
 refine T_region hc ?_
 refine Ch.s (.row 3000) (.slice 3000 _ 9 _ rfl sty23 (xs := []) rfl rfl .nil rfl rfl (by decide)) ?_
 refine Ch.s (.d (.slice false 1 (xs.map D.str))) (.pure (.move _ rfl rfl)) ?_
 refine Ch.step (v := (.row 5000)) rfl (.append 5000 _ _ _ 9 rfl sty23 (by decide) (.rowK rfl) (.inr ⟨_, rfl, rfl⟩) (.sh _ _) rfl (by first | omega | (simp only [List.length_append, List.length_map, List.length_cons, List.length_nil]; omega) | (simp; omega) | (simp; done))) rfl rfl ?_
 refine Ch.s (.row 5000) (.pure (.assign _ rfl rfl)) ?_
 refine Ch.nil ?_
 refine T_ret ?_
 refine And.intro (.inr rfl) ?_
 exact Exists.intro [(.row 5000)] (Exists.intro [] (Exists.intro [5000] (And.intro (.cons (.tmp 2 rfl) .nil) (And.intro (.cons (.any _) .nil) (And.intro (.row rfl) (And.intro rfl rfl))))))

theorem en25 : Enters Try.prog 25 := ⟨_, Try.func25, by kernel_rfl, rfl⟩

theorem en27 : Enters Try.prog 27 := ⟨_, Try.func27, by kernel_rfl, rfl⟩

theorem en29 : Enters Try.prog 29 := ⟨_, Try.func29, by kernel_rfl, rfl⟩

def bulkF {τ : Type} (f : τ → Nat) (xs : List τ) : Nat := xs.length + (xs.map f).sum

theorem le_sumL {x : Nat} : ∀ {l : List Nat}, x ∈ l → x ≤ l.sum
  | y :: l, h => by
    rw [List.sum_cons]
    rcases List.mem_cons.1 h with rfl | h
    · omega
    · have := le_sumL h; omega

theorem bulkF_mem {τ : Type} {f : τ → Nat} {xs : List τ} {n : Nat} (h : bulkF f xs ≤ n) : ∀ x ∈ xs, f x ≤ n := by
  intro x hx
  have : f x ≤ (xs.map f).sum := le_sumL (List.mem_map.2 ⟨x, hx, rfl⟩)
  unfold bulkF at h; omega

theorem en30 : Enters Try.prog 30 := ⟨_, Try.func30, by kernel_rfl, rfl⟩

theorem en60 : Enters Try.prog 60 := ⟨_, Try.func60, by kernel_rfl, rfl⟩

theorem en61 : Enters Try.prog 61 := ⟨_, Try.func61, by kernel_rfl, rfl⟩

structure Lin {α : Type} (le : α → α → Bool) : Prop where
  trans : ∀ a b c : α, le a b = true → le b c = true → le a c = true
  total : ∀ a b : α, (le a b || le b a) = true
  anti : ∀ a b : α, le a b = true → le b a = true → a = b

def Rise {α : Type} (le : α → α → Bool) (l : List α) : Prop := l.Pairwise fun a b => le a b = true ∧ a ≠ b

theorem rise_ext {α : Type} {le : α → α → Bool} (h : Lin le) : ∀ {l m : List α}, Rise le l → Rise le m → (∀ a, a ∈ l ↔ a ∈ m) → l = m
  | [], [], _, _, _ => rfl
  | [], b :: m, _, _, e => absurd ((e b).2 List.mem_cons_self) List.not_mem_nil
  | a :: l, [], _, _, e => absurd ((e a).1 List.mem_cons_self) List.not_mem_nil
  | a :: l, b :: m, hl, hm, e => by
    unfold Rise at hl hm
    rw [List.pairwise_cons] at hl hm
    have hab : a = b := by
      rcases List.mem_cons.1 ((e a).1 List.mem_cons_self) with h1 | h1
      · exact h1
      · rcases List.mem_cons.1 ((e b).2 List.mem_cons_self) with h2 | h2
        · exact h2.symm
        · exact h.anti _ _ (hl.1 b h2).1 (hm.1 a h1).1
    subst hab
    congr 1
    refine rise_ext h hl.2 hm.2 fun x => ⟨fun hx => ?_, fun hx => ?_⟩
    · rcases List.mem_cons.1 ((e x).1 (List.mem_cons_of_mem _ hx)) with h1 | h1
      · exact absurd h1.symm (hl.1 x hx).2
      · exact h1
    · rcases List.mem_cons.1 ((e x).2 (List.mem_cons_of_mem _ hx)) with h1 | h1
      · exact absurd h1.symm (hm.1 x hx).2
      · exact h1

theorem upTo_rise {α : Type} [Inhabited α] [DecidableEq α] {le : α → α → Bool} (h : Lin le) {zs : List α} (hz : zs.Pairwise fun a b => le a b = true) : ∀ m, m ≤ zs.length →
    Rise le (Lib.compactUpTo zs.toArray m) ∧ (∀ a, a ∈ Lib.compactUpTo zs.toArray m ↔ a ∈ zs.take m) ∧ ∀ a ∈ Lib.compactUpTo zs.toArray m, 0 < m ∧ le a (zs.getD (m - 1) default) = true
  | 0, _ => ⟨List.Pairwise.nil, fun a => by simp [Lib.compactUpTo], fun a ha => by simp [Lib.compactUpTo] at ha⟩
  | m + 1, hm => by
    obtain ⟨h1, h2, h3⟩ := upTo_rise h hz m (by omega)
    have hg : ∀ j, j < zs.length → zs.toArray[j]! = zs.getD j default := by intro j hj; simp [hj]
    have hml : zs.getD m default = zs[m] := by simp [show m < zs.length by omega]
    have hrefl : ∀ a : α, le a a = true := fun a => by have := h.total a a; rwa [Bool.or_self] at this
    have hstep : 0 < m → le (zs.getD (m - 1) default) (zs.getD m default) = true := by
      intro h0
      have := List.pairwise_iff_getElem.1 hz (m - 1) m (by omega) (by omega) (by omega)
      rw [hml, show zs.getD (m - 1) default = zs[m - 1] by simp [show m - 1 < zs.length by omega]]; exact this
    rw [Lib.compactUpTo_succ, List.take_succ_eq_append_getElem (by omega), ← hml]
    cases hk : Lib.keeps zs.toArray m with
    | false =>
      have h4 : ¬ (m = 0 ∨ zs.toArray[m]! ≠ zs.toArray[m - 1]!) := by
        unfold Lib.keeps at hk
        exact of_decide_eq_false hk
      have h0 : 0 < m := Nat.pos_of_ne_zero fun e => h4 (.inl e)
      have h5 : zs.getD m default = zs.getD (m - 1) default := by
        rw [← hg m (by omega), ← hg (m - 1) (by omega)]
        exact Classical.byContradiction fun e => h4 (.inr e)
      rw [if_neg (by decide), List.append_nil]
      refine ⟨h1, fun a => ?_, fun a ha => ⟨by omega, ?_⟩⟩
      · rw [h2, List.mem_append, List.mem_singleton]
        refine ⟨.inl, fun hh => hh.elim id fun e => ?_⟩
        rw [e, h5, show zs.getD (m - 1) default = zs[m - 1] by simp [show m - 1 < zs.length by omega]]
        exact List.mem_take_iff_getElem.2 ⟨m - 1, by omega, rfl⟩
      · show le a (zs.getD m default) = true
        rw [h5]; exact (h3 a ha).2
    | true =>
      have h4 : m = 0 ∨ zs.toArray[m]! ≠ zs.toArray[m - 1]! := by
        unfold Lib.keeps at hk
        exact of_decide_eq_true hk
      rw [if_pos rfl, hg m (by omega)]
      refine ⟨?_, fun a => ?_, fun a ha => ⟨by omega, ?_⟩⟩
      · unfold Rise at h1 ⊢
        rw [List.pairwise_append]
        refine ⟨h1, List.pairwise_singleton _ _, fun a ha b hb => ?_⟩
        rw [List.mem_singleton] at hb
        subst hb
        obtain ⟨h0, h5⟩ := h3 a ha
        refine ⟨h.trans _ _ _ h5 (hstep h0), fun e => ?_⟩
        rcases h4 with h4 | h4
        · omega
        · rw [hg m (by omega), hg (m - 1) (by omega)] at h4
          subst e
          exact h4 (h.anti _ _ h5 (hstep h0))
      · rw [List.mem_append, List.mem_append, h2]
      · show le a (zs.getD m default) = true
        rcases List.mem_append.1 ha with ha | ha
        · exact h.trans _ _ _ (h3 a ha).2 (hstep (h3 a ha).1)
        · rw [List.mem_singleton] at ha; subst ha; exact hrefl _

def tid {α : Type} [Inhabited α] [DecidableEq α] (le : α → α → Bool) (l : List α) : List α := Lib.compact (l.mergeSort le)

theorem tid_rise {α : Type} [Inhabited α] [DecidableEq α] {le : α → α → Bool} (h : Lin le) (l : List α) : Rise le (tid le l) :=
  (upTo_rise h (List.pairwise_mergeSort (fun a b c h1 h2 => h.trans a b c h1 h2) (fun a b => h.total a b) l) _ (Nat.le_refl _)).1

theorem tid_mem {α : Type} [Inhabited α] [DecidableEq α] {le : α → α → Bool} (h : Lin le) {l : List α} {a : α} : a ∈ tid le l ↔ a ∈ l := by
  have := (upTo_rise h (List.pairwise_mergeSort (fun a b c h1 h2 => h.trans a b c h1 h2) (fun a b => h.total a b) l) _ (Nat.le_refl _)).2.1 a
  rw [List.take_length, List.mem_mergeSort] at this
  exact this

theorem upTo_len {α : Type} [Inhabited α] [DecidableEq α] (d : Array α) (m : Nat) : (Lib.compactUpTo d m).length ≤ m := by
  unfold Lib.compactUpTo
  rw [List.length_map]
  have := List.length_filter_le (Lib.keeps d) (List.range m)
  rwa [List.length_range] at this

theorem compact_len {α : Type} [Inhabited α] [DecidableEq α] (l : List α) : (Lib.compact l).length ≤ l.length := upTo_len _ _

theorem bl_irr : ∀ x : List UInt8, Op.bytesLess x x = false
  | [] => rfl
  | a :: x => by
    rw [Op.bytesLess, bl_irr x, Bool.and_false, Bool.or_false]
    simp

theorem u8_lt {a b : UInt8} : a < b ↔ a.toNat < b.toNat := UInt8.lt_iff_toNat_lt

theorem bl_cons {a b : UInt8} {x y : List UInt8} : Op.bytesLess (a :: x) (b :: y) = true ↔ a.toNat < b.toNat ∨ (a.toNat = b.toNat ∧ Op.bytesLess x y = true) := by
  rw [Op.bytesLess, Bool.or_eq_true, decide_eq_true_iff, Bool.and_eq_true, beq_iff_eq, u8_lt, UInt8.toNat_inj]

theorem bl_trans : ∀ {x y z : List UInt8}, Op.bytesLess x y = true → Op.bytesLess y z = true → Op.bytesLess x z = true
  | [], [], _, h, _ => by simp [Op.bytesLess] at h
  | [], b :: y, [], _, h => by simp [Op.bytesLess] at h
  | [], b :: y, c :: z, _, _ => rfl
  | a :: x, [], _, h, _ => by simp [Op.bytesLess] at h
  | a :: x, b :: y, [], _, h => by simp [Op.bytesLess] at h
  | a :: x, b :: y, c :: z, h1, h2 => by
    rw [bl_cons] at h1 h2 ⊢
    rcases h1 with h1 | ⟨h1, h3⟩ <;> rcases h2 with h2 | ⟨h2, h4⟩
    · exact .inl (by omega)
    · exact .inl (by omega)
    · exact .inl (by omega)
    · exact .inr ⟨by omega, bl_trans h3 h4⟩

theorem bl_tri : ∀ {x y : List UInt8}, ¬ Op.bytesLess x y = true → ¬ Op.bytesLess y x = true → x = y
  | [], [], _, _ => rfl
  | [], b :: y, h, _ => absurd rfl h
  | a :: x, [], _, h => absurd rfl h
  | a :: x, b :: y, h1, h2 => by
    rw [bl_cons] at h1 h2
    have e : a = b := UInt8.toNat_inj.1 (by
      have h3 : ¬ a.toNat < b.toNat := fun h => h1 (.inl h)
      have h4 : ¬ b.toNat < a.toNat := fun h => h2 (.inl h)
      omega)
    subst e
    rw [bl_tri (fun h => h1 (.inr ⟨rfl, h⟩)) (fun h => h2 (.inr ⟨rfl, h⟩))]

theorem bl_lt : ∀ x y : List UInt8, (Op.bytesLess x y = true) ↔ x < y
  | [], [] => by simp [Op.bytesLess]
  | _ :: _, [] => by simp [Op.bytesLess]
  | [], _ :: _ => by simp [Op.bytesLess]
  | a :: x, b :: y => by
    rw [bl_cons, List.cons_lt_cons_iff, u8_lt, bl_lt x y, UInt8.toNat_inj]

def leS (x y : List UInt8) : Bool := decide (x ≤ y)

theorem leS_bl (x y : List UInt8) : leS x y = !Op.bytesLess y x := by
  unfold leS
  rw [Bool.eq_iff_iff, decide_eq_true_iff, Bool.not_eq_true', ← List.not_lt, ← bl_lt]
  simp

theorem linS : Lin leS := by
  refine ⟨fun a b c h1 h2 => ?_, fun a b => ?_, fun a b h1 h2 => ?_⟩
  · rw [leS_bl, Bool.not_eq_true'] at h1 h2 ⊢
    rw [Bool.eq_false_iff] at *
    intro hc
    by_cases hab : a = b
    · subst hab; exact h2 hc
    · by_cases h3 : Op.bytesLess a b = true
      · exact h2 (bl_trans hc h3)
      · exact hab (bl_tri h3 h1)
  · rw [leS_bl, leS_bl]
    cases hab : Op.bytesLess a b with
    | false => simp
    | true =>
      cases hba : Op.bytesLess b a with
      | false => rfl
      | true => have := bl_trans hab hba; rw [bl_irr] at this; cases this
  · rw [leS_bl, Bool.not_eq_true', Bool.eq_false_iff] at h1 h2
    exact bl_tri h2 h1

def tidS (l : List (List UInt8)) : List (List UInt8) := tid leS l

theorem bl_le {a b : List UInt8} (h : Op.bytesLess a b = true) : leS a b = true ∧ a ≠ b := by
  refine ⟨?_, fun e => ?_⟩
  · rw [leS_bl]
    cases hba : Op.bytesLess b a with
    | false => rfl
    | true => have := bl_trans h hba; rw [bl_irr] at this; cases this
  · subst e; rw [bl_irr] at h; cases h

theorem sp_Sort_str (xs : List (List UInt8)) (hn : xs.length ≤ 1048576) : Sp Try.prog 60 [.slice true 1 (xs.map D.str)] [.slice true 1 ((xs.mergeSort leS).map D.str)] (.tup []) :=
  sp_turnRow encStrD (srt := fun l => l.mergeSort leS) (fun l => List.length_mergeSort l) List.mergeSort_nil Try.slices_Sort_string_none Try.slices_Sort_string xs hn

theorem sp_Compact_str (xs : List (List UInt8)) (hn : xs.length ≤ 1048576) : Sp Try.prog 61 [.slice true 1 (xs.map D.str)] [.any] (.slice true 1 ((Lib.compact xs).map D.str)) := by
  have h := sp_cutRow (P := Try.prog) (fn := 61) encStrD (more := []) (mvs := []) (fun S w vs F hd => by rw [DRs] at hd; exact hd) (fun S w => by rw [List.map_nil, DRs]; exact ⟨rfl, rfl⟩) xs (Lib.compact xs ++ List.replicate (xs.length - (Lib.compact xs).length) []) (Lib.compact xs).length
    (by have := compact_len xs; rw [List.length_append, List.length_replicate]; omega) (by rw [List.length_append]; omega) (fun _ p cap w => Try.slices_Compact_string_empty p cap w) (fun blk cap w hH hc hm => Try.slices_Compact_string blk 0 cap xs w hH (by omega) hc)
  rw [List.take_left] at h
  exact h

theorem en55 : Enters Try.prog 55 := ⟨_, Try.func55, by kernel_rfl, rfl⟩

theorem en57 : Enters Try.prog 57 := ⟨_, Try.func57, by kernel_rfl, rfl⟩

theorem en58 : Enters Try.prog 58 := ⟨_, Try.func58, by kernel_rfl, rfl⟩

theorem en51 : Enters Try.prog 51 := ⟨_, Try.func51, by kernel_rfl, rfl⟩

theorem en52 : Enters Try.prog 52 := ⟨_, Try.func52, by kernel_rfl, rfl⟩

theorem en54 : Enters Try.prog 54 := ⟨_, Try.func54, by kernel_rfl, rfl⟩

theorem en26 : Enters Try.prog 26 := ⟨_, Try.func26, by kernel_rfl, rfl⟩

theorem en28 : Enters Try.prog 28 := ⟨_, Try.func28, by kernel_rfl, rfl⟩

theorem en31 : Enters Try.prog 31 := ⟨_, Try.func31, by kernel_rfl, rfl⟩

def withC (l : List (List UInt8)) (c : List UInt8) : List (List UInt8) := l.filter fun a => hasB a c

theorem with_eq (l : List (List UInt8)) (c : List UInt8) : l.filter (fun u => !(fun a => !hasB a c) u) = withC l c := by
  unfold withC; congr 1; funext u; simp

theorem with_le (l : List (List UInt8)) (c : List UInt8) : (withC l c).length ≤ l.length := List.length_filter_le _ _

def esOne (l : List (List UInt8)) (c : List UInt8) : List (List UInt8) := if (withC l c).length = 1 then [(withC l c).getD 0 default] else []

def esI (l on : List (List UInt8)) (k : Nat) : List (List UInt8) := (on.take k).flatMap (esOne l)

theorem esI_succ {l on : List (List UInt8)} {k : Nat} (h : k < on.length) : esI l on (k + 1) = esI l on k ++ esOne l (on.getD k default) := by
  have hg : on.getD k default = on[k] := by simp [h]
  unfold esI
  rw [List.take_succ_eq_append_getElem h, List.flatMap_append, hg]
  simp

theorem esI_yes {l on : List (List UInt8)} {k : Nat} (h : k < on.length) (h1 : ((withC l (on.getD k default)).length : Int) = 1) : esI l on k ++ [(withC l (on.getD k default)).getD 0 default] = esI l on (k + 1) := by
  rw [esI_succ h, esOne, if_pos (by omega)]

theorem esI_no {l on : List (List UInt8)} {k : Nat} (h : k < on.length) (h1 : ¬ ((withC l (on.getD k default)).length : Int) = 1) : esI l on k = esI l on (k + 1) := by
  rw [esI_succ h, esOne, if_neg (by omega), List.append_nil]

theorem esI_le (l on : List (List UInt8)) : ∀ k, k ≤ on.length → (esI l on k).length ≤ k
  | 0, _ => Nat.le_refl 0
  | k + 1, hk => by
    have := esI_le l on k (by omega)
    rw [esI_succ (by omega), List.length_append, esOne]
    split <;> simp <;> omega

def delAt (l : List (List UInt8)) (k : Nat) : List (List UInt8) := l.take k ++ l.drop (k + 1)

def esQ (l on : List (List UInt8)) (k : Nat) : Bool := on.any fun c => hasB (l.getD k default) c && !inB (delAt l k) c

def esTo (l on : List (List UInt8)) (k : Nat) : List (List UInt8) := selTo k (esQ l on) fun k => l.getD k default

def esS (l on : List (List UInt8)) : List (List UInt8) := esTo l on l.length

theorem esTo_le (l on : List (List UInt8)) (k : Nat) : (esTo l on k).length ≤ k := selTo_le _ _ _

theorem bl_app {u v : List UInt8} (a b : List UInt8) (hl : u.length = v.length) (h : Op.bytesLess u v = true) : Op.bytesLess (u ++ a) (v ++ b) = true := by
  induction u generalizing v with
  | nil =>
    cases v with
    | nil => simp [Op.bytesLess] at h
    | cons y v => simp at hl
  | cons x u ih =>
    cases v with
    | nil => simp at hl
    | cons y v =>
      rw [bl_cons] at h
      rw [List.cons_append, List.cons_append, bl_cons]
      rcases h with h | ⟨h1, h2⟩
      · exact .inl h
      · exact .inr ⟨h1, ih (by simpa using hl) h2⟩

theorem bl_pre (u : List UInt8) {a b : UInt8} (h : a.toNat < b.toNat) : Op.bytesLess (u ++ [a]) (u ++ [b]) = true := by
  induction u with
  | nil => rw [List.nil_append, List.nil_append, bl_cons]; exact .inl h
  | cons x u ih => rw [List.cons_append, List.cons_append, bl_cons]; exact .inr ⟨rfl, ih⟩

theorem three_flat : ∀ {l : List (List UInt8)} {n : Nat}, l.Pairwise (fun a b => Op.bytesLess a b = true) → (∀ u ∈ l, u.length = n) → (l.flatMap three).Pairwise (fun a b => Op.bytesLess a b = true)
  | [], _, _, _ => List.Pairwise.nil
  | u :: l, n, h, hn => by
    rw [List.pairwise_cons] at h
    rw [List.flatMap_cons, List.pairwise_append]
    refine ⟨?_, three_flat h.2 (fun v hv => hn v (List.mem_cons_of_mem _ hv)), fun a ha b hb => ?_⟩
    · unfold three
      simp only [List.pairwise_cons, List.mem_cons, List.not_mem_nil, or_false]
      refine ⟨fun b hb => ?_, fun b hb => ?_, fun b hb => hb.elim, List.Pairwise.nil⟩
      · rcases hb with rfl | rfl
        · exact bl_pre u (by decide)
        · exact bl_pre u (by decide)
      · subst hb; exact bl_pre u (by decide)
    · obtain ⟨v, hv, hb⟩ := List.mem_flatMap.1 hb
      have hl : u.length = v.length := by rw [hn u List.mem_cons_self, hn v (List.mem_cons_of_mem _ hv)]
      have hlt := h.1 v hv
      unfold three at ha hb
      simp only [List.mem_cons, List.not_mem_nil, or_false] at ha hb
      rcases ha with rfl | rfl | rfl <;> rcases hb with rfl | rfl | rfl <;> exact bl_app _ _ hl hlt

theorem cubes_less : ∀ n, (cubes n).Pairwise (fun a b => Op.bytesLess a b = true)
  | 0 => by simp [cubes]
  | n + 1 => three_flat (cubes_less n) (fun u hu => cubes_mem n u hu)

theorem primL_rise (n : Nat) (on off : List (List UInt8)) : Rise leS (primL n on off) := by
  unfold Rise primL
  exact List.Pairwise.filter _ ((cubes_less n).imp fun h => bl_le h)

theorem primR_rise (n : Int) (on off : List (List UInt8)) : Rise leS (primR n on off) := by
  unfold primR
  split
  · exact primL_rise _ _ _
  · exact List.Pairwise.nil

theorem rise_inj {l : List (List UInt8)} (h : Rise leS l) {i j : Nat} (hi : i < l.length) (hj : j < l.length) (e : l[i] = l[j]) : i = j := by
  unfold Rise at h
  rw [List.pairwise_iff_getElem] at h
  rcases Nat.lt_trichotomy i j with hlt | he | hlt
  · exact absurd e (h i j hi hj hlt).2
  · exact he
  · exact absurd e.symm (h j i hj hi hlt).2

theorem del_mem {l : List (List UInt8)} (h : Rise leS l) {k : Nat} (hk : k < l.length) {b : List UInt8} : b ∈ delAt l k ↔ b ∈ l ∧ b ≠ l[k] := by
  have hsplit : l = l.take k ++ l[k] :: l.drop (k + 1) := by rw [← List.drop_eq_getElem_cons hk, List.take_append_drop]
  have hne : ∀ b ∈ delAt l k, b ≠ l[k] := by
    intro b hb e
    unfold delAt at hb
    rcases List.mem_append.1 hb with hb | hb
    · obtain ⟨j, hj, ej⟩ := List.mem_iff_getElem.1 hb
      rw [List.getElem_take] at ej
      rw [List.length_take] at hj
      have := rise_inj h (i := j) (j := k) (by omega) hk (by rw [ej, e])
      omega
    · obtain ⟨j, hj, ej⟩ := List.mem_iff_getElem.1 hb
      rw [List.getElem_drop] at ej
      rw [List.length_drop] at hj
      have := rise_inj h (i := k + 1 + j) (j := k) (by omega) hk (by rw [ej, e])
      omega
  constructor
  · intro hb
    refine ⟨?_, hne b hb⟩
    unfold delAt at hb
    rcases List.mem_append.1 hb with hb | hb
    · exact List.mem_of_mem_take hb
    · exact List.mem_of_mem_drop hb
  · rintro ⟨hb, hn⟩
    rw [hsplit] at hb
    unfold delAt
    rcases List.mem_append.1 hb with hb | hb
    · exact List.mem_append_left _ hb
    · rcases List.mem_cons.1 hb with rfl | hb
      · exact absurd rfl hn
      · exact List.mem_append_right _ hb

theorem ess_eq {l on : List (List UInt8)} (h : Rise leS l) : tidS (esI l on on.length) = esS l on := by
  refine rise_ext linS (tid_rise linS _) ?_ fun a => ?_
  · unfold Rise esS esTo selTo
    rw [List.pairwise_map]
    refine List.Pairwise.imp_of_mem ?_ (List.Pairwise.filter _ List.pairwise_lt_range)
    intro i j hi hj hlt
    have h1 := List.mem_range.1 (List.mem_filter.1 hi).1
    have h2 := List.mem_range.1 (List.mem_filter.1 hj).1
    have := h
    unfold Rise at this
    rw [List.pairwise_iff_getElem] at this
    have := this i j h1 h2 hlt
    rw [show l.getD i default = l[i] by simp [h1], show l.getD j default = l[j] by simp [h2]]
    exact this
  · rw [tidS, tid_mem linS, esI, List.take_length, List.mem_flatMap]
    constructor
    · rintro ⟨c, hc, ha⟩
      unfold esOne at ha
      split at ha
      · rename_i h1
        rw [List.mem_singleton] at ha
        have hw : withC l c = [a] := by
          obtain ⟨x, hx⟩ := List.length_eq_one_iff.1 h1
          rw [hx] at ha ⊢
          rw [ha]; rfl
        have hm : a ∈ withC l c := by rw [hw]; exact List.mem_singleton.2 rfl
        obtain ⟨hal, hac⟩ := List.mem_filter.1 hm
        obtain ⟨k, hk, rfl⟩ := List.mem_iff_getElem.1 hal
        refine List.mem_map.2 ⟨k, List.mem_filter.2 ⟨List.mem_range.2 hk, ?_⟩, by simp [hk]⟩
        refine List.any_eq_true.2 ⟨c, hc, ?_⟩
        rw [show l.getD k default = l[k] by simp [hk], hac, Bool.true_and, Bool.not_eq_true', inB, List.any_eq_false]
        intro b hb hbc
        obtain ⟨h2, h3⟩ := (del_mem h hk).1 hb
        have : b ∈ withC l c := List.mem_filter.2 ⟨h2, hbc⟩
        rw [hw, List.mem_singleton] at this
        exact h3 this
      · cases ha
    · intro ha
      obtain ⟨k, hk, rfl⟩ := List.mem_map.1 ha
      obtain ⟨hk1, hk2⟩ := List.mem_filter.1 hk
      have hkl := List.mem_range.1 hk1
      obtain ⟨c, hc, hcc⟩ := List.any_eq_true.1 hk2
      rw [Bool.and_eq_true, Bool.not_eq_true', inB, List.any_eq_false] at hcc
      refine ⟨c, hc, ?_⟩
      have hg : l.getD k default = l[k] := by simp [hkl]
      have hw : withC l c = [l[k]] := by
        have hsplit : l = l.take k ++ l[k] :: l.drop (k + 1) := by rw [← List.drop_eq_getElem_cons hkl, List.take_append_drop]
        have e1 : (l.take k).filter (fun a => hasB a c) = [] := by
          rw [List.filter_eq_nil_iff]
          intro b hb
          exact hcc.2 b (List.mem_append_left _ hb)
        have e2 : (l.drop (k + 1)).filter (fun a => hasB a c) = [] := by
          rw [List.filter_eq_nil_iff]
          intro b hb
          exact hcc.2 b (List.mem_append_right _ hb)
        unfold withC
        conv => lhs; rw [hsplit]
        rw [List.filter_append, List.filter_cons, e1, e2, if_pos (by rw [← hg]; exact hcc.1)]
        rfl
      rw [esOne, hw]
      simp [hkl]

def essV (n : Int) (on off : List (List UInt8)) : List (List UInt8) := if primOk n on off then esS (primR n on off) on else []

theorem essV_le (n : Int) (on off : List (List UInt8)) : (essV n on off).length ≤ 60 := by
  unfold essV
  split
  · exact Nat.le_trans (esTo_le _ _ _) (primR_le n on off)
  · exact Nat.zero_le _

theorem primR_len {n : Int} {on off : List (List UInt8)} : ∀ a ∈ primR n on off, a.length = n.toNat := by
  unfold primR
  intro a ha
  split at ha
  · exact primL_mem a ha
  · cases ha

theorem primOk_on {n : Int} {on off : List (List UInt8)} (h : primOk n on off = true) : onoffB n on off = true := by
  unfold primOk at h
  rw [Bool.and_eq_true] at h
  exact h.1

theorem sp_impl_EssentialPrimes_1 (a d : List UInt8) (ha : a.length ≤ 1048576) (hl : a.length ≤ d.length) : Sp Try.prog 58 [(.str a), (.ref (.str d))] [.any, .any] (.bool (!hasB a d)) := by
 refine Sp_intro (lend := true) Try.func58 rfl rfl rfl (fun _ => rfl) (fun c hc hX => ?_)
 refine T_seq ?_
 refine T_region hc ?_
 refine Ch.s (.d (.bool false)) (.pure (.assign _ rfl rfl)) ?_
 refine Ch.nil ?_
 refine T_seq ?_
 refine T_region hc ?_
 refine Ch.s (.d (.str a)) (.pure (.move _ rfl rfl)) ?_
 refine Ch.s (.d (.str d)) (.pure (.loadRef1 _ _ rfl ag9 rfl rfl)) ?_
 refine Ch.s (.d (.bool (hasB a d))) (.call 6000 59 _ _ _ en59 rfl (.inl rfl) (.cons (.d _) (.cons (.d _) .nil)) rfl rfl (sp_impl_contains a d (by first | omega | assumption | (exact hx _ (getD_mem (by omega))) | (exact hx _ (by assumption)) | (exact Nat.le_trans (hx _ (by assumption)) (by omega)) | (simp only [List.length_append, List.length_take, List.length_drop, List.length_cons, List.length_nil]; omega) | (simp_all; done)) (by first | omega | assumption | (exact hx _ (getD_mem (by omega))) | (exact hx _ (by assumption)) | (exact Nat.le_trans (hx _ (by assumption)) (by omega)) | (simp only [List.length_append, List.length_take, List.length_drop, List.length_cons, List.length_nil]; omega) | (simp_all; done))) (.skip _ _ (.skip _ _ .nil)) rfl) ?_
 refine Ch.s (.d (.bool (!(hasB a d)))) (.pure (.not _ _ rfl rfl)) ?_
 refine Ch.s (.d (.bool (!(hasB a d)))) (.pure (.assign _ rfl rfl)) ?_
 refine Ch.nil ?_
 refine T_ret ?_
 refine And.intro (.inr rfl) ?_
 exact Exists.intro [(.d (.bool (!(hasB a d))))] (Exists.intro [] (Exists.intro [] (And.intro (.cons (.tmp 3 rfl) .nil) (And.intro (.cons (.any _) (.cons (.any _) .nil)) (And.intro (Exp.of (congrArg D.bool (by rfl)) (.d _)) (And.intro rfl rfl))))))

set_option maxHeartbeats 1000000 in
theorem sp_impl_EssentialPrimes (n : Int) (on off : List (List UInt8)) (hn1 : on.length ≤ 1048576) (hx1 : ∀ x ∈ on, x.length ≤ 1048576) (hn2 : off.length ≤ 1048576) (hx2 : ∀ x ∈ off, x.length ≤ 1048576) : Sp Try.prog 28 [(.int .i64 n), (.slice false 1 (on.map D.str)), (.slice false 1 (off.map D.str))] [.any, .any, .any] (.tup [(.slice true 1 ((essV n on off).map D.str)), (.bool (primOk n on off))]) := by
 refine Sp_intro (lend := true) Try.func28 rfl rfl rfl (fun _ => rfl) (fun c hc hX => ?_)
 refine T_seq ?_
 refine T_region hc ?_
 refine Ch.s (.c (.slice none 0 0)) (.pure (.assign _ rfl rfl)) ?_
 refine Ch.s (.d (.bool false)) (.pure (.assign _ rfl rfl)) ?_
 refine Ch.nil ?_
 refine T_seq ?_
 refine T_region hc ?_
 refine Ch.s (.d (.int .i64 n)) (.pure (.move _ rfl rfl)) ?_
 refine Ch.s (.d (.slice false 1 (on.map D.str))) (.pure (.move _ rfl rfl)) ?_
 refine Ch.s (.d (.slice false 1 (off.map D.str))) (.pure (.move _ rfl rfl)) ?_
 refine Ch.step (v := (.tup [(.row 18000), (.d (.bool (primOk n on off)))])) rfl (.call 18000 55 _ _ _ en55 rfl (.inl rfl) (.cons (.d _) (.cons (.d _) (.cons (.d _) .nil))) rfl (sol (by rw [D.solid]; exact solids_c (solid_row (fun _ => rfl) _) rfl) rfl) (sp_impl_Primes n on off (by first | omega | assumption | (exact hx _ (getD_mem (by omega))) | (exact hx _ (by assumption)) | (exact Nat.le_trans (hx _ (by assumption)) (by omega)) | (simp only [List.length_append, List.length_take, List.length_drop, List.length_cons, List.length_nil]; omega) | (simp_all; done)) (by first | omega | assumption | (exact hx _ (getD_mem (by omega))) | (exact hx _ (by assumption)) | (exact Nat.le_trans (hx _ (by assumption)) (by omega)) | (simp only [List.length_append, List.length_take, List.length_drop, List.length_cons, List.length_nil]; omega) | (simp_all; done)) (by first | omega | assumption | (exact hx _ (getD_mem (by omega))) | (exact hx _ (by assumption)) | (exact Nat.le_trans (hx _ (by assumption)) (by omega)) | (simp only [List.length_append, List.length_take, List.length_drop, List.length_cons, List.length_nil]; omega) | (simp_all; done)) (by first | omega | assumption | (exact hx _ (getD_mem (by omega))) | (exact hx _ (by assumption)) | (exact Nat.le_trans (hx _ (by assumption)) (by omega)) | (simp only [List.length_append, List.length_take, List.length_drop, List.length_cons, List.length_nil]; omega) | (simp_all; done))) (.skip _ _ (.skip _ _ (.skip _ _ .nil))) rfl) rfl rfl ?_
 refine Ch.s (.tup [(.row 18000), (.d (.bool (primOk n on off)))]) (.pure (.move _ rfl rfl)) ?_
 refine Ch.s (.row 18000) (.pure (.extract _ rfl rfl rfl)) ?_
 refine Ch.s (.d (.bool (primOk n on off))) (.pure (.extract _ rfl rfl rfl)) ?_
 refine Ch.s (.row 18000) (.pure (.assign _ rfl rfl)) ?_
 refine Ch.s (.d (.bool (primOk n on off))) (.pure (.assign _ rfl rfl)) ?_
 refine Ch.nil ?_
 refine T_seq ?_
 refine T_seq ?_
 refine T_region hc ?_
 refine Ch.s (.d (.bool (primOk n on off))) (.pure (.move _ rfl rfl)) ?_
 refine Ch.s (.d (.bool (!(primOk n on off)))) (.pure (.not _ _ rfl rfl)) ?_
 refine Ch.nil ?_
 refine T_cond (b := (!(primOk n on off))) rfl (fun h1 => ?_) (fun h1 => ?_)
 ·
  replace h1 := nott h1
  try have hop := onoff_parts (primOk_on h1)
  try have hpl := primR_le n on off
  try have hpn := primR_len (n := n) (on := on) (off := off)
  try have ho1 := hop.2.2.2.1
  try have hn64 := hop.2.1
  try have hn8 := hop.1
  refine T_seq ?_
  refine T_region hc ?_
  refine Ch.s (.c (.slice none 0 0)) (.pure (.assign _ rfl rfl)) ?_
  refine Ch.s (.d (.bool false)) (.pure (.assign _ rfl rfl)) ?_
  refine Ch.nil ?_
  refine T_ret ?_
  refine And.intro (.inr rfl) ?_
  exact Exists.intro [(.c (.slice none 0 0)), (.d (.bool false))] (Exists.intro [] (Exists.intro [] (And.intro (.cons (.tmp 6 rfl) (.cons (.tmp 7 rfl) .nil)) (And.intro (.cons (.any _) (.cons (.any _) (.cons (.any _) .nil))) (And.intro (.tup (.cons (Exp.of (congrArg (D.slice true 1) (by first | (rw [essV, h1, if_pos rfl, ← ess_eq (primR_rise n on off), show on.length = k by omega]; rfl) | (rw [essV, h1]; rfl) | (rw [h1]; done))) (.nil true 1)) (.cons (Exp.of (congrArg D.bool (by first | (rw [essV, h1, if_pos rfl, ← ess_eq (primR_rise n on off), show on.length = k by omega]; rfl) | (rw [essV, h1]; rfl) | (rw [h1]; done))) (.d _)) .nil))) (And.intro rfl rfl))))))
 ·
  replace h1 := notf h1
  try have hop := onoff_parts (primOk_on h1)
  try have hpl := primR_le n on off
  try have hpn := primR_len (n := n) (on := on) (off := off)
  try have ho1 := hop.2.2.2.1
  try have hn64 := hop.2.1
  try have hn8 := hop.1
  refine T_skip ?_
  refine T_seq ?_
  refine T_region hc ?_
  refine Ch.s (.row 23000) (.slice 23000 _ 9 _ rfl sty23 (xs := []) rfl rfl .nil rfl rfl (by decide)) ?_
  refine Ch.s (.row 23000) (.pure (.assign _ rfl rfl)) ?_
  refine Ch.nil ?_
  refine T_seq ?_
  refine T_seq ?_
  refine T_region hc ?_
  refine Ch.s (.d (.slice false 1 (on.map D.str))) (.pure (.move _ rfl rfl)) ?_
  refine Ch.s (.d (.int .i64 ((on.length : Nat) : Int))) (.pure (.len _ _ 9 rfl Try.underlying23 (.sh _ _) (by simp))) ?_
  refine Ch.s (.d (.int .i64 0)) (.pure (.move _ rfl rfl)) ?_
  refine Ch.nil ?_
  refine T_block ?_
  refine T_loop (ι := Nat) (fun k => { n := 48, sl := [(8, (.row 18000)), (10, (.row 10)), (24, (.d (.slice false 1 (on.map D.str)))), (25, (.d (.int .i64 ((on.length : Nat) : Int)))), (26, (.d (.int .i64 ((k : Nat) : Int))))], hp := [(10, (some (.row 1 ((esI (primR n on off) on k).map D.str)))), (18000, (some (.row 1 ((primR n on off).map D.str))))], pin := [] }) (fun k => k ≤ on.length) (fun k => on.length - k) ⟨0, (by omega), (Wk.ren [(10, 23000)] rfl rfl rfl rfl (And.intro rfl (And.intro rfl (And.intro rfl (And.intro rfl (And.intro (vI (by first | rfl | omega | (simp; done) | (simp; omega))) trivial))))) (And.intro (oR (by first | rfl | (exact push rfl (by rw [hwe]; exact esI_yes (by omega) (by assumption))) | (exact congrArg (List.map D.str) (esI_no (by omega) (by assumption))))) (And.intro rfl trivial)))⟩ (fun k hp0 => ?_)
  have hq := esI_le (primR n on off) on k hp0
  refine T_seq ?_
  refine T_region hc ?_
  refine Ch.s (.d (.bool (decide (((k : Nat) : Int) < ((on.length : Nat) : Int))))) (.pure (.int _ _ _ _ _ rfl rfl rfl rfl)) ?_
  refine Ch.nil ?_
  refine T_seq ?_
  refine T_cond (b := (decide (((k : Nat) : Int) < ((on.length : Nat) : Int)))) rfl (fun h2 => ?_) (fun h2 => ?_)
  ·
   replace h2 := of_decide_eq_true h2
   try have hck := ho1 _ (getD_mem (l := on) (j := k) (d := default) (by omega))
   try have hwe := with_eq (primR n on off) (on.getD k default)
   try have hwl := with_le (primR n on off) (on.getD k default)
   refine T_skip ?_
   refine T_seq ?_
   refine T_block ?_
   refine T_seq ?_
   refine T_region hc ?_
   refine Ch.s (.d (.ref (.str (on.getD k default)))) (.pure (.idx _ _ _ 9 (k) rfl Try.underlying23 sz9 rfl rfl rfl get_mapA)) ?_
   refine Ch.s (.d (.str (on.getD k default))) (.pure (.loadRef1 _ _ rfl ag9 rfl rfl)) ?_
   refine Ch.s (.ptr 12000 0) (.alloc 12000 _ rfl zer9) ?_
   refine Ch.s .junk (.storePtr _ _ _ rfl rfl rfl (.one _ rfl) sz9 (Nat.le_of_ble_eq_true rfl)) ?_
   refine Ch.nil ?_
   refine T_seq ?_
   refine T_region hc ?_
   refine Ch.s (.row 18000) (.pure (.move _ rfl rfl)) ?_
   refine Ch.step (v := (.row 31000)) rfl (.call 31000 57 _ _ _ en57 rfl (.inl rfl) (.cons (.lend (.row rfl (frozs_map (fun _ => rfl) _))) .nil) rfl (sol (solid_row (fun _ => rfl) _) rfl) (sp_Clone_str (primR n on off) (by first | omega | assumption | (exact hx _ (getD_mem (by omega))) | (exact hx _ (by assumption)) | (exact Nat.le_trans (hx _ (by assumption)) (by omega)) | (simp only [List.length_append, List.length_take, List.length_drop, List.length_cons, List.length_nil]; omega) | (simp_all; done))) (.skip _ _ .nil) rfl) rfl rfl ?_
   refine Ch.s (.fn 58 [(.ptr 12000 0)]) (.pure (.func _ _ rfl rfl)) ?_
   refine Ch.step (v := (.row 33000)) rfl (.call 33000 56 _ _ _ en56 rfl (.inl rfl) (.cons (.row rfl) (.cons (.lend (.fn (.cons (.ptr rfl (.one (.d _) rfl)) .nil))) .nil)) rfl (sol (solid_row (fun _ => rfl) _) rfl) (sp_DeleteFunc_str (primR n on off) 58 [(.ref (.str (on.getD k default)))] (fun a => !hasB a (on.getD k default)) en58 (fun a ha => sp_impl_EssentialPrimes_1 a (on.getD k default) (by have := hpn a ha; omega) (by have := hpn a ha; omega)) (by first | omega | assumption | (exact hx _ (getD_mem (by omega))) | (exact hx _ (by assumption)) | (exact Nat.le_trans (hx _ (by assumption)) (by omega)) | (simp only [List.length_append, List.length_take, List.length_drop, List.length_cons, List.length_nil]; omega) | (simp_all; done))) (.skip _ _ (.skip _ _ .nil)) rfl) rfl rfl ?_
   refine Ch.s (.row 33000) (.pure (.assign _ rfl rfl)) ?_
   refine Ch.nil ?_
   refine T_seq ?_
   refine T_region hc ?_
   refine Ch.s (.row 33000) (.pure (.move _ rfl rfl)) ?_
   refine Ch.s (.d (.int .i64 ((((primR n on off).filter (fun u => !(fun a => !hasB a (on.getD k default)) u)).length : Nat) : Int))) (.pure (.len _ _ 9 rfl Try.underlying23 (.row rfl) (by simp))) ?_
   refine Ch.s (.d (.bool (decide (((((primR n on off).filter (fun u => !(fun a => !hasB a (on.getD k default)) u)).length : Nat) : Int) = 1)))) (.pure (.int _ _ _ _ _ rfl rfl rfl rfl)) ?_
   refine Ch.nil ?_
   refine T_cond (b := (decide (((((primR n on off).filter (fun u => !(fun a => !hasB a (on.getD k default)) u)).length : Nat) : Int) = 1))) rfl (fun h3 => ?_) (fun h3 => ?_)
   ·
    replace h3 := of_decide_eq_true h3
    have hgw := h3
    try dsimp only at hgw
    try rw [hwe] at h3
    refine T_region hc ?_
    refine Ch.s (.row 10) (.pure (.move _ rfl rfl)) ?_
    refine Ch.s (.row 33000) (.pure (.move _ rfl rfl)) ?_
    refine Ch.s (.el 33000 1 0 0) (.pure (.idxRow _ _ _ 9 (0) rfl Try.underlying23 sz9 rfl rfl rfl rfl (by first | omega | (simp only [List.length_map, List.length_set]; omega) | (simp; omega)))) ?_
    refine Ch.s (.d (.str (((primR n on off).filter (fun u => !(fun a => !hasB a (on.getD k default)) u)).getD 0 default))) (.pure (.loadEl1 _ _ rfl ag9 rfl rfl get_mapA rfl rfl rfl)) ?_
    refine Ch.s (.row 41000) (.slice 41000 _ 9 _ rfl sty23 (xs := [.tmp 40]) rfl rfl (.cons (.d _) .nil) rfl rfl (by decide)) ?_
    refine Ch.step (v := (.row 42000)) rfl (.append 42000 _ _ _ 9 rfl sty23 (by decide) (.rowK rfl) (.inr ⟨_, rfl, rfl⟩) (.row rfl rfl) rfl (by first | omega | (simp only [List.length_append, List.length_map, List.length_cons, List.length_nil]; omega) | (simp; omega) | (simp; done))) rfl rfl ?_
    refine Ch.s (.row 42000) (.pure (.assign _ rfl rfl)) ?_
    refine Ch.nil ?_
    refine T_region hc ?_
    refine Ch.s (.d (.int .i64 (((k : Nat) : Int) + 1))) (.pure (.int _ _ _ _ _ rfl rfl rfl intV_addA)) ?_
    refine Ch.s (.d (.int .i64 (((k : Nat) : Int) + 1))) (.pure (.move _ rfl rfl)) ?_
    refine Ch.nil ?_
    refine Exists.intro (k + 1) (And.intro (by omega) (And.intro (by first | omega | (dsimp only; omega)) (Wk.ren [(10, 42000)] rfl rfl rfl rfl (And.intro rfl (And.intro rfl (And.intro rfl (And.intro rfl (And.intro (vI (by first | rfl | omega | (simp; done) | (simp; omega))) trivial))))) (And.intro (oR (by first | rfl | (exact push rfl (by rw [hwe]; exact esI_yes (by omega) (by assumption))) | (exact congrArg (List.map D.str) (esI_no (by omega) (by assumption))))) (And.intro rfl trivial)))))
   ·
    replace h3 := of_decide_eq_false h3
    have hgw := h3
    try dsimp only at hgw
    try rw [hwe] at h3
    refine T_skip ?_
    refine T_region hc ?_
    refine Ch.s (.d (.int .i64 (((k : Nat) : Int) + 1))) (.pure (.int _ _ _ _ _ rfl rfl rfl intV_addA)) ?_
    refine Ch.s (.d (.int .i64 (((k : Nat) : Int) + 1))) (.pure (.move _ rfl rfl)) ?_
    refine Ch.nil ?_
    refine Exists.intro (k + 1) (And.intro (by omega) (And.intro (by first | omega | (dsimp only; omega)) (Wk.of rfl rfl (And.intro rfl (And.intro rfl (And.intro rfl (And.intro rfl (And.intro (vI (by first | rfl | omega | (simp; done) | (simp; omega))) trivial))))) (And.intro (oR (by first | rfl | (exact push rfl (by rw [hwe]; exact esI_yes (by omega) (by assumption))) | (exact congrArg (List.map D.str) (esI_no (by omega) (by assumption))))) (And.intro rfl trivial)))))
  ·
   replace h2 := of_decide_eq_false h2
   try have hck := ho1 _ (getD_mem (l := on) (j := k) (d := default) (by omega))
   try have hwe := with_eq (primR n on off) (on.getD k default)
   try have hwl := with_le (primR n on off) (on.getD k default)
   refine T_exit ?_
   refine T_seq ?_
   refine T_region hc ?_
   refine Ch.s (.row 10) (.pure (.move _ rfl rfl)) ?_
   refine Ch.step (v := (.tup [])) rfl (.call 45000 60 _ _ _ en60 rfl (.inl rfl) (.cons (.row rfl) .nil) rfl (sol rfl (solids_c (solid_row (fun _ => rfl) _) rfl)) (sp_Sort_str (esI (primR n on off) on k) (by first | assumption | omega | (rw [List.length_take]; omega) | (have := bulkF_mem hb _ (getD_mem (d := default) (by omega)); assumption) | (unfold bulkS at *; omega) | (simp_all; done))) (.row _ _ _ .nil) rfl) rfl rfl ?_
   refine Ch.nil ?_
   refine T_seq ?_
   refine T_region hc ?_
   refine Ch.s (.row 10) (.pure (.move _ rfl rfl)) ?_
   refine Ch.step (v := (.row 47000)) rfl (.call 47000 61 _ _ _ en61 rfl (.inl rfl) (.cons (.row rfl) .nil) rfl (sol (solid_row (fun _ => rfl) _) rfl) (sp_Compact_str ((esI (primR n on off) on k).mergeSort leS) (by first | assumption | omega | (rw [List.length_mergeSort]; assumption) | (rw [List.length_mergeSort]; omega))) (.skip _ _ .nil) rfl) rfl rfl ?_
   refine Ch.s (.row 47000) (.pure (.assign _ rfl rfl)) ?_
   refine Ch.s (.d (.bool true)) (.pure (.assign _ rfl rfl)) ?_
   refine Ch.nil ?_
   refine T_ret ?_
   refine And.intro (.inr rfl) ?_
   exact Exists.intro [(.row 47000), (.d (.bool true))] (Exists.intro [] (Exists.intro [47000] (And.intro (.cons (.tmp 6 rfl) (.cons (.tmp 7 rfl) .nil)) (And.intro (.cons (.any _) (.cons (.any _) (.cons (.any _) .nil))) (And.intro (.tup (.cons (Exp.of (congrArg (D.slice true 1) (by first | (rw [essV, h1, if_pos rfl, ← ess_eq (primR_rise n on off), show on.length = k by omega]; rfl) | (rw [essV, h1]; rfl) | (rw [h1]; done))) (.row rfl)) (.cons (Exp.of (congrArg D.bool (by first | (rw [essV, h1, if_pos rfl, ← ess_eq (primR_rise n on off), show on.length = k by omega]; rfl) | (rw [essV, h1]; rfl) | (rw [h1]; done))) (.d _)) .nil))) (And.intro rfl rfl))))))

set_option maxHeartbeats 1000000 in
theorem sp_spec_EssentialPrimes (n : Int) (on off : List (List UInt8)) (hn1 : on.length ≤ 1048576) (hx1 : ∀ x ∈ on, x.length ≤ 1048576) (hn2 : off.length ≤ 1048576) (hx2 : ∀ x ∈ off, x.length ≤ 1048576) : Sp Try.prog 26 [(.int .i64 n), (.slice false 1 (on.map D.str)), (.slice false 1 (off.map D.str))] [.any, .any, .any] (.tup [(.slice true 1 ((essV n on off).map D.str)), (.bool (primOk n on off))]) := by
 refine Sp_intro (lend := true) Try.func26 rfl rfl rfl (fun _ => rfl) (fun c hc hX => ?_)
 refine T_seq ?_
 refine T_region hc ?_
 refine Ch.s (.c (.slice none 0 0)) (.pure (.assign _ rfl rfl)) ?_
 refine Ch.s (.d (.bool false)) (.pure (.assign _ rfl rfl)) ?_
 refine Ch.nil ?_
 refine T_seq ?_
 refine T_region hc ?_
 refine Ch.s (.d (.int .i64 n)) (.pure (.move _ rfl rfl)) ?_
 refine Ch.s (.d (.slice false 1 (on.map D.str))) (.pure (.move _ rfl rfl)) ?_
 refine Ch.s (.d (.slice false 1 (off.map D.str))) (.pure (.move _ rfl rfl)) ?_
 refine Ch.step (v := (.tup [(.row 20000), (.d (.bool (primOk n on off)))])) rfl (.call 20000 51 _ _ _ en51 rfl (.inl rfl) (.cons (.d _) (.cons (.d _) (.cons (.d _) .nil))) rfl (sol (by rw [D.solid]; exact solids_c (solid_row (fun _ => rfl) _) rfl) rfl) (sp_spec_Primes n on off (by first | omega | assumption | (exact hx _ (getD_mem (by omega))) | (exact hx _ (by assumption)) | (exact Nat.le_trans (hx _ (by assumption)) (by omega)) | (simp only [List.length_append, List.length_take, List.length_drop, List.length_cons, List.length_nil]; omega) | (simp_all; done)) (by first | omega | assumption | (exact hx _ (getD_mem (by omega))) | (exact hx _ (by assumption)) | (exact Nat.le_trans (hx _ (by assumption)) (by omega)) | (simp only [List.length_append, List.length_take, List.length_drop, List.length_cons, List.length_nil]; omega) | (simp_all; done)) (by first | omega | assumption | (exact hx _ (getD_mem (by omega))) | (exact hx _ (by assumption)) | (exact Nat.le_trans (hx _ (by assumption)) (by omega)) | (simp only [List.length_append, List.length_take, List.length_drop, List.length_cons, List.length_nil]; omega) | (simp_all; done)) (by first | omega | assumption | (exact hx _ (getD_mem (by omega))) | (exact hx _ (by assumption)) | (exact Nat.le_trans (hx _ (by assumption)) (by omega)) | (simp only [List.length_append, List.length_take, List.length_drop, List.length_cons, List.length_nil]; omega) | (simp_all; done))) (.skip _ _ (.skip _ _ (.skip _ _ .nil))) rfl) rfl rfl ?_
 refine Ch.s (.tup [(.row 20000), (.d (.bool (primOk n on off)))]) (.pure (.move _ rfl rfl)) ?_
 refine Ch.s (.row 20000) (.pure (.extract _ rfl rfl rfl)) ?_
 refine Ch.s (.d (.bool (primOk n on off))) (.pure (.extract _ rfl rfl rfl)) ?_
 refine Ch.s (.row 20000) (.pure (.assign _ rfl rfl)) ?_
 refine Ch.s (.d (.bool (primOk n on off))) (.pure (.assign _ rfl rfl)) ?_
 refine Ch.nil ?_
 refine T_seq ?_
 refine T_seq ?_
 refine T_region hc ?_
 refine Ch.s (.d (.bool (primOk n on off))) (.pure (.move _ rfl rfl)) ?_
 refine Ch.s (.d (.bool (!(primOk n on off)))) (.pure (.not _ _ rfl rfl)) ?_
 refine Ch.nil ?_
 refine T_cond (b := (!(primOk n on off))) rfl (fun h1 => ?_) (fun h1 => ?_)
 ·
  replace h1 := nott h1
  try have hop := onoff_parts (primOk_on h1)
  try have hpl := primR_le n on off
  try have hpn := primR_len (n := n) (on := on) (off := off)
  try have ho1 := hop.2.2.2.1
  try have hn64 := hop.2.1
  try have hn8 := hop.1
  refine T_seq ?_
  refine T_region hc ?_
  refine Ch.s (.c (.slice none 0 0)) (.pure (.assign _ rfl rfl)) ?_
  refine Ch.s (.d (.bool false)) (.pure (.assign _ rfl rfl)) ?_
  refine Ch.nil ?_
  refine T_ret ?_
  refine And.intro (.inr rfl) ?_
  exact Exists.intro [(.c (.slice none 0 0)), (.d (.bool false))] (Exists.intro [] (Exists.intro [] (And.intro (.cons (.tmp 6 rfl) (.cons (.tmp 7 rfl) .nil)) (And.intro (.cons (.any _) (.cons (.any _) (.cons (.any _) .nil))) (And.intro (.tup (.cons (Exp.of (congrArg (D.slice true 1) (by first | (rw [essV, h1, if_pos rfl, esS, show (primR n on off).length = k by omega]; done) | (rw [essV, h1]; rfl) | (rw [h1]; done))) (.nil true 1)) (.cons (Exp.of (congrArg D.bool (by first | (rw [essV, h1, if_pos rfl, esS, show (primR n on off).length = k by omega]; done) | (rw [essV, h1]; rfl) | (rw [h1]; done))) (.d _)) .nil))) (And.intro rfl rfl))))))
 ·
  replace h1 := notf h1
  try have hop := onoff_parts (primOk_on h1)
  try have hpl := primR_le n on off
  try have hpn := primR_len (n := n) (on := on) (off := off)
  try have ho1 := hop.2.2.2.1
  try have hn64 := hop.2.1
  try have hn8 := hop.1
  refine T_skip ?_
  refine T_seq ?_
  refine T_region hc ?_
  refine Ch.s (.c (.slice none 0 0)) (.pure (.assign _ rfl rfl)) ?_
  refine Ch.nil ?_
  refine T_seq ?_
  refine T_seq ?_
  refine T_region hc ?_
  refine Ch.s (.row 20000) (.pure (.move _ rfl rfl)) ?_
  refine Ch.s (.d (.int .i64 (((primR n on off).length : Nat) : Int))) (.pure (.len _ _ 9 rfl Try.underlying23 (.row rfl) (by simp))) ?_
  refine Ch.s (.d (.int .i64 0)) (.pure (.move _ rfl rfl)) ?_
  refine Ch.nil ?_
  refine T_block ?_
  refine T_loop (ι := Nat) (fun k => { n := 63, sl := [(1, (.d (.slice false 1 (on.map D.str)))), (8, (.row 20000)), (10, (.row 10)), (25, (.row 20000)), (26, (.d (.int .i64 (((primR n on off).length : Nat) : Int)))), (27, (.d (.int .i64 ((k : Nat) : Int))))], hp := [(10, (some (.row 1 ((esTo (primR n on off) on k).map D.str)))), (20000, (some (.row 1 ((primR n on off).map D.str))))], pin := [] }) (fun k => k ≤ (primR n on off).length) (fun k => (primR n on off).length - k) ⟨0, (by omega), (Wk.trans (Wk.nilrow 10 900010 1 rfl rfl rfl) (Wk.ren [(10, 900010)] rfl rfl rfl rfl (And.intro rfl (And.intro rfl (And.intro rfl (And.intro rfl (And.intro rfl (And.intro (vI (by first | rfl | omega | (simp; done) | (simp; omega))) trivial)))))) (And.intro (oR (by first | rfl | (exact push rfl (selTo_yes (any_yes (p := fun c => hasB ((primR n on off).getD k default) c && !inB (delAt (primR n on off) k) c) default m (by omega) (by simp_all [delAt])).symm)) | (exact congrArg (List.map D.str) (selTo_no (any_no (p := fun c => hasB ((primR n on off).getD k default) c && !inB (delAt (primR n on off) k) c) default (fun j hj => hp1.2 j (by omega))).symm)))) (And.intro rfl trivial))))⟩ (fun k hp0 => ?_)
  have hq := esTo_le (primR n on off) on k
  refine T_seq ?_
  refine T_region hc ?_
  refine Ch.s (.d (.bool (decide (((k : Nat) : Int) < (((primR n on off).length : Nat) : Int))))) (.pure (.int _ _ _ _ _ rfl rfl rfl rfl)) ?_
  refine Ch.nil ?_
  refine T_seq ?_
  refine T_cond (b := (decide (((k : Nat) : Int) < (((primR n on off).length : Nat) : Int)))) rfl (fun h2 => ?_) (fun h2 => ?_)
  ·
   replace h2 := of_decide_eq_true h2
   try have hpk := hpn _ (getD_mem (l := (primR n on off)) (j := k) (d := default) (by omega))
   refine T_skip ?_
   refine T_seq ?_
   refine T_block ?_
   refine T_seq ?_
   refine T_region hc ?_
   refine Ch.s (.d (.int .i64 ((k : Nat) : Int))) (.pure (.move _ rfl rfl)) ?_
   refine Ch.s (.el 20000 1 k 0) (.pure (.idxRow _ _ _ 9 (k) rfl Try.underlying23 sz9 rfl rfl rfl rfl (by first | omega | (simp only [List.length_map, List.length_set]; omega) | (simp; omega)))) ?_
   refine Ch.s (.d (.str ((primR n on off).getD k default))) (.pure (.loadEl1 _ _ rfl ag9 rfl rfl get_mapA rfl rfl rfl)) ?_
   refine Ch.s (.d (.int .i64 ((k : Nat) : Int))) (.pure (.assign _ rfl rfl)) ?_
   refine Ch.s (.d (.str ((primR n on off).getD k default))) (.pure (.assign _ rfl rfl)) ?_
   refine Ch.nil ?_
   refine T_seq ?_
   refine T_region hc ?_
   refine Ch.s (.d (.slice false 1 (on.map D.str))) (.pure (.move _ rfl rfl)) ?_
   refine Ch.s (.d (.int .i64 ((on.length : Nat) : Int))) (.pure (.len _ _ 9 rfl Try.underlying23 (.sh _ _) (by simp))) ?_
   refine Ch.s (.d (.int .i64 0)) (.pure (.move _ rfl rfl)) ?_
   refine Ch.nil ?_
   refine T_block ?_
   refine T_loop (ι := Nat) (fun m => { n := 63, sl := [(1, (.d (.slice false 1 (on.map D.str)))), (8, (.row 20000)), (10, (.row 10)), (11, (.d (.int .i64 ((k : Nat) : Int)))), (12, (.d (.str ((primR n on off).getD k default)))), (25, (.row 20000)), (26, (.d (.int .i64 (((primR n on off).length : Nat) : Int)))), (27, (.d (.int .i64 ((k : Nat) : Int)))), (32, (.d (.slice false 1 (on.map D.str)))), (33, (.d (.int .i64 ((on.length : Nat) : Int)))), (34, (.d (.int .i64 ((m : Nat) : Int))))], hp := [(10, (some (.row 1 ((esTo (primR n on off) on k).map D.str)))), (20000, (some (.row 1 ((primR n on off).map D.str))))], pin := [] }) (fun m => m ≤ on.length ∧ ∀ j, j < m → (hasB ((primR n on off).getD k default) (on.getD j default) && !inB (delAt (primR n on off) k) (on.getD j default)) = false) (fun m => on.length - m) ⟨0, ⟨by omega, fun j hj => by omega⟩, (Wk.of rfl rfl (And.intro rfl (And.intro rfl (And.intro rfl (And.intro rfl (And.intro rfl (And.intro rfl (And.intro rfl (And.intro rfl (And.intro rfl (And.intro rfl (And.intro (vI (by first | rfl | omega | (simp; done) | (simp; omega))) trivial))))))))))) (And.intro rfl (And.intro rfl trivial)))⟩ (fun m hp1 => ?_)
   refine T_seq ?_
   refine T_region hc ?_
   refine Ch.s (.d (.bool (decide (((m : Nat) : Int) < ((on.length : Nat) : Int))))) (.pure (.int _ _ _ _ _ rfl rfl rfl rfl)) ?_
   refine Ch.nil ?_
   refine T_seq ?_
   refine T_cond (b := (decide (((m : Nat) : Int) < ((on.length : Nat) : Int)))) rfl (fun h3 => ?_) (fun h3 => ?_)
   ·
    replace h3 := of_decide_eq_true h3
    try have hcm := ho1 _ (getD_mem (l := on) (j := m) (d := default) (by omega))
    try have hdl : ∀ a ∈ (primR n on off).take k ++ (primR n on off).drop (k + 1), a.length ≤ (on.getD m default).length := fun a ha => by (have h9 : a ∈ (primR n on off) := (List.mem_append.1 ha).elim List.mem_of_mem_take List.mem_of_mem_drop; have := hpn a h9; omega)
    refine T_skip ?_
    refine T_seq ?_
    refine T_block ?_
    refine T_seq ?_
    refine T_region hc ?_
    refine Ch.s (.d (.ref (.str (on.getD m default)))) (.pure (.idx _ _ _ 9 (m) rfl Try.underlying23 sz9 rfl rfl rfl get_mapA)) ?_
    refine Ch.s (.d (.str (on.getD m default))) (.pure (.loadRef1 _ _ rfl ag9 rfl rfl)) ?_
    refine Ch.s (.d (.str (on.getD m default))) (.pure (.assign _ rfl rfl)) ?_
    refine Ch.nil ?_
    refine T_seq ?_
    refine T_regionD hc (by kernel_rfl) ?_
    refine ChD.s (.row 20000) [] (.pure (.move _ rfl rfl)) ?_
    refine ChD.s (.d (.int .i64 ((k : Nat) : Int))) [] (.pure (.move _ rfl rfl)) ?_
    refine ChD.s (.sub 20000 1 0 k) [20000] (.pure (.subRow _ _ _ _ 9 (0) (k) rfl Try.underlying23 sz9 rfl rfl (bndN rfl) (bndS rfl rfl) (by first | omega | (simp only [List.length_map, List.length_append, List.length_take, List.length_drop, List.length_cons, List.length_nil]; omega) | (simp; omega) | (simp; done)) (by first | omega | (simp only [List.length_map, List.length_append, List.length_take, List.length_drop, List.length_cons, List.length_nil]; omega) | (simp; omega) | (simp; done)))) ?_
    refine ChD.s (.row 41000) [20000] (.call 41000 52 _ _ _ en52 rfl (.inl rfl) (.cons (.lend (.sub rfl (by first | omega | (simp only [List.length_map, List.length_append, List.length_take, List.length_drop, List.length_cons, List.length_nil]; omega) | (simp; omega) | (simp; done)) (by first | omega | (simp only [List.length_map, List.length_append, List.length_take, List.length_drop, List.length_cons, List.length_nil]; omega) | (simp; omega) | (simp; done)) (by first | (rw [show frozs ((primR n on off).map D.str) = ((primR n on off).map D.str) from (frozs_map (fun _ => rfl) _), List.map_drop, List.take_of_length_le (by simp)]; done) | (rw [show frozs ((primR n on off).map D.str) = ((primR n on off).map D.str) from (frozs_map (fun _ => rfl) _)]; simp [List.map_take, List.map_drop]; done) | (rw [show frozs ((primR n on off).map D.str) = ((primR n on off).map D.str) from (frozs_map (fun _ => rfl) _), ← List.map_take, ← List.map_drop]; done)))) .nil) rfl (sol (solid_row (fun _ => rfl) _) rfl) (sp_spec_l1OwnS ((primR n on off).take k) (by first | omega | assumption | (exact hx _ (getD_mem (by omega))) | (exact hx _ (by assumption)) | (exact Nat.le_trans (hx _ (by assumption)) (by omega)) | (simp only [List.length_append, List.length_take, List.length_drop, List.length_cons, List.length_nil]; omega) | (simp_all; done))) (.skip _ _ .nil) rfl) ?_
    refine ChD.s (.row 20000) [] (.pure (.move _ rfl rfl)) ?_
    refine ChD.s (.d (.int .i64 ((k : Nat) : Int))) [] (.pure (.move _ rfl rfl)) ?_
    refine ChD.s (.d (.int .i64 (((k : Nat) : Int) + 1))) [] (.pure (.int _ _ _ _ _ rfl rfl rfl intV_addA)) ?_
    refine ChD.s (.sub 20000 1 (k + 1) ((primR n on off).length)) [20000] (.pure (.subRow _ _ _ _ 9 ((k + 1)) ((primR n on off).length) rfl Try.underlying23 sz9 rfl rfl (bndS rfl (by omega)) (bndN (by simp)) (by first | omega | (simp only [List.length_map, List.length_append, List.length_take, List.length_drop, List.length_cons, List.length_nil]; omega) | (simp; omega) | (simp; done)) (by first | omega | (simp only [List.length_map, List.length_append, List.length_take, List.length_drop, List.length_cons, List.length_nil]; omega) | (simp; omega) | (simp; done)))) ?_
    refine ChD.s (.row 46000) [20000, 41000] (.append 46000 _ _ _ 9 rfl sty23 (by decide) (.rowK rfl) (.inr ⟨_, rfl, rfl⟩) (.sub (ys := (((primR n on off).drop (k + 1)).map D.str)) rfl (noUs_map (fun _ => rfl) _) (by first | omega | (simp only [List.length_map, List.length_append, List.length_take, List.length_drop, List.length_cons, List.length_nil]; omega) | (simp; omega) | (simp; done)) (by first | omega | (simp only [List.length_map, List.length_append, List.length_take, List.length_drop, List.length_cons, List.length_nil]; omega) | (simp; omega) | (simp; done)) (by first | (rw [List.map_drop, List.take_of_length_le (by simp)]; done) | (simp [List.map_take, List.map_drop]; done))) rfl (by first | omega | (simp only [List.length_append, List.length_map, List.length_cons, List.length_nil]; omega) | (simp; omega) | (simp; done))) ?_
    refine ChD.s (.row 46000) [] (.pure (.assign _ rfl rfl)) ?_
    refine ChD.nil (And.intro ?_ (by kernel_rfl))
    refine T_seq ?_
    refine T_region hc ?_
    refine Ch.s (.d (.str ((primR n on off).getD k default))) (.pure (.move _ rfl rfl)) ?_
    refine Ch.s (.d (.str (on.getD m default))) (.pure (.move _ rfl rfl)) ?_
    refine Ch.s (.d (.bool (hasB ((primR n on off).getD k default) (on.getD m default)))) (.call 49000 53 _ _ _ en53 rfl (.inl rfl) (.cons (.d _) (.cons (.d _) .nil)) rfl rfl (sp_spec_l13Has ((primR n on off).getD k default) (on.getD m default) (by first | omega | assumption | (exact hx _ (getD_mem (by omega))) | (exact hx _ (by assumption)) | (exact Nat.le_trans (hx _ (by assumption)) (by omega)) | (simp only [List.length_append, List.length_take, List.length_drop, List.length_cons, List.length_nil]; omega) | (simp_all; done)) (by first | omega | assumption | (exact hx _ (getD_mem (by omega))) | (exact hx _ (by assumption)) | (exact Nat.le_trans (hx _ (by assumption)) (by omega)) | (simp only [List.length_append, List.length_take, List.length_drop, List.length_cons, List.length_nil]; omega) | (simp_all; done))) (.skip _ _ (.skip _ _ .nil)) rfl) ?_
    refine Ch.s (.d (.bool (hasB ((primR n on off).getD k default) (on.getD m default)))) (.pure (.move _ rfl rfl)) ?_
    cases h4 : (hasB ((primR n on off).getD k default) (on.getD m default)) with
    | true =>
     refine Ch.s (.row 46000) (.pure (.move _ rfl rfl)) ?_
     refine Ch.s (.d (.str (on.getD m default))) (.pure (.move _ rfl rfl)) ?_
     refine Ch.s (.d (.bool (inB (((primR n on off).take k) ++ ((primR n on off).drop (k + 1))) (on.getD m default)))) (.call 53000 54 _ _ _ en54 rfl (.inl rfl) (.cons (.lend (.row rfl (by rw [← List.map_append]; exact (frozs_map (fun _ => rfl) _)))) (.cons (.d _) .nil)) rfl rfl (sp_spec_l13In (((primR n on off).take k) ++ ((primR n on off).drop (k + 1))) (on.getD m default) (by first | omega | assumption | (exact hx _ (getD_mem (by omega))) | (exact hx _ (by assumption)) | (exact Nat.le_trans (hx _ (by assumption)) (by omega)) | (simp only [List.length_append, List.length_take, List.length_drop, List.length_cons, List.length_nil]; omega) | (simp_all; done)) (by first | omega | assumption | (exact hx _ (getD_mem (by omega))) | (exact hx _ (by assumption)) | (exact Nat.le_trans (hx _ (by assumption)) (by omega)) | (simp only [List.length_append, List.length_take, List.length_drop, List.length_cons, List.length_nil]; omega) | (simp_all; done)) (by first | omega | assumption | (exact hx _ (getD_mem (by omega))) | (exact hx _ (by assumption)) | (exact Nat.le_trans (hx _ (by assumption)) (by omega)) | (simp only [List.length_append, List.length_take, List.length_drop, List.length_cons, List.length_nil]; omega) | (simp_all; done))) (.skip _ _ (.skip _ _ .nil)) rfl) ?_
     refine Ch.s (.d (.bool (!(inB (((primR n on off).take k) ++ ((primR n on off).drop (k + 1))) (on.getD m default))))) (.pure (.not _ _ rfl rfl)) ?_
     refine Ch.s (.d (.bool (!(inB (((primR n on off).take k) ++ ((primR n on off).drop (k + 1))) (on.getD m default))))) (.pure (.pickT _ _ _ rfl rfl rfl)) ?_
     refine Ch.nil ?_
     refine T_cond (b := (!(inB (((primR n on off).take k) ++ ((primR n on off).drop (k + 1))) (on.getD m default)))) rfl (fun h5 => ?_) (fun h5 => ?_)
     ·
      replace h5 := nott h5
      refine T_seq ?_
      refine T_region hc ?_
      refine Ch.s (.row 10) (.pure (.move _ rfl rfl)) ?_
      refine Ch.s (.d (.str ((primR n on off).getD k default))) (.pure (.move _ rfl rfl)) ?_
      refine Ch.s (.row 58000) (.slice 58000 _ 9 _ rfl sty23 (xs := [.tmp 57]) rfl rfl (.cons (.d _) .nil) rfl rfl (by decide)) ?_
      refine Ch.step (v := (.row 59000)) rfl (.append 59000 _ _ _ 9 rfl sty23 (by decide) (.rowK rfl) (.inr ⟨_, rfl, rfl⟩) (.row rfl rfl) rfl (by first | omega | (simp only [List.length_append, List.length_map, List.length_cons, List.length_nil]; omega) | (simp; omega) | (simp; done))) rfl rfl ?_
      refine Ch.s (.row 59000) (.pure (.assign _ rfl rfl)) ?_
      refine Ch.nil ?_
      refine T_exit ?_
      refine T_region hc ?_
      refine Ch.s (.d (.int .i64 (((k : Nat) : Int) + 1))) (.pure (.int _ _ _ _ _ rfl rfl rfl intV_addA)) ?_
      refine Ch.s (.d (.int .i64 (((k : Nat) : Int) + 1))) (.pure (.move _ rfl rfl)) ?_
      refine Ch.nil ?_
      refine Exists.intro (k + 1) (And.intro (by omega) (And.intro (by first | omega | (dsimp only; omega)) (Wk.ren [(10, 59000)] rfl rfl rfl rfl (And.intro rfl (And.intro rfl (And.intro rfl (And.intro rfl (And.intro rfl (And.intro (vI (by first | rfl | omega | (simp; done) | (simp; omega))) trivial)))))) (And.intro (oR (by first | rfl | (exact push rfl (selTo_yes (any_yes (p := fun c => hasB ((primR n on off).getD k default) c && !inB (delAt (primR n on off) k) c) default m (by omega) (by simp_all [delAt])).symm)) | (exact congrArg (List.map D.str) (selTo_no (any_no (p := fun c => hasB ((primR n on off).getD k default) c && !inB (delAt (primR n on off) k) c) default (fun j hj => hp1.2 j (by omega))).symm)))) (And.intro rfl trivial)))))
     ·
      replace h5 := notf h5
      refine T_skip ?_
      refine T_region hc ?_
      refine Ch.s (.d (.int .i64 (((m : Nat) : Int) + 1))) (.pure (.int _ _ _ _ _ rfl rfl rfl intV_addA)) ?_
      refine Ch.s (.d (.int .i64 (((m : Nat) : Int) + 1))) (.pure (.move _ rfl rfl)) ?_
      refine Ch.nil ?_
      refine Exists.intro (m + 1) (And.intro ⟨by omega, upto_succ hp1.2 (by simp_all [delAt])⟩ (And.intro (by first | omega | (dsimp only; omega)) (Wk.of rfl rfl (And.intro rfl (And.intro rfl (And.intro rfl (And.intro rfl (And.intro rfl (And.intro rfl (And.intro rfl (And.intro rfl (And.intro rfl (And.intro rfl (And.intro (vI (by first | rfl | omega | (simp; done) | (simp; omega))) trivial))))))))))) (And.intro rfl (And.intro rfl trivial)))))
    | false =>
     refine Ch.skip rfl rfl ?_
     refine Ch.skip rfl rfl ?_
     refine Ch.skip rfl rfl ?_
     refine Ch.skip rfl rfl ?_
     refine Ch.s (.d (.bool false)) (.pure (.pickF _ _ _ rfl rfl rfl)) ?_
     refine Ch.nil ?_
     refine T_cond (b := false) rfl (fun h => nomatch h) (fun _ => ?_)
     refine T_skip ?_
     refine T_region hc ?_
     refine Ch.s (.d (.int .i64 (((m : Nat) : Int) + 1))) (.pure (.int _ _ _ _ _ rfl rfl rfl intV_addA)) ?_
     refine Ch.s (.d (.int .i64 (((m : Nat) : Int) + 1))) (.pure (.move _ rfl rfl)) ?_
     refine Ch.nil ?_
     refine Exists.intro (m + 1) (And.intro ⟨by omega, upto_succ hp1.2 (by simp_all [delAt])⟩ (And.intro (by first | omega | (dsimp only; omega)) (Wk.of rfl rfl (And.intro rfl (And.intro rfl (And.intro rfl (And.intro rfl (And.intro rfl (And.intro rfl (And.intro rfl (And.intro rfl (And.intro rfl (And.intro rfl (And.intro (vI (by first | rfl | omega | (simp; done) | (simp; omega))) trivial))))))))))) (And.intro rfl (And.intro rfl trivial)))))
   ·
    replace h3 := of_decide_eq_false h3
    try have hcm := ho1 _ (getD_mem (l := on) (j := m) (d := default) (by omega))
    try have hdl : ∀ a ∈ (primR n on off).take k ++ (primR n on off).drop (k + 1), a.length ≤ (on.getD m default).length := fun a ha => by (have h9 : a ∈ (primR n on off) := (List.mem_append.1 ha).elim List.mem_of_mem_take List.mem_of_mem_drop; have := hpn a h9; omega)
    refine T_exit ?_
    refine T_region hc ?_
    refine Ch.s (.d (.int .i64 (((k : Nat) : Int) + 1))) (.pure (.int _ _ _ _ _ rfl rfl rfl intV_addA)) ?_
    refine Ch.s (.d (.int .i64 (((k : Nat) : Int) + 1))) (.pure (.move _ rfl rfl)) ?_
    refine Ch.nil ?_
    refine Exists.intro (k + 1) (And.intro (by omega) (And.intro (by first | omega | (dsimp only; omega)) (Wk.of rfl rfl (And.intro rfl (And.intro rfl (And.intro rfl (And.intro rfl (And.intro rfl (And.intro (vI (by first | rfl | omega | (simp; done) | (simp; omega))) trivial)))))) (And.intro (oR (by first | rfl | (exact push rfl (selTo_yes (any_yes (p := fun c => hasB ((primR n on off).getD k default) c && !inB (delAt (primR n on off) k) c) default m (by omega) (by simp_all [delAt])).symm)) | (exact congrArg (List.map D.str) (selTo_no (any_no (p := fun c => hasB ((primR n on off).getD k default) c && !inB (delAt (primR n on off) k) c) default (fun j hj => hp1.2 j (by omega))).symm)))) (And.intro rfl trivial)))))
  ·
   replace h2 := of_decide_eq_false h2
   try have hpk := hpn _ (getD_mem (l := (primR n on off)) (j := k) (d := default) (by omega))
   refine T_exit ?_
   refine T_seq ?_
   refine T_region hc ?_
   refine Ch.s (.row 10) (.pure (.move _ rfl rfl)) ?_
   refine Ch.s (.row 10) (.pure (.assign _ rfl rfl)) ?_
   refine Ch.s (.d (.bool true)) (.pure (.assign _ rfl rfl)) ?_
   refine Ch.nil ?_
   refine T_ret ?_
   refine And.intro (.inr rfl) ?_
   exact Exists.intro [(.row 10), (.d (.bool true))] (Exists.intro [] (Exists.intro [10] (And.intro (.cons (.tmp 6 rfl) (.cons (.tmp 7 rfl) .nil)) (And.intro (.cons (.any _) (.cons (.any _) (.cons (.any _) .nil))) (And.intro (.tup (.cons (Exp.of (congrArg (D.slice true 1) (by first | (rw [essV, h1, if_pos rfl, esS, show (primR n on off).length = k by omega]; done) | (rw [essV, h1]; rfl) | (rw [h1]; done))) (.row rfl)) (.cons (Exp.of (congrArg D.bool (by first | (rw [essV, h1, if_pos rfl, esS, show (primR n on off).length = k by omega]; done) | (rw [essV, h1]; rfl) | (rw [h1]; done))) (.d _)) .nil))) (And.intro rfl rfl))))))

theorem sp_laws_FnExactEssentialPrimes (n : Int) (on off : List (List UInt8)) (hn1 : on.length ≤ 9223372036854775807) (hx1 : ∀ x ∈ on, x.length ≤ 9223372036854775807) (hn2 : off.length ≤ 9223372036854775807) (hx2 : ∀ x ∈ off, x.length ≤ 9223372036854775807) : Sp Try.prog 6 [(.int .i64 n), (.slice false 1 (on.map D.str)), (.slice false 1 (off.map D.str))] [.any, .any, .any] (.bool true) := by
 refine Sp_intro (lend := true) Try.func6 rfl rfl rfl (fun _ => rfl) (fun c hc hX => ?_)
 refine T_seq ?_
 refine T_region hc ?_
 refine Ch.s (.d (.bool false)) (.pure (.assign _ rfl rfl)) ?_
 refine Ch.nil ?_
 refine T_seq ?_
 refine T_region hc ?_
 refine Ch.s (.d (.int .i64 1048576)) (.pure (.assign _ rfl rfl)) ?_
 refine Ch.nil ?_
 refine T_seq ?_
 refine T_region hc ?_
 refine Ch.s (.d (.slice false 1 (on.map D.str))) (.pure (.move _ rfl rfl)) ?_
 refine Ch.s (.d (.int .i64 1048576)) (.pure (.move _ rfl rfl)) ?_
 refine Ch.s (.d (.int .i64 (szS on 1048576))) (.call 21000 25 _ _ _ en25 rfl (.inl rfl) (.cons (.d _) (.cons (.d _) .nil)) rfl rfl (sp_laws_szStringS on 1048576 (by first | omega | assumption | (exact hx _ (getD_mem (by omega))) | (exact hx _ (by assumption)) | (exact Nat.le_trans (hx _ (by assumption)) (by omega)) | (simp only [List.length_append, List.length_take, List.length_drop, List.length_cons, List.length_nil]; omega) | (simp_all; done)) (by first | omega | assumption | (exact hx _ (getD_mem (by omega))) | (exact hx _ (by assumption)) | (exact Nat.le_trans (hx _ (by assumption)) (by omega)) | (simp only [List.length_append, List.length_take, List.length_drop, List.length_cons, List.length_nil]; omega) | (simp_all; done)) (by first | omega | assumption | (exact hx _ (getD_mem (by omega))) | (exact hx _ (by assumption)) | (exact Nat.le_trans (hx _ (by assumption)) (by omega)) | (simp only [List.length_append, List.length_take, List.length_drop, List.length_cons, List.length_nil]; omega) | (simp_all; done)) (by first | omega | assumption | (exact hx _ (getD_mem (by omega))) | (exact hx _ (by assumption)) | (exact Nat.le_trans (hx _ (by assumption)) (by omega)) | (simp only [List.length_append, List.length_take, List.length_drop, List.length_cons, List.length_nil]; omega) | (simp_all; done))) (.skip _ _ (.skip _ _ .nil)) rfl) ?_
 refine Ch.s (.d (.int .i64 (szS on 1048576))) (.pure (.assign _ rfl rfl)) ?_
 refine Ch.nil ?_
 refine T_seq ?_
 refine T_seq ?_
 refine T_region hc ?_
 refine Ch.s (.d (.int .i64 (szS on 1048576))) (.pure (.move _ rfl rfl)) ?_
 refine Ch.s (.d (.bool (decide ((szS on 1048576) < 0)))) (.pure (.int _ _ _ _ _ rfl rfl rfl rfl)) ?_
 refine Ch.nil ?_
 refine T_cond (b := (decide ((szS on 1048576) < 0))) rfl (fun h1 => ?_) (fun h1 => ?_)
 ·
  replace h1 := of_decide_eq_true h1
  try have hb1 := szS_ok (xs := on) h1
  try have hc1 : bulkS on ≤ 1048576 := by omega
  try replace hn1 := bulk_len hc1
  try replace hx1 := bulk_mem hc1
  try have hz1 := szS_val hb1
  try have hz1a : 0 ≤ szS on _ := Int.not_lt.1 h1
  try have hz1b : szS on _ ≤ 1048576 := by (rw [hz1]; omega)
  refine T_seq ?_
  refine T_region hc ?_
  refine Ch.s (.d (.bool true)) (.pure (.assign _ rfl rfl)) ?_
  refine Ch.nil ?_
  refine T_ret ?_
  refine And.intro (.inr rfl) ?_
  exact Exists.intro [(.d (.bool true))] (Exists.intro [] (Exists.intro [] (And.intro (.cons (.tmp 6 rfl) .nil) (And.intro (.cons (.any _) (.cons (.any _) (.cons (.any _) .nil))) (And.intro (.d _) (And.intro rfl rfl))))))
 ·
  replace h1 := of_decide_eq_false h1
  try have hb1 := szS_ok (xs := on) h1
  try have hc1 : bulkS on ≤ 1048576 := by omega
  try replace hn1 := bulk_len hc1
  try replace hx1 := bulk_mem hc1
  try have hz1 := szS_val hb1
  try have hz1a : 0 ≤ szS on _ := Int.not_lt.1 h1
  try have hz1b : szS on _ ≤ 1048576 := by (rw [hz1]; omega)
  refine T_skip ?_
  refine T_seq ?_
  refine T_region hc ?_
  refine Ch.s (.d (.slice false 1 (off.map D.str))) (.pure (.move _ rfl rfl)) ?_
  refine Ch.s (.d (.int .i64 (szS on 1048576))) (.pure (.move _ rfl rfl)) ?_
  refine Ch.s (.d (.int .i64 (szS off (szS on 1048576)))) (.call 26000 25 _ _ _ en25 rfl (.inl rfl) (.cons (.d _) (.cons (.d _) .nil)) rfl rfl (sp_laws_szStringS off (szS on 1048576) (by first | omega | assumption | (exact hx _ (getD_mem (by omega))) | (exact hx _ (by assumption)) | (exact Nat.le_trans (hx _ (by assumption)) (by omega)) | (simp only [List.length_append, List.length_take, List.length_drop, List.length_cons, List.length_nil]; omega) | (simp_all; done)) (by first | omega | assumption | (exact hx _ (getD_mem (by omega))) | (exact hx _ (by assumption)) | (exact Nat.le_trans (hx _ (by assumption)) (by omega)) | (simp only [List.length_append, List.length_take, List.length_drop, List.length_cons, List.length_nil]; omega) | (simp_all; done)) (by first | omega | assumption | (exact hx _ (getD_mem (by omega))) | (exact hx _ (by assumption)) | (exact Nat.le_trans (hx _ (by assumption)) (by omega)) | (simp only [List.length_append, List.length_take, List.length_drop, List.length_cons, List.length_nil]; omega) | (simp_all; done)) (by first | omega | assumption | (exact hx _ (getD_mem (by omega))) | (exact hx _ (by assumption)) | (exact Nat.le_trans (hx _ (by assumption)) (by omega)) | (simp only [List.length_append, List.length_take, List.length_drop, List.length_cons, List.length_nil]; omega) | (simp_all; done))) (.skip _ _ (.skip _ _ .nil)) rfl) ?_
  refine Ch.s (.d (.int .i64 (szS off (szS on 1048576)))) (.pure (.assign _ rfl rfl)) ?_
  refine Ch.nil ?_
  refine T_seq ?_
  refine T_seq ?_
  refine T_region hc ?_
  refine Ch.s (.d (.int .i64 (szS off (szS on 1048576)))) (.pure (.move _ rfl rfl)) ?_
  refine Ch.s (.d (.bool (decide ((szS off (szS on 1048576)) < 0)))) (.pure (.int _ _ _ _ _ rfl rfl rfl rfl)) ?_
  refine Ch.nil ?_
  refine T_cond (b := (decide ((szS off (szS on 1048576)) < 0))) rfl (fun h2 => ?_) (fun h2 => ?_)
  ·
   replace h2 := of_decide_eq_true h2
   try have hb2 := szS_ok (xs := off) h2
   try have hc2 : bulkS off ≤ 1048576 := by omega
   try replace hn2 := bulk_len hc2
   try replace hx2 := bulk_mem hc2
   try have hz2 := szS_val hb2
   try have hz2a : 0 ≤ szS off _ := Int.not_lt.1 h2
   try have hz2b : szS off _ ≤ 1048576 := by (rw [hz2]; omega)
   try have hcl : (essV n on off).length ≤ 1048576 := Nat.le_trans (essV_le n on off) (by decide)
   try have hhm := held_marks 1 (essV n on off).length
   try have hmk := marks_length 1 (essV n on off).length
   refine T_seq ?_
   refine T_region hc ?_
   refine Ch.s (.d (.bool true)) (.pure (.assign _ rfl rfl)) ?_
   refine Ch.nil ?_
   refine T_ret ?_
   refine And.intro (.inr rfl) ?_
   exact Exists.intro [(.d (.bool true))] (Exists.intro [] (Exists.intro [] (And.intro (.cons (.tmp 6 rfl) .nil) (And.intro (.cons (.any _) (.cons (.any _) (.cons (.any _) .nil))) (And.intro (.d _) (And.intro rfl rfl))))))
  ·
   replace h2 := of_decide_eq_false h2
   try have hb2 := szS_ok (xs := off) h2
   try have hc2 : bulkS off ≤ 1048576 := by omega
   try replace hn2 := bulk_len hc2
   try replace hx2 := bulk_mem hc2
   try have hz2 := szS_val hb2
   try have hz2a : 0 ≤ szS off _ := Int.not_lt.1 h2
   try have hz2b : szS off _ ≤ 1048576 := by (rw [hz2]; omega)
   try have hcl : (essV n on off).length ≤ 1048576 := Nat.le_trans (essV_le n on off) (by decide)
   try have hhm := held_marks 1 (essV n on off).length
   try have hmk := marks_length 1 (essV n on off).length
   refine T_skip ?_
   refine T_seq ?_
   refine T_region hc ?_
   refine Ch.s (.d (.int .i64 n)) (.pure (.move _ rfl rfl)) ?_
   refine Ch.s (.d (.slice false 1 (on.map D.str))) (.pure (.move _ rfl rfl)) ?_
   refine Ch.step (v := (.row 32000)) rfl (.call 32000 27 _ _ _ en27 rfl (.inl rfl) (.cons (.d _) .nil) rfl (sol (solid_row (fun _ => rfl) _) rfl) (sp_laws_toStringS on (by first | omega | assumption | (exact hx _ (getD_mem (by omega))) | (exact hx _ (by assumption)) | (exact Nat.le_trans (hx _ (by assumption)) (by omega)) | (simp only [List.length_append, List.length_take, List.length_drop, List.length_cons, List.length_nil]; omega) | (simp_all; done))) (.skip _ _ .nil) rfl) rfl rfl ?_
   refine Ch.s (.d (.slice false 1 (off.map D.str))) (.pure (.move _ rfl rfl)) ?_
   refine Ch.step (v := (.row 34000)) rfl (.call 34000 27 _ _ _ en27 rfl (.inl rfl) (.cons (.d _) .nil) rfl (sol (solid_row (fun _ => rfl) _) rfl) (sp_laws_toStringS off (by first | omega | assumption | (exact hx _ (getD_mem (by omega))) | (exact hx _ (by assumption)) | (exact Nat.le_trans (hx _ (by assumption)) (by omega)) | (simp only [List.length_append, List.length_take, List.length_drop, List.length_cons, List.length_nil]; omega) | (simp_all; done))) (.skip _ _ .nil) rfl) rfl rfl ?_
   refine Ch.step (v := (.tup [(.row 35000), (.d (.bool (primOk n on off)))])) rfl (.call 35000 26 _ _ _ en26 rfl (.inl rfl) (.cons (.d _) (.cons (.lend (.row rfl (frozs_map (fun _ => rfl) _))) (.cons (.lend (.row rfl (frozs_map (fun _ => rfl) _))) .nil))) rfl (sol (by rw [D.solid]; exact solids_c (solid_row (fun _ => rfl) _) rfl) rfl) (sp_spec_EssentialPrimes n on off (by first | assumption | omega | (rw [List.length_take]; omega) | (have := bulkF_mem hb _ (getD_mem (d := default) (by omega)); assumption) | (unfold bulkS at *; omega) | (simp_all; done)) (by first | assumption | omega | (rw [List.length_take]; omega) | (have := bulkF_mem hb _ (getD_mem (d := default) (by omega)); assumption) | (unfold bulkS at *; omega) | (simp_all; done)) (by first | assumption | omega | (rw [List.length_take]; omega) | (have := bulkF_mem hb _ (getD_mem (d := default) (by omega)); assumption) | (unfold bulkS at *; omega) | (simp_all; done)) (by first | assumption | omega | (rw [List.length_take]; omega) | (have := bulkF_mem hb _ (getD_mem (d := default) (by omega)); assumption) | (unfold bulkS at *; omega) | (simp_all; done))) (.skip _ _ (.skip _ _ (.skip _ _ .nil))) rfl) rfl rfl ?_
   refine Ch.s (.tup [(.row 35000), (.d (.bool (primOk n on off)))]) (.pure (.move _ rfl rfl)) ?_
   refine Ch.s (.row 35000) (.pure (.extract _ rfl rfl rfl)) ?_
   refine Ch.s (.d (.bool (primOk n on off))) (.pure (.extract _ rfl rfl rfl)) ?_
   refine Ch.s (.row 35000) (.pure (.assign _ rfl rfl)) ?_
   refine Ch.s (.d (.bool (primOk n on off))) (.pure (.assign _ rfl rfl)) ?_
   refine Ch.nil ?_
   refine T_seq ?_
   refine T_region hc ?_
   refine Ch.s (.d (.slice false 1 (on.map D.str))) (.pure (.move _ rfl rfl)) ?_
   refine Ch.step (v := (.row 39000)) rfl (.call 39000 27 _ _ _ en27 rfl (.inl rfl) (.cons (.d _) .nil) rfl (sol (solid_row (fun _ => rfl) _) rfl) (sp_laws_toStringS on (by first | omega | assumption | (exact hx _ (getD_mem (by omega))) | (exact hx _ (by assumption)) | (exact Nat.le_trans (hx _ (by assumption)) (by omega)) | (simp only [List.length_append, List.length_take, List.length_drop, List.length_cons, List.length_nil]; omega) | (simp_all; done))) (.skip _ _ .nil) rfl) rfl rfl ?_
   refine Ch.s (.row 39000) (.pure (.assign _ rfl rfl)) ?_
   refine Ch.nil ?_
   refine T_seq ?_
   refine T_region hc ?_
   refine Ch.s (.d (.slice false 1 (off.map D.str))) (.pure (.move _ rfl rfl)) ?_
   refine Ch.step (v := (.row 41000)) rfl (.call 41000 27 _ _ _ en27 rfl (.inl rfl) (.cons (.d _) .nil) rfl (sol (solid_row (fun _ => rfl) _) rfl) (sp_laws_toStringS off (by first | omega | assumption | (exact hx _ (getD_mem (by omega))) | (exact hx _ (by assumption)) | (exact Nat.le_trans (hx _ (by assumption)) (by omega)) | (simp only [List.length_append, List.length_take, List.length_drop, List.length_cons, List.length_nil]; omega) | (simp_all; done))) (.skip _ _ .nil) rfl) rfl rfl ?_
   refine Ch.s (.row 41000) (.pure (.assign _ rfl rfl)) ?_
   refine Ch.nil ?_
   refine T_seq ?_
   refine T_region hc ?_
   refine Ch.s (.d (.int .i64 n)) (.pure (.move _ rfl rfl)) ?_
   refine Ch.s (.row 39000) (.pure (.move _ rfl rfl)) ?_
   refine Ch.s (.row 41000) (.pure (.move _ rfl rfl)) ?_
   refine Ch.step (v := (.tup [(.row 46000), (.d (.bool (primOk n on off)))])) rfl (.call 46000 28 _ _ _ en28 rfl (.inl rfl) (.cons (.d _) (.cons (.lend (.row rfl (frozs_map (fun _ => rfl) _))) (.cons (.lend (.row rfl (frozs_map (fun _ => rfl) _))) .nil))) rfl (sol (by rw [D.solid]; exact solids_c (solid_row (fun _ => rfl) _) rfl) rfl) (sp_impl_EssentialPrimes n on off (by first | assumption | omega | (rw [List.length_take]; omega) | (have := bulkF_mem hb _ (getD_mem (d := default) (by omega)); assumption) | (unfold bulkS at *; omega) | (simp_all; done)) (by first | assumption | omega | (rw [List.length_take]; omega) | (have := bulkF_mem hb _ (getD_mem (d := default) (by omega)); assumption) | (unfold bulkS at *; omega) | (simp_all; done)) (by first | assumption | omega | (rw [List.length_take]; omega) | (have := bulkF_mem hb _ (getD_mem (d := default) (by omega)); assumption) | (unfold bulkS at *; omega) | (simp_all; done)) (by first | assumption | omega | (rw [List.length_take]; omega) | (have := bulkF_mem hb _ (getD_mem (d := default) (by omega)); assumption) | (unfold bulkS at *; omega) | (simp_all; done))) (.skip _ _ (.skip _ _ (.skip _ _ .nil))) rfl) rfl rfl ?_
   refine Ch.s (.tup [(.row 46000), (.d (.bool (primOk n on off)))]) (.pure (.move _ rfl rfl)) ?_
   refine Ch.s (.row 46000) (.pure (.extract _ rfl rfl rfl)) ?_
   refine Ch.s (.d (.bool (primOk n on off))) (.pure (.extract _ rfl rfl rfl)) ?_
   refine Ch.s (.row 46000) (.pure (.assign _ rfl rfl)) ?_
   refine Ch.s (.d (.bool (primOk n on off))) (.pure (.assign _ rfl rfl)) ?_
   refine Ch.nil ?_
   refine T_seq ?_
   refine T_seq ?_
   refine T_region hc ?_
   refine Ch.s (.row 46000) (.pure (.move _ rfl rfl)) ?_
   refine Ch.s (.row 35000) (.pure (.move _ rfl rfl)) ?_
   refine Ch.s (.d (.bool (decide ((essV n on off) = (essV n on off))))) (.call 51000 29 _ _ _ en29 rfl (.inl rfl) (.cons (.lend (.row rfl (frozs_map (fun _ => rfl) _))) (.cons (.lend (.row rfl (frozs_map (fun _ => rfl) _))) .nil)) rfl rfl (sp_laws_eqStringS (essV n on off) (essV n on off) (by first | omega | assumption | (exact hx _ (getD_mem (by omega))) | (exact hx _ (by assumption)) | (exact Nat.le_trans (hx _ (by assumption)) (by omega)) | (simp only [List.length_append, List.length_take, List.length_drop, List.length_cons, List.length_nil]; omega) | (simp_all; done))) (.skip _ _ (.skip _ _ .nil)) rfl) ?_
   refine Ch.s (.d (.bool (!(decide ((essV n on off) = (essV n on off)))))) (.pure (.not _ _ rfl rfl)) ?_
   refine Ch.s (.d (.bool (!(decide ((essV n on off) = (essV n on off)))))) (.pure (.move _ rfl rfl)) ?_
   cases h3 : (decide ((essV n on off) = (essV n on off))) with
   | true =>
    replace h3 := of_decide_eq_true h3
    refine Ch.s (.d (.bool (primOk n on off))) (.pure (.move _ rfl rfl)) ?_
    refine Ch.s (.d (.bool (primOk n on off))) (.pure (.move _ rfl rfl)) ?_
    refine Ch.s (.d (.bool (!(decide ((primOk n on off) = (primOk n on off)))))) (.pure (.neB _ _ _ _ rfl Try.underlying4 rfl rfl)) ?_
    refine Ch.s (.d (.bool (!(decide ((primOk n on off) = (primOk n on off)))))) (.pure (.pickF _ _ _ rfl rfl rfl)) ?_
    refine Ch.nil ?_
    refine T_cond (b := (!(decide ((primOk n on off) = (primOk n on off))))) rfl (fun h4 => ?_) (fun h4 => ?_)
    ·
     replace h4 := nott h4
     replace h4 := of_decide_eq_false h4
     refine T_seq ?_
     refine T_region hc ?_
     refine Ch.s (.d (.bool false)) (.pure (.assign _ rfl rfl)) ?_
     refine Ch.nil ?_
     refine T_ret ?_
     refine And.intro (.inr rfl) ?_
     exact Exists.intro [(.d (.bool false))] (Exists.intro [] (Exists.intro [] (And.intro (.cons (.tmp 6 rfl) .nil) (And.intro (.cons (.any _) (.cons (.any _) (.cons (.any _) .nil))) (And.intro (Exp.of (congrArg D.bool (by first | rfl | (simp_all; done) | (exfalso; omega) | (exfalso; simp_all; omega))) (.d _)) (And.intro rfl rfl))))))
    ·
     replace h4 := notf h4
     replace h4 := of_decide_eq_true h4
     refine T_skip ?_
     refine T_seq ?_
     refine T_seq ?_
     refine T_region hc ?_
     refine Ch.s (.row 39000) (.pure (.move _ rfl rfl)) ?_
     refine Ch.s (.d (.slice false 1 (on.map D.str))) (.pure (.move _ rfl rfl)) ?_
     refine Ch.step (v := (.row 60000)) rfl (.call 60000 27 _ _ _ en27 rfl (.inl rfl) (.cons (.d _) .nil) rfl (sol (solid_row (fun _ => rfl) _) rfl) (sp_laws_toStringS on (by first | omega | assumption | (exact hx _ (getD_mem (by omega))) | (exact hx _ (by assumption)) | (exact Nat.le_trans (hx _ (by assumption)) (by omega)) | (simp only [List.length_append, List.length_take, List.length_drop, List.length_cons, List.length_nil]; omega) | (simp_all; done))) (.skip _ _ .nil) rfl) rfl rfl ?_
     refine Ch.s (.d (.bool (decide (on = on)))) (.call 61000 29 _ _ _ en29 rfl (.inl rfl) (.cons (.lend (.row rfl (frozs_map (fun _ => rfl) _))) (.cons (.lend (.row rfl (frozs_map (fun _ => rfl) _))) .nil)) rfl rfl (sp_laws_eqStringS on on (by first | omega | assumption | (exact hx _ (getD_mem (by omega))) | (exact hx _ (by assumption)) | (exact Nat.le_trans (hx _ (by assumption)) (by omega)) | (simp only [List.length_append, List.length_take, List.length_drop, List.length_cons, List.length_nil]; omega) | (simp_all; done))) (.skip _ _ (.skip _ _ .nil)) rfl) ?_
     refine Ch.s (.d (.bool (!(decide (on = on))))) (.pure (.not _ _ rfl rfl)) ?_
     refine Ch.nil ?_
     refine T_cond (b := (!(decide (on = on)))) rfl (fun h5 => ?_) (fun h5 => ?_)
     ·
      replace h5 := nott h5
      replace h5 := of_decide_eq_false h5
      refine T_seq ?_
      refine T_region hc ?_
      refine Ch.s (.d (.bool false)) (.pure (.assign _ rfl rfl)) ?_
      refine Ch.nil ?_
      refine T_ret ?_
      refine And.intro (.inr rfl) ?_
      exact Exists.intro [(.d (.bool false))] (Exists.intro [] (Exists.intro [] (And.intro (.cons (.tmp 6 rfl) .nil) (And.intro (.cons (.any _) (.cons (.any _) (.cons (.any _) .nil))) (And.intro (Exp.of (congrArg D.bool (by first | rfl | (simp_all; done) | (exfalso; omega) | (exfalso; simp_all; omega))) (.d _)) (And.intro rfl rfl))))))
     ·
      replace h5 := notf h5
      replace h5 := of_decide_eq_true h5
      refine T_skip ?_
      refine T_seq ?_
      refine T_seq ?_
      refine T_region hc ?_
      refine Ch.s (.row 41000) (.pure (.move _ rfl rfl)) ?_
      refine Ch.s (.d (.slice false 1 (off.map D.str))) (.pure (.move _ rfl rfl)) ?_
      refine Ch.step (v := (.row 65000)) rfl (.call 65000 27 _ _ _ en27 rfl (.inl rfl) (.cons (.d _) .nil) rfl (sol (solid_row (fun _ => rfl) _) rfl) (sp_laws_toStringS off (by first | omega | assumption | (exact hx _ (getD_mem (by omega))) | (exact hx _ (by assumption)) | (exact Nat.le_trans (hx _ (by assumption)) (by omega)) | (simp only [List.length_append, List.length_take, List.length_drop, List.length_cons, List.length_nil]; omega) | (simp_all; done))) (.skip _ _ .nil) rfl) rfl rfl ?_
      refine Ch.s (.d (.bool (decide (off = off)))) (.call 66000 29 _ _ _ en29 rfl (.inl rfl) (.cons (.lend (.row rfl (frozs_map (fun _ => rfl) _))) (.cons (.lend (.row rfl (frozs_map (fun _ => rfl) _))) .nil)) rfl rfl (sp_laws_eqStringS off off (by first | omega | assumption | (exact hx _ (getD_mem (by omega))) | (exact hx _ (by assumption)) | (exact Nat.le_trans (hx _ (by assumption)) (by omega)) | (simp only [List.length_append, List.length_take, List.length_drop, List.length_cons, List.length_nil]; omega) | (simp_all; done))) (.skip _ _ (.skip _ _ .nil)) rfl) ?_
      refine Ch.s (.d (.bool (!(decide (off = off))))) (.pure (.not _ _ rfl rfl)) ?_
      refine Ch.nil ?_
      refine T_cond (b := (!(decide (off = off)))) rfl (fun h6 => ?_) (fun h6 => ?_)
      ·
       replace h6 := nott h6
       replace h6 := of_decide_eq_false h6
       refine T_seq ?_
       refine T_region hc ?_
       refine Ch.s (.d (.bool false)) (.pure (.assign _ rfl rfl)) ?_
       refine Ch.nil ?_
       refine T_ret ?_
       refine And.intro (.inr rfl) ?_
       exact Exists.intro [(.d (.bool false))] (Exists.intro [] (Exists.intro [] (And.intro (.cons (.tmp 6 rfl) .nil) (And.intro (.cons (.any _) (.cons (.any _) (.cons (.any _) .nil))) (And.intro (Exp.of (congrArg D.bool (by first | rfl | (simp_all; done) | (exfalso; omega) | (exfalso; simp_all; omega))) (.d _)) (And.intro rfl rfl))))))
      ·
       replace h6 := notf h6
       replace h6 := of_decide_eq_true h6
       refine T_skip ?_
       refine T_seq ?_
       refine T_region hc ?_
       refine Ch.s (.d (.int .i64 1)) (.pure (.assign _ rfl rfl)) ?_
       refine Ch.nil ?_
       refine T_seq ?_
       refine T_region hc ?_
       refine Ch.s (.row 39000) (.pure (.move _ rfl rfl)) ?_
       refine Ch.s (.d (.int .i64 1)) (.pure (.move _ rfl rfl)) ?_
       refine Ch.step (v := (.d (.int .i64 ((1 + on.length : Nat) : Int)))) rfl (.call 70000 30 _ _ _ en30 rfl (.inl rfl) (.cons (.row rfl) (.cons (.d _) .nil)) rfl (sol rfl (solids_c (solid_row (fun _ => rfl) _) rfl)) (sp_laws_markStringS on 1 (by first | omega | assumption | (exact hx _ (getD_mem (by omega))) | (exact hx _ (by assumption)) | (exact Nat.le_trans (hx _ (by assumption)) (by omega)) | (simp only [List.length_append, List.length_take, List.length_drop, List.length_cons, List.length_nil]; omega) | (simp_all; done)) (by first | omega | assumption | (exact hx _ (getD_mem (by omega))) | (exact hx _ (by assumption)) | (exact Nat.le_trans (hx _ (by assumption)) (by omega)) | (simp only [List.length_append, List.length_take, List.length_drop, List.length_cons, List.length_nil]; omega) | (simp_all; done))) (.row _ _ _ (.skip _ _ .nil)) rfl) rfl rfl ?_
       refine Ch.s (.d (.int .i64 ((1 + on.length : Nat) : Int))) (.pure (.assign _ rfl rfl)) ?_
       refine Ch.nil ?_
       refine T_seq ?_
       refine T_region hc ?_
       refine Ch.s (.row 41000) (.pure (.move _ rfl rfl)) ?_
       refine Ch.s (.d (.int .i64 ((1 + on.length : Nat) : Int))) (.pure (.move _ rfl rfl)) ?_
       refine Ch.step (v := (.d (.int .i64 (((1 + on.length) + off.length : Nat) : Int)))) rfl (.call 73000 30 _ _ _ en30 rfl (.inl rfl) (.cons (.row rfl) (.cons (.d _) .nil)) rfl (sol rfl (solids_c (solid_row (fun _ => rfl) _) rfl)) (sp_laws_markStringS off (1 + on.length) (by first | omega | assumption | (exact hx _ (getD_mem (by omega))) | (exact hx _ (by assumption)) | (exact Nat.le_trans (hx _ (by assumption)) (by omega)) | (simp only [List.length_append, List.length_take, List.length_drop, List.length_cons, List.length_nil]; omega) | (simp_all; done)) (by first | omega | assumption | (exact hx _ (getD_mem (by omega))) | (exact hx _ (by assumption)) | (exact Nat.le_trans (hx _ (by assumption)) (by omega)) | (simp only [List.length_append, List.length_take, List.length_drop, List.length_cons, List.length_nil]; omega) | (simp_all; done))) (.row _ _ _ (.skip _ _ .nil)) rfl) rfl rfl ?_
       refine Ch.s (.d (.int .i64 (((1 + on.length) + off.length : Nat) : Int))) (.pure (.assign _ rfl rfl)) ?_
       refine Ch.nil ?_
       refine T_seq ?_
       refine T_seq ?_
       refine T_region hc ?_
       refine Ch.s (.d (.int .i64 (((1 + on.length) + off.length : Nat) : Int))) (.pure (.move _ rfl rfl)) ?_
       refine Ch.s (.d (.bool (decide ((((1 + on.length) + off.length : Nat) : Int) < 0)))) (.pure (.int _ _ _ _ _ rfl rfl rfl rfl)) ?_
       refine Ch.s (.d (.bool (decide ((((1 + on.length) + off.length : Nat) : Int) < 0)))) (.pure (.move _ rfl rfl)) ?_
       cases h7 : (decide ((((1 + on.length) + off.length : Nat) : Int) < 0)) with
       | true =>
        replace h7 := of_decide_eq_true h7
        refine Ch.skip rfl rfl ?_
        refine Ch.skip rfl rfl ?_
        refine Ch.skip rfl rfl ?_
        refine Ch.skip rfl rfl ?_
        refine Ch.s (.d (.bool true)) (.pure (.pickT _ _ _ rfl rfl rfl)) ?_
        refine Ch.s (.d (.bool true)) (.pure (.move _ rfl rfl)) ?_
        refine Ch.skip rfl rfl ?_
        refine Ch.skip rfl rfl ?_
        refine Ch.skip rfl rfl ?_
        refine Ch.s (.d (.bool true)) (.pure (.pickT _ _ _ rfl rfl rfl)) ?_
        refine Ch.nil ?_
        refine T_cond (b := true) rfl (fun _ => ?_) (fun h => nomatch h)
        refine T_seq ?_
        refine T_region hc ?_
        refine Ch.s (.d (.bool false)) (.pure (.assign _ rfl rfl)) ?_
        refine Ch.nil ?_
        refine T_ret ?_
        refine And.intro (.inr rfl) ?_
        exact Exists.intro [(.d (.bool false))] (Exists.intro [] (Exists.intro [] (And.intro (.cons (.tmp 6 rfl) .nil) (And.intro (.cons (.any _) (.cons (.any _) (.cons (.any _) .nil))) (And.intro (Exp.of (congrArg D.bool (by first | rfl | (simp_all; done) | (exfalso; omega) | (exfalso; simp_all; omega))) (.d _)) (And.intro rfl rfl))))))
       | false =>
        replace h7 := of_decide_eq_false h7
        refine Ch.s (.row 46000) (.pure (.move _ rfl rfl)) ?_
        refine Ch.s (.row 35000) (.pure (.move _ rfl rfl)) ?_
        refine Ch.s (.d (.bool (decide ((essV n on off) = (essV n on off))))) (.call 79000 29 _ _ _ en29 rfl (.inl rfl) (.cons (.lend (.row rfl (frozs_map (fun _ => rfl) _))) (.cons (.lend (.row rfl (frozs_map (fun _ => rfl) _))) .nil)) rfl rfl (sp_laws_eqStringS (essV n on off) (essV n on off) (by first | omega | assumption | (exact hx _ (getD_mem (by omega))) | (exact hx _ (by assumption)) | (exact Nat.le_trans (hx _ (by assumption)) (by omega)) | (simp only [List.length_append, List.length_take, List.length_drop, List.length_cons, List.length_nil]; omega) | (simp_all; done))) (.skip _ _ (.skip _ _ .nil)) rfl) ?_
        refine Ch.s (.d (.bool (!(decide ((essV n on off) = (essV n on off)))))) (.pure (.not _ _ rfl rfl)) ?_
        refine Ch.s (.d (.bool (!(decide ((essV n on off) = (essV n on off)))))) (.pure (.pickF _ _ _ rfl rfl rfl)) ?_
        refine Ch.s (.d (.bool (!(decide ((essV n on off) = (essV n on off)))))) (.pure (.move _ rfl rfl)) ?_
        cases h8 : (decide ((essV n on off) = (essV n on off))) with
        | true =>
         replace h8 := of_decide_eq_true h8
         refine Ch.s (.d (.bool (primOk n on off))) (.pure (.move _ rfl rfl)) ?_
         refine Ch.s (.d (.bool (primOk n on off))) (.pure (.move _ rfl rfl)) ?_
         refine Ch.s (.d (.bool (!(decide ((primOk n on off) = (primOk n on off)))))) (.pure (.neB _ _ _ _ rfl Try.underlying4 rfl rfl)) ?_
         refine Ch.s (.d (.bool (!(decide ((primOk n on off) = (primOk n on off)))))) (.pure (.pickF _ _ _ rfl rfl rfl)) ?_
         refine Ch.nil ?_
         refine T_cond (b := (!(decide ((primOk n on off) = (primOk n on off))))) rfl (fun h9 => ?_) (fun h9 => ?_)
         ·
          replace h9 := nott h9
          replace h9 := of_decide_eq_false h9
          refine T_seq ?_
          refine T_region hc ?_
          refine Ch.s (.d (.bool false)) (.pure (.assign _ rfl rfl)) ?_
          refine Ch.nil ?_
          refine T_ret ?_
          refine And.intro (.inr rfl) ?_
          exact Exists.intro [(.d (.bool false))] (Exists.intro [] (Exists.intro [] (And.intro (.cons (.tmp 6 rfl) .nil) (And.intro (.cons (.any _) (.cons (.any _) (.cons (.any _) .nil))) (And.intro (Exp.of (congrArg D.bool (by first | rfl | (simp_all; done) | (exfalso; omega) | (exfalso; simp_all; omega))) (.d _)) (And.intro rfl rfl))))))
         ·
          replace h9 := notf h9
          replace h9 := of_decide_eq_true h9
          refine T_skip ?_
          refine T_seq ?_
          refine T_region hc ?_
          refine Ch.s (.d (.int .i64 1)) (.pure (.assign _ rfl rfl)) ?_
          refine Ch.nil ?_
          refine T_seq ?_
          refine T_region hc ?_
          refine Ch.s (.row 46000) (.pure (.move _ rfl rfl)) ?_
          refine Ch.s (.d (.int .i64 1)) (.pure (.move _ rfl rfl)) ?_
          refine Ch.step (v := (.d (.int .i64 ((1 + (essV n on off).length : Nat) : Int)))) rfl (.call 89000 30 _ _ _ en30 rfl (.inl rfl) (.cons (.row rfl) (.cons (.d _) .nil)) rfl (sol rfl (solids_c (solid_row (fun _ => rfl) _) rfl)) (sp_laws_markStringS (essV n on off) 1 (by first | omega | assumption | (exact hx _ (getD_mem (by omega))) | (exact hx _ (by assumption)) | (exact Nat.le_trans (hx _ (by assumption)) (by omega)) | (simp only [List.length_append, List.length_take, List.length_drop, List.length_cons, List.length_nil]; omega) | (simp_all; done)) (by first | omega | assumption | (exact hx _ (getD_mem (by omega))) | (exact hx _ (by assumption)) | (exact Nat.le_trans (hx _ (by assumption)) (by omega)) | (simp only [List.length_append, List.length_take, List.length_drop, List.length_cons, List.length_nil]; omega) | (simp_all; done))) (.row _ _ _ (.skip _ _ .nil)) rfl) rfl rfl ?_
          refine Ch.s (.d (.int .i64 ((1 + (essV n on off).length : Nat) : Int))) (.pure (.assign _ rfl rfl)) ?_
          refine Ch.nil ?_
          refine T_seq ?_
          refine T_region hc ?_
          refine Ch.s (.d (.int .i64 1)) (.pure (.assign _ rfl rfl)) ?_
          refine Ch.nil ?_
          refine T_seq ?_
          refine T_region hc ?_
          refine Ch.s (.row 46000) (.pure (.move _ rfl rfl)) ?_
          refine Ch.s (.d (.int .i64 1)) (.pure (.move _ rfl rfl)) ?_
          refine Ch.s (.d (.int .i64 (heldR (marks 1 (essV n on off).length) 1))) (.call 92000 31 _ _ _ en31 rfl (.inl rfl) (.cons (.lend (.row rfl (frozs_map (fun _ => rfl) _))) (.cons (.d _) .nil)) rfl rfl (sp_laws_heldStringS (marks 1 (essV n on off).length) 1 (by first | omega | assumption | (exact hx _ (getD_mem (by omega))) | (exact hx _ (by assumption)) | (exact Nat.le_trans (hx _ (by assumption)) (by omega)) | (simp only [List.length_append, List.length_take, List.length_drop, List.length_cons, List.length_nil]; omega) | (simp_all; done)) (by first | omega | assumption | (exact hx _ (getD_mem (by omega))) | (exact hx _ (by assumption)) | (exact Nat.le_trans (hx _ (by assumption)) (by omega)) | (simp only [List.length_append, List.length_take, List.length_drop, List.length_cons, List.length_nil]; omega) | (simp_all; done))) (.skip _ _ (.skip _ _ .nil)) rfl) ?_
          refine Ch.s (.d (.int .i64 (heldR (marks 1 (essV n on off).length) 1))) (.pure (.assign _ rfl rfl)) ?_
          refine Ch.nil ?_
          refine T_seq ?_
          refine T_seq ?_
          refine T_region hc ?_
          refine Ch.s (.d (.int .i64 (heldR (marks 1 (essV n on off).length) 1))) (.pure (.move _ rfl rfl)) ?_
          refine Ch.s (.d (.bool (decide ((heldR (marks 1 (essV n on off).length) 1) < 0)))) (.pure (.int _ _ _ _ _ rfl rfl rfl rfl)) ?_
          refine Ch.nil ?_
          refine T_cond (b := (decide ((heldR (marks 1 (essV n on off).length) 1) < 0))) rfl (fun h10 => ?_) (fun h10 => ?_)
          ·
           replace h10 := of_decide_eq_true h10
           refine T_seq ?_
           refine T_region hc ?_
           refine Ch.s (.d (.bool false)) (.pure (.assign _ rfl rfl)) ?_
           refine Ch.nil ?_
           refine T_ret ?_
           refine And.intro (.inr rfl) ?_
           exact Exists.intro [(.d (.bool false))] (Exists.intro [] (Exists.intro [] (And.intro (.cons (.tmp 6 rfl) .nil) (And.intro (.cons (.any _) (.cons (.any _) (.cons (.any _) .nil))) (And.intro (Exp.of (congrArg D.bool (by first | rfl | (simp_all; done) | (exfalso; omega) | (exfalso; simp_all; omega))) (.d _)) (And.intro rfl rfl))))))
          ·
           replace h10 := of_decide_eq_false h10
           refine T_skip ?_
           refine T_seq ?_
           refine T_seq ?_
           refine T_region hc ?_
           refine Ch.s (.d (.int .i64 (heldR (marks 1 (essV n on off).length) 1))) (.pure (.move _ rfl rfl)) ?_
           refine Ch.s (.d (.int .i64 ((1 + (essV n on off).length : Nat) : Int))) (.pure (.move _ rfl rfl)) ?_
           refine Ch.s (.d (.bool (!(decide ((heldR (marks 1 (essV n on off).length) 1) = ((1 + (essV n on off).length : Nat) : Int)))))) (.pure (.int _ _ _ _ _ rfl rfl rfl rfl)) ?_
           refine Ch.nil ?_
           refine T_cond (b := (!(decide ((heldR (marks 1 (essV n on off).length) 1) = ((1 + (essV n on off).length : Nat) : Int))))) rfl (fun h11 => ?_) (fun h11 => ?_)
           ·
            replace h11 := nott h11
            replace h11 := of_decide_eq_false h11
            refine T_seq ?_
            refine T_region hc ?_
            refine Ch.s (.d (.bool false)) (.pure (.assign _ rfl rfl)) ?_
            refine Ch.nil ?_
            refine T_ret ?_
            refine And.intro (.inr rfl) ?_
            exact Exists.intro [(.d (.bool false))] (Exists.intro [] (Exists.intro [] (And.intro (.cons (.tmp 6 rfl) .nil) (And.intro (.cons (.any _) (.cons (.any _) (.cons (.any _) .nil))) (And.intro (Exp.of (congrArg D.bool (by first | rfl | (simp_all; done) | (exfalso; omega) | (exfalso; simp_all; omega))) (.d _)) (And.intro rfl rfl))))))
           ·
            replace h11 := notf h11
            replace h11 := of_decide_eq_true h11
            refine T_skip ?_
            refine T_seq ?_
            refine T_region hc ?_
            refine Ch.s (.d (.int .i64 n)) (.pure (.move _ rfl rfl)) ?_
            refine Ch.s (.d (.slice false 1 (on.map D.str))) (.pure (.move _ rfl rfl)) ?_
            refine Ch.step (v := (.row 101000)) rfl (.call 101000 27 _ _ _ en27 rfl (.inl rfl) (.cons (.d _) .nil) rfl (sol (solid_row (fun _ => rfl) _) rfl) (sp_laws_toStringS on (by first | omega | assumption | (exact hx _ (getD_mem (by omega))) | (exact hx _ (by assumption)) | (exact Nat.le_trans (hx _ (by assumption)) (by omega)) | (simp only [List.length_append, List.length_take, List.length_drop, List.length_cons, List.length_nil]; omega) | (simp_all; done))) (.skip _ _ .nil) rfl) rfl rfl ?_
            refine Ch.s (.d (.slice false 1 (off.map D.str))) (.pure (.move _ rfl rfl)) ?_
            refine Ch.step (v := (.row 103000)) rfl (.call 103000 27 _ _ _ en27 rfl (.inl rfl) (.cons (.d _) .nil) rfl (sol (solid_row (fun _ => rfl) _) rfl) (sp_laws_toStringS off (by first | omega | assumption | (exact hx _ (getD_mem (by omega))) | (exact hx _ (by assumption)) | (exact Nat.le_trans (hx _ (by assumption)) (by omega)) | (simp only [List.length_append, List.length_take, List.length_drop, List.length_cons, List.length_nil]; omega) | (simp_all; done))) (.skip _ _ .nil) rfl) rfl rfl ?_
            refine Ch.step (v := (.tup [(.row 104000), (.d (.bool (primOk n on off)))])) rfl (.call 104000 28 _ _ _ en28 rfl (.inl rfl) (.cons (.d _) (.cons (.lend (.row rfl (frozs_map (fun _ => rfl) _))) (.cons (.lend (.row rfl (frozs_map (fun _ => rfl) _))) .nil))) rfl (sol (by rw [D.solid]; exact solids_c (solid_row (fun _ => rfl) _) rfl) rfl) (sp_impl_EssentialPrimes n on off (by first | assumption | omega | (rw [List.length_take]; omega) | (have := bulkF_mem hb _ (getD_mem (d := default) (by omega)); assumption) | (unfold bulkS at *; omega) | (simp_all; done)) (by first | assumption | omega | (rw [List.length_take]; omega) | (have := bulkF_mem hb _ (getD_mem (d := default) (by omega)); assumption) | (unfold bulkS at *; omega) | (simp_all; done)) (by first | assumption | omega | (rw [List.length_take]; omega) | (have := bulkF_mem hb _ (getD_mem (d := default) (by omega)); assumption) | (unfold bulkS at *; omega) | (simp_all; done)) (by first | assumption | omega | (rw [List.length_take]; omega) | (have := bulkF_mem hb _ (getD_mem (d := default) (by omega)); assumption) | (unfold bulkS at *; omega) | (simp_all; done))) (.skip _ _ (.skip _ _ (.skip _ _ .nil))) rfl) rfl rfl ?_
            refine Ch.s (.tup [(.row 104000), (.d (.bool (primOk n on off)))]) (.pure (.move _ rfl rfl)) ?_
            refine Ch.s (.row 104000) (.pure (.extract _ rfl rfl rfl)) ?_
            refine Ch.s (.d (.bool (primOk n on off))) (.pure (.extract _ rfl rfl rfl)) ?_
            refine Ch.s (.row 104000) (.pure (.assign _ rfl rfl)) ?_
            refine Ch.s (.d (.bool (primOk n on off))) (.pure (.assign _ rfl rfl)) ?_
            refine Ch.nil ?_
            refine T_seq ?_
            refine T_seq ?_
            refine T_region hc ?_
            refine Ch.s (.row 104000) (.pure (.move _ rfl rfl)) ?_
            refine Ch.s (.row 35000) (.pure (.move _ rfl rfl)) ?_
            refine Ch.s (.d (.bool (decide ((essV n on off) = (essV n on off))))) (.call 109000 29 _ _ _ en29 rfl (.inl rfl) (.cons (.lend (.row rfl (frozs_map (fun _ => rfl) _))) (.cons (.lend (.row rfl (frozs_map (fun _ => rfl) _))) .nil)) rfl rfl (sp_laws_eqStringS (essV n on off) (essV n on off) (by first | omega | assumption | (exact hx _ (getD_mem (by omega))) | (exact hx _ (by assumption)) | (exact Nat.le_trans (hx _ (by assumption)) (by omega)) | (simp only [List.length_append, List.length_take, List.length_drop, List.length_cons, List.length_nil]; omega) | (simp_all; done))) (.skip _ _ (.skip _ _ .nil)) rfl) ?_
            refine Ch.s (.d (.bool (!(decide ((essV n on off) = (essV n on off)))))) (.pure (.not _ _ rfl rfl)) ?_
            refine Ch.s (.d (.bool (!(decide ((essV n on off) = (essV n on off)))))) (.pure (.move _ rfl rfl)) ?_
            cases h12 : (decide ((essV n on off) = (essV n on off))) with
            | true =>
             replace h12 := of_decide_eq_true h12
             refine Ch.s (.d (.bool (primOk n on off))) (.pure (.move _ rfl rfl)) ?_
             refine Ch.s (.d (.bool (primOk n on off))) (.pure (.move _ rfl rfl)) ?_
             refine Ch.s (.d (.bool (!(decide ((primOk n on off) = (primOk n on off)))))) (.pure (.neB _ _ _ _ rfl Try.underlying4 rfl rfl)) ?_
             refine Ch.s (.d (.bool (!(decide ((primOk n on off) = (primOk n on off)))))) (.pure (.pickF _ _ _ rfl rfl rfl)) ?_
             refine Ch.nil ?_
             refine T_cond (b := (!(decide ((primOk n on off) = (primOk n on off))))) rfl (fun h13 => ?_) (fun h13 => ?_)
             ·
              replace h13 := nott h13
              replace h13 := of_decide_eq_false h13
              refine T_seq ?_
              refine T_region hc ?_
              refine Ch.s (.d (.bool false)) (.pure (.assign _ rfl rfl)) ?_
              refine Ch.nil ?_
              refine T_ret ?_
              refine And.intro (.inr rfl) ?_
              exact Exists.intro [(.d (.bool false))] (Exists.intro [] (Exists.intro [] (And.intro (.cons (.tmp 6 rfl) .nil) (And.intro (.cons (.any _) (.cons (.any _) (.cons (.any _) .nil))) (And.intro (Exp.of (congrArg D.bool (by first | rfl | (simp_all; done) | (exfalso; omega) | (exfalso; simp_all; omega))) (.d _)) (And.intro rfl rfl))))))
             ·
              replace h13 := notf h13
              replace h13 := of_decide_eq_true h13
              refine T_skip ?_
              refine T_seq ?_
              refine T_region hc ?_
              refine Ch.s (.d (.int .i64 1)) (.pure (.assign _ rfl rfl)) ?_
              refine Ch.nil ?_
              refine T_seq ?_
              refine T_region hc ?_
              refine Ch.s (.row 46000) (.pure (.move _ rfl rfl)) ?_
              refine Ch.s (.d (.int .i64 1)) (.pure (.move _ rfl rfl)) ?_
              refine Ch.s (.d (.int .i64 (heldR (marks 1 (essV n on off).length) 1))) (.call 118000 31 _ _ _ en31 rfl (.inl rfl) (.cons (.lend (.row rfl (frozs_map (fun _ => rfl) _))) (.cons (.d _) .nil)) rfl rfl (sp_laws_heldStringS (marks 1 (essV n on off).length) 1 (by first | omega | assumption | (exact hx _ (getD_mem (by omega))) | (exact hx _ (by assumption)) | (exact Nat.le_trans (hx _ (by assumption)) (by omega)) | (simp only [List.length_append, List.length_take, List.length_drop, List.length_cons, List.length_nil]; omega) | (simp_all; done)) (by first | omega | assumption | (exact hx _ (getD_mem (by omega))) | (exact hx _ (by assumption)) | (exact Nat.le_trans (hx _ (by assumption)) (by omega)) | (simp only [List.length_append, List.length_take, List.length_drop, List.length_cons, List.length_nil]; omega) | (simp_all; done))) (.skip _ _ (.skip _ _ .nil)) rfl) ?_
              refine Ch.s (.d (.int .i64 (heldR (marks 1 (essV n on off).length) 1))) (.pure (.assign _ rfl rfl)) ?_
              refine Ch.nil ?_
              refine T_seq ?_
              refine T_seq ?_
              refine T_region hc ?_
              refine Ch.s (.d (.int .i64 (heldR (marks 1 (essV n on off).length) 1))) (.pure (.move _ rfl rfl)) ?_
              refine Ch.s (.d (.bool (decide ((heldR (marks 1 (essV n on off).length) 1) < 0)))) (.pure (.int _ _ _ _ _ rfl rfl rfl rfl)) ?_
              refine Ch.nil ?_
              refine T_cond (b := (decide ((heldR (marks 1 (essV n on off).length) 1) < 0))) rfl (fun h14 => ?_) (fun h14 => ?_)
              ·
               replace h14 := of_decide_eq_true h14
               refine T_seq ?_
               refine T_region hc ?_
               refine Ch.s (.d (.bool false)) (.pure (.assign _ rfl rfl)) ?_
               refine Ch.nil ?_
               refine T_ret ?_
               refine And.intro (.inr rfl) ?_
               exact Exists.intro [(.d (.bool false))] (Exists.intro [] (Exists.intro [] (And.intro (.cons (.tmp 6 rfl) .nil) (And.intro (.cons (.any _) (.cons (.any _) (.cons (.any _) .nil))) (And.intro (Exp.of (congrArg D.bool (by first | rfl | (simp_all; done) | (exfalso; omega) | (exfalso; simp_all; omega))) (.d _)) (And.intro rfl rfl))))))
              ·
               replace h14 := of_decide_eq_false h14
               refine T_skip ?_
               refine T_seq ?_
               refine T_seq ?_
               refine T_region hc ?_
               refine Ch.s (.d (.int .i64 (heldR (marks 1 (essV n on off).length) 1))) (.pure (.move _ rfl rfl)) ?_
               refine Ch.s (.d (.int .i64 ((1 + (essV n on off).length : Nat) : Int))) (.pure (.move _ rfl rfl)) ?_
               refine Ch.s (.d (.bool (!(decide ((heldR (marks 1 (essV n on off).length) 1) = ((1 + (essV n on off).length : Nat) : Int)))))) (.pure (.int _ _ _ _ _ rfl rfl rfl rfl)) ?_
               refine Ch.nil ?_
               refine T_cond (b := (!(decide ((heldR (marks 1 (essV n on off).length) 1) = ((1 + (essV n on off).length : Nat) : Int))))) rfl (fun h15 => ?_) (fun h15 => ?_)
               ·
                replace h15 := nott h15
                replace h15 := of_decide_eq_false h15
                refine T_seq ?_
                refine T_region hc ?_
                refine Ch.s (.d (.bool false)) (.pure (.assign _ rfl rfl)) ?_
                refine Ch.nil ?_
                refine T_ret ?_
                refine And.intro (.inr rfl) ?_
                exact Exists.intro [(.d (.bool false))] (Exists.intro [] (Exists.intro [] (And.intro (.cons (.tmp 6 rfl) .nil) (And.intro (.cons (.any _) (.cons (.any _) (.cons (.any _) .nil))) (And.intro (Exp.of (congrArg D.bool (by first | rfl | (simp_all; done) | (exfalso; omega) | (exfalso; simp_all; omega))) (.d _)) (And.intro rfl rfl))))))
               ·
                replace h15 := notf h15
                replace h15 := of_decide_eq_true h15
                refine T_skip ?_
                refine T_seq ?_
                refine T_region hc ?_
                refine Ch.s (.d (.bool true)) (.pure (.assign _ rfl rfl)) ?_
                refine Ch.nil ?_
                refine T_ret ?_
                refine And.intro (.inr rfl) ?_
                exact Exists.intro [(.d (.bool true))] (Exists.intro [] (Exists.intro [] (And.intro (.cons (.tmp 6 rfl) .nil) (And.intro (.cons (.any _) (.cons (.any _) (.cons (.any _) .nil))) (And.intro (.d _) (And.intro rfl rfl))))))
            | false =>
             replace h12 := of_decide_eq_false h12
             refine Ch.skip rfl rfl ?_
             refine Ch.skip rfl rfl ?_
             refine Ch.skip rfl rfl ?_
             refine Ch.s (.d (.bool true)) (.pure (.pickT _ _ _ rfl rfl rfl)) ?_
             refine Ch.nil ?_
             refine T_cond (b := true) rfl (fun _ => ?_) (fun h => nomatch h)
             refine T_seq ?_
             refine T_region hc ?_
             refine Ch.s (.d (.bool false)) (.pure (.assign _ rfl rfl)) ?_
             refine Ch.nil ?_
             refine T_ret ?_
             refine And.intro (.inr rfl) ?_
             exact Exists.intro [(.d (.bool false))] (Exists.intro [] (Exists.intro [] (And.intro (.cons (.tmp 6 rfl) .nil) (And.intro (.cons (.any _) (.cons (.any _) (.cons (.any _) .nil))) (And.intro (Exp.of (congrArg D.bool (by first | rfl | (simp_all; done) | (exfalso; omega) | (exfalso; simp_all; omega))) (.d _)) (And.intro rfl rfl))))))
        | false =>
         replace h8 := of_decide_eq_false h8
         refine Ch.skip rfl rfl ?_
         refine Ch.skip rfl rfl ?_
         refine Ch.skip rfl rfl ?_
         refine Ch.s (.d (.bool true)) (.pure (.pickT _ _ _ rfl rfl rfl)) ?_
         refine Ch.nil ?_
         refine T_cond (b := true) rfl (fun _ => ?_) (fun h => nomatch h)
         refine T_seq ?_
         refine T_region hc ?_
         refine Ch.s (.d (.bool false)) (.pure (.assign _ rfl rfl)) ?_
         refine Ch.nil ?_
         refine T_ret ?_
         refine And.intro (.inr rfl) ?_
         exact Exists.intro [(.d (.bool false))] (Exists.intro [] (Exists.intro [] (And.intro (.cons (.tmp 6 rfl) .nil) (And.intro (.cons (.any _) (.cons (.any _) (.cons (.any _) .nil))) (And.intro (Exp.of (congrArg D.bool (by first | rfl | (simp_all; done) | (exfalso; omega) | (exfalso; simp_all; omega))) (.d _)) (And.intro rfl rfl))))))
   | false =>
    replace h3 := of_decide_eq_false h3
    refine Ch.skip rfl rfl ?_
    refine Ch.skip rfl rfl ?_
    refine Ch.skip rfl rfl ?_
    refine Ch.s (.d (.bool true)) (.pure (.pickT _ _ _ rfl rfl rfl)) ?_
    refine Ch.nil ?_
    refine T_cond (b := true) rfl (fun _ => ?_) (fun h => nomatch h)
    refine T_seq ?_
    refine T_region hc ?_
    refine Ch.s (.d (.bool false)) (.pure (.assign _ rfl rfl)) ?_
    refine Ch.nil ?_
    refine T_ret ?_
    refine And.intro (.inr rfl) ?_
    exact Exists.intro [(.d (.bool false))] (Exists.intro [] (Exists.intro [] (And.intro (.cons (.tmp 6 rfl) .nil) (And.intro (.cons (.any _) (.cons (.any _) (.cons (.any _) .nil))) (And.intro (Exp.of (congrArg D.bool (by first | rfl | (simp_all; done) | (exfalso; omega) | (exfalso; simp_all; omega))) (.d _)) (And.intro rfl rfl))))))

end Go.AM
