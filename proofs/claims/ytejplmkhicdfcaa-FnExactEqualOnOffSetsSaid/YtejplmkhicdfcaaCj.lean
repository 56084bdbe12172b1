/-
  Contracts: Cofactor.
-/
import Derived.Test.YtejplmkhicdfcaaCi
namespace Go.AM
open Go.Proofs
set_option linter.unusedVariables false
set_option linter.unusedSimpArgs false

theorem en71 : Enters Try.prog 71 := ⟨_, Try.func71, by kernel_rfl, rfl⟩
theorem en72 : Enters Try.prog 72 := ⟨_, Try.func72, by kernel_rfl, rfl⟩
theorem en73 : Enters Try.prog 73 := ⟨_, Try.func73, by kernel_rfl, rfl⟩
theorem en33 : Enters Try.prog 33 := ⟨_, Try.func33, by kernel_rfl, rfl⟩
theorem en34 : Enters Try.prog 34 := ⟨_, Try.func34, by kernel_rfl, rfl⟩
theorem en35 : Enters Try.prog 35 := ⟨_, Try.func35, by kernel_rfl, rfl⟩
theorem en36 : Enters Try.prog 36 := ⟨_, Try.func36, by kernel_rfl, rfl⟩

theorem sp_spec_l5Bit (up : Bool) : Sp Try.prog 71 [(.bool (up))] [.any] (.str ([bitN up])) := by
  refine Sp_intro (lend := true) Try.func71 rfl rfl rfl (fun _ => rfl) (fun c hc hX => ?_)
  refine T_seq ?_
  refine T_region hc ?_
  refine Ch.step (v := (.d (.str []))) rfl (.pure (.assign _ rfl rfl)) rfl rfl ?_
  refine Ch.nil ?_
  refine T_seq ?_
  refine T_seq ?_
  refine T_region hc ?_
  refine Ch.step (v := (.d (.bool (up)))) rfl (.pure (.move _ rfl rfl)) rfl rfl ?_
  refine Ch.nil ?_
  refine T_cond (b := (up)) rfl (fun h1 => ?_) (fun h1 => ?_)
  · refine T_seq ?_
    refine T_region hc ?_
    refine Ch.step (v := (.d (.str [49]))) rfl (.pure (.assign _ rfl rfl)) rfl rfl ?_
    refine Ch.nil ?_
    refine T_ret ?_
    refine And.intro (.inr rfl) ?_
    exact Exists.intro [(.d (.str [49]))] (Exists.intro [] (Exists.intro [] (And.intro (.cons (.tmp 2 rfl) .nil) (And.intro (.cons (.any _) .nil) (And.intro (Exp.of (congrArg D.str (by subst_vars; rfl)) (.d _)) (And.intro rfl rfl))))))
  · refine T_skip ?_
    refine T_seq ?_
    refine T_region hc ?_
    refine Ch.step (v := (.d (.str [48]))) rfl (.pure (.assign _ rfl rfl)) rfl rfl ?_
    refine Ch.nil ?_
    refine T_ret ?_
    refine And.intro (.inr rfl) ?_
    exact Exists.intro [(.d (.str [48]))] (Exists.intro [] (Exists.intro [] (And.intro (.cons (.tmp 2 rfl) .nil) (And.intro (.cons (.any _) .nil) (And.intro (Exp.of (congrArg D.str (by subst_vars; rfl)) (.d _)) (And.intro rfl rfl))))))

theorem sp_spec_l5Set (u : List UInt8) (sig : Int) (v : List UInt8) (hu : u.length ≤ 1048576) (hv : v.length ≤ 1048576) (h0 : 0 ≤ sig) (h1s : sig + 1 ≤ u.length) : Sp Try.prog 72 [(.str u), (.int .i64 sig), (.str v)] [.any, .any, .any] (.str (u.take sig.toNat ++ v ++ u.drop (sig + 1).toNat)) := by
  refine Sp_intro (lend := true) Try.func72 rfl rfl rfl (fun _ => rfl) (fun c hc hX => ?_)
  refine T_seq ?_
  refine T_region hc ?_
  refine Ch.step (v := (.d (.str []))) rfl (.pure (.assign _ rfl rfl)) rfl rfl ?_
  refine Ch.nil ?_
  refine T_seq ?_
  refine T_regionD hc (by kernel_rfl) ?_
  refine ChD.step (v := (.d (.str u))) [] rfl (.pure (.move _ rfl rfl)) rfl rfl ?_
  refine ChD.step (v := (.d (.int .i64 sig))) [] rfl (.pure (.move _ rfl rfl)) rfl rfl ?_
  refine ChD.step (v := (.d (.str (u.take ((sig).toNat))))) [] rfl (.pure (.sliceStr _ _ _ _ (0) ((sig).toNat) rfl Try.underlying9 rfl (bndN rfl) (bndS rfl (by omega)) (by first | omega | (simp only [List.length_map, List.length_append, List.length_take, List.length_drop, List.length_cons, List.length_nil]; omega) | (simp; omega) | (simp; done)) (by first | omega | (simp only [List.length_map, List.length_append, List.length_take, List.length_drop, List.length_cons, List.length_nil]; omega) | (simp; omega) | (simp; done)) (by simp))) rfl rfl ?_
  refine ChD.step (v := (.d (.str v))) [] rfl (.pure (.move _ rfl rfl)) rfl rfl ?_
  refine ChD.step (v := (.d (.str ((u.take ((sig).toNat)) ++ v)))) [] rfl (.pure (.str _ _ _ _ _ rfl rfl rfl (strV_add (by first | omega | (simp only [List.length_map, List.length_append, List.length_take, List.length_drop, List.length_cons, List.length_nil]; omega) | (simp; omega) | (simp; done))))) rfl rfl ?_
  refine ChD.step (v := (.d (.str u))) [] rfl (.pure (.move _ rfl rfl)) rfl rfl ?_
  refine ChD.step (v := (.d (.int .i64 sig))) [] rfl (.pure (.move _ rfl rfl)) rfl rfl ?_
  refine ChD.step (v := (.d (.int .i64 (sig + 1)))) [] rfl (.pure (.int _ _ _ _ _ rfl rfl rfl (intV_add (by first | omega | (simp only [List.length_map, List.length_append, List.length_take, List.length_drop, List.length_cons, List.length_nil]; omega) | (simp; omega) | (simp; done)) (by first | omega | (simp only [List.length_map, List.length_append, List.length_take, List.length_drop, List.length_cons, List.length_nil]; omega) | (simp; omega) | (simp; done))))) rfl rfl ?_
  refine ChD.step (v := (.d (.str (u.drop (((sig + 1)).toNat))))) [] rfl (.pure (.sliceStr _ _ _ _ (((sig + 1)).toNat) (u.length) rfl Try.underlying9 rfl (bndS rfl (by omega)) (bndN rfl) (by first | omega | (simp only [List.length_map, List.length_append, List.length_take, List.length_drop, List.length_cons, List.length_nil]; omega) | (simp; omega) | (simp; done)) (by first | omega | (simp only [List.length_map, List.length_append, List.length_take, List.length_drop, List.length_cons, List.length_nil]; omega) | (simp; omega) | (simp; done)) (by simp))) rfl rfl ?_
  refine ChD.step (v := (.d (.str (((u.take ((sig).toNat)) ++ v) ++ (u.drop (((sig + 1)).toNat)))))) [] rfl (.pure (.str _ _ _ _ _ rfl rfl rfl (strV_add (by first | omega | (simp only [List.length_map, List.length_append, List.length_take, List.length_drop, List.length_cons, List.length_nil]; omega) | (simp; omega) | (simp; done))))) rfl rfl ?_
  refine ChD.step (v := (.d (.str (((u.take ((sig).toNat)) ++ v) ++ (u.drop (((sig + 1)).toNat)))))) [] rfl (.pure (.assign _ rfl rfl)) rfl rfl ?_
  refine ChD.nil (And.intro ?_ (by kernel_rfl))
  refine T_ret ?_
  refine And.intro (.inr rfl) ?_
  exact Exists.intro [(.d (.str (((u.take ((sig).toNat)) ++ v) ++ (u.drop (((sig + 1)).toNat)))))] (Exists.intro [] (Exists.intro [] (And.intro (.cons (.tmp 6 rfl) .nil) (And.intro (.cons (.any _) (.cons (.any _) (.cons (.any _) .nil))) (And.intro (Exp.of (congrArg D.str (by rfl)) (.d _)) (And.intro rfl rfl))))))

def cofP (xs : List (List UInt8)) (sig : Int) (up : Bool) (j : Nat) : Bool := (xs.getD j default).getD sig.toNat 0 != bitN (!up)
def cofF (xs : List (List UInt8)) (sig : Int) (j : Nat) : List UInt8 := (xs.getD j default).take sig.toNat ++ [45] ++ (xs.getD j default).drop (sig + 1).toNat
def cofTo (xs : List (List UInt8)) (sig : Int) (up : Bool) (k : Nat) : List (List UInt8) := selTo k (cofP xs sig up) (cofF xs sig)
def cofOk (xs : List (List UInt8)) (sig : Int) : Bool := !decide ((xs.length : Int) = 0) && (goodB ((xs.getD 0 default).length : Int) xs && withinB sig 0 ((xs.getD 0 default).length - 1 : Int))
def cofR (xs : List (List UInt8)) (sig : Int) (up : Bool) : List (List UInt8) := if cofOk xs sig then cofTo xs sig up xs.length else []
theorem cofTo_le (xs : List (List UInt8)) (sig : Int) (up : Bool) (k : Nat) : (cofTo xs sig up k).length ≤ k := selTo_le _ _ _
theorem cofR_le (xs : List (List UInt8)) (sig : Int) (up : Bool) : (cofR xs sig up).length ≤ xs.length := by
  unfold cofR; split
  · exact cofTo_le _ _ _ _
  · simp
theorem within_two {n lo hi : Int} (h : withinB n lo hi = true) : lo ≤ n ∧ n ≤ hi := by simpa [withinB] using h

theorem sp_spec_Cofactor (xs : List (List UInt8)) (sig : Int) (up : Bool) (hn : xs.length ≤ 1048576) (hx : ∀ x ∈ xs, x.length ≤ 1048576) : Sp Try.prog 33 [(.slice false 1 (xs.map D.str)), (.int .i64 sig), (.bool (up))] [.any, .any, .any] (.tup [(.slice true 1 ((cofR xs sig up).map D.str)), (.bool (cofOk xs sig))]) := by
  refine Sp_intro (lend := true) Try.func33 rfl rfl rfl (fun _ => rfl) (fun c hc hX => ?_)
  refine T_seq ?_
  refine T_region hc ?_
  refine Ch.step (v := (.c (.slice none 0 0))) rfl (.pure (.assign _ rfl rfl)) rfl rfl ?_
  refine Ch.step (v := (.d (.bool false))) rfl (.pure (.assign _ rfl rfl)) rfl rfl ?_
  refine Ch.nil ?_
  refine T_seq ?_
  refine T_seq ?_
  refine T_region hc ?_
  refine Ch.step (v := (.d (.slice false 1 (xs.map D.str)))) rfl (.pure (.move _ rfl rfl)) rfl rfl ?_
  refine Ch.step (v := (.d (.int .i64 ((xs.length : Nat) : Int)))) rfl (.pure (.len _ _ 9 rfl Try.underlying27 (.sh _ _) (by simp))) rfl rfl ?_
  refine Ch.step (v := (.d (.bool (decide (((xs.length : Nat) : Int) = 0))))) rfl (.pure (.int _ _ _ _ _ rfl rfl rfl rfl)) rfl rfl ?_
  refine Ch.step (v := (.d (.bool (decide (((xs.length : Nat) : Int) = 0))))) rfl (.pure (.move _ rfl rfl)) rfl rfl ?_
  cases h1 : (decide (((xs.length : Nat) : Int) = 0)) with
  | true =>
    replace h1 := of_decide_eq_true h1
    try have h0 := (show 0 < xs.length by omega)
    try have hz := hx _ (getD_mem (l := xs) (j := 0) (d := default) h0)
    refine Ch.skip rfl rfl ?_
    refine Ch.skip rfl rfl ?_
    refine Ch.skip rfl rfl ?_
    refine Ch.skip rfl rfl ?_
    refine Ch.skip rfl rfl ?_
    refine Ch.skip rfl rfl ?_
    refine Ch.skip rfl rfl ?_
    refine Ch.step (v := (.d (.bool true))) rfl (.pure (.pickT _ _ _ rfl rfl rfl)) rfl rfl ?_
    refine Ch.step (v := (.d (.bool true))) rfl (.pure (.move _ rfl rfl)) rfl rfl ?_
    refine Ch.skip rfl rfl ?_
    refine Ch.skip rfl rfl ?_
    refine Ch.skip rfl rfl ?_
    refine Ch.skip rfl rfl ?_
    refine Ch.skip rfl rfl ?_
    refine Ch.skip rfl rfl ?_
    refine Ch.skip rfl rfl ?_
    refine Ch.skip rfl rfl ?_
    refine Ch.step (v := (.d (.bool true))) rfl (.pure (.pickT _ _ _ rfl rfl rfl)) rfl rfl ?_
    refine Ch.nil ?_
    refine T_cond (b := true) rfl (fun _ => ?_) (fun h => nomatch h)
    refine T_seq ?_
    refine T_region hc ?_
    refine Ch.step (v := (.c (.slice none 0 0))) rfl (.pure (.assign _ rfl rfl)) rfl rfl ?_
    refine Ch.step (v := (.d (.bool false))) rfl (.pure (.assign _ rfl rfl)) rfl rfl ?_
    refine Ch.nil ?_
    refine T_ret ?_
    refine And.intro (.inr rfl) ?_
    exact Exists.intro [(.c (.slice none 0 0)), (.d (.bool false))] (Exists.intro [] (Exists.intro [] (And.intro (.cons (.tmp 6 rfl) (.cons (.tmp 7 rfl) .nil)) (And.intro (.cons (.any _) (.cons (.any _) (.cons (.any _) .nil))) (And.intro (.tup (.cons (Exp.of (congrArg (D.slice true 1) (by first | (rw [cofR, cofOk, decide_eq_true h1]; rfl) | (rw [cofR, cofOk, decide_eq_false h1, h2]; rfl) | (rw [cofR, cofOk, decide_eq_false h1, h2, h3]; rfl) | (rw [cofOk, decide_eq_true h1]; rfl) | (rw [cofOk, decide_eq_false h1, h2]; rfl) | (rw [cofOk, decide_eq_false h1, h2, h3]; rfl) | (have hk : k = xs.length := (by omega); subst hk; rw [cofR, cofOk, decide_eq_false h1, h2, h3]; rfl))) (.nil true 1)) (.cons (Exp.of (congrArg D.bool (by first | (rw [cofR, cofOk, decide_eq_true h1]; rfl) | (rw [cofR, cofOk, decide_eq_false h1, h2]; rfl) | (rw [cofR, cofOk, decide_eq_false h1, h2, h3]; rfl) | (rw [cofOk, decide_eq_true h1]; rfl) | (rw [cofOk, decide_eq_false h1, h2]; rfl) | (rw [cofOk, decide_eq_false h1, h2, h3]; rfl) | (have hk : k = xs.length := (by omega); subst hk; rw [cofR, cofOk, decide_eq_false h1, h2, h3]; rfl))) (.d _)) .nil))) (And.intro rfl rfl))))))
  | false =>
    replace h1 := of_decide_eq_false h1
    try have h0 := (show 0 < xs.length by omega)
    try have hz := hx _ (getD_mem (l := xs) (j := 0) (d := default) h0)
    refine Ch.step (v := (.d (.slice false 1 (xs.map D.str)))) rfl (.pure (.move _ rfl rfl)) rfl rfl ?_
    refine Ch.step (v := (.d (.ref (.str (xs.getD 0 default))))) rfl (.pure (.idx _ _ _ 9 (0) rfl Try.underlying27 sz9 rfl rfl rfl (get_map _ (by first | omega | (simp only [List.length_map, List.length_append, List.length_take, List.length_drop, List.length_cons, List.length_nil]; omega) | (simp; omega) | (simp; done))))) rfl rfl ?_
    refine Ch.step (v := (.d (.str (xs.getD 0 default)))) rfl (.pure (.loadRef1 _ _ rfl ag9 rfl rfl)) rfl rfl ?_
    refine Ch.step (v := (.d (.int .i64 (((xs.getD 0 default).length : Nat) : Int)))) rfl (.pure (.lenStr _ _ rfl Try.underlying9 rfl)) rfl rfl ?_
    refine Ch.step (v := (.d (.slice false 1 (xs.map D.str)))) rfl (.pure (.move _ rfl rfl)) rfl rfl ?_
    refine Ch.step (v := (.d (.bool (goodB (((xs.getD 0 default).length : Nat) : Int) xs)))) rfl (.call 20000 61 _ _ _ en61 rfl (.inl rfl) (.cons (.d _) (.cons (.d _) .nil)) rfl rfl (sp_spec_l13Good (((xs.getD 0 default).length : Nat) : Int) xs (by first | omega | assumption | (exact hx _ (getD_mem (by omega))) | (exact hx _ (by assumption)) | (exact Nat.le_trans (hx _ (by assumption)) (by omega)) | (simp_all; done)) (by first | omega | assumption | (exact hx _ (getD_mem (by omega))) | (exact hx _ (by assumption)) | (exact Nat.le_trans (hx _ (by assumption)) (by omega)) | (simp_all; done))) (.skip _ _ (.skip _ _ .nil)) rfl) rfl rfl ?_
    refine Ch.step (v := (.d (.bool (!(goodB (((xs.getD 0 default).length : Nat) : Int) xs))))) rfl (.pure (.not _ _ rfl rfl)) rfl rfl ?_
    refine Ch.step (v := (.d (.bool (!(goodB (((xs.getD 0 default).length : Nat) : Int) xs))))) rfl (.pure (.pickF _ _ _ rfl rfl rfl)) rfl rfl ?_
    refine Ch.step (v := (.d (.bool (!(goodB (((xs.getD 0 default).length : Nat) : Int) xs))))) rfl (.pure (.move _ rfl rfl)) rfl rfl ?_
    cases h2 : (goodB (((xs.getD 0 default).length : Nat) : Int) xs) with
    | true =>
      refine Ch.step (v := (.d (.int .i64 sig))) rfl (.pure (.move _ rfl rfl)) rfl rfl ?_
      refine Ch.step (v := (.d (.slice false 1 (xs.map D.str)))) rfl (.pure (.move _ rfl rfl)) rfl rfl ?_
      refine Ch.step (v := (.d (.ref (.str (xs.getD 0 default))))) rfl (.pure (.idx _ _ _ 9 (0) rfl Try.underlying27 sz9 rfl rfl rfl (get_map _ (by first | omega | (simp only [List.length_map, List.length_append, List.length_take, List.length_drop, List.length_cons, List.length_nil]; omega) | (simp; omega) | (simp; done))))) rfl rfl ?_
      refine Ch.step (v := (.d (.str (xs.getD 0 default)))) rfl (.pure (.loadRef1 _ _ rfl ag9 rfl rfl)) rfl rfl ?_
      refine Ch.step (v := (.d (.int .i64 (((xs.getD 0 default).length : Nat) : Int)))) rfl (.pure (.lenStr _ _ rfl Try.underlying9 rfl)) rfl rfl ?_
      refine Ch.step (v := (.d (.int .i64 ((((xs.getD 0 default).length : Nat) : Int) - 1)))) rfl (.pure (.int _ _ _ _ _ rfl rfl rfl (intV_sub (by first | omega | (simp only [List.length_map, List.length_append, List.length_take, List.length_drop, List.length_cons, List.length_nil]; omega) | (simp; omega) | (simp; done)) (by first | omega | (simp only [List.length_map, List.length_append, List.length_take, List.length_drop, List.length_cons, List.length_nil]; omega) | (simp; omega) | (simp; done))))) rfl rfl ?_
      refine Ch.step (v := (.d (.bool (withinB sig 0 ((((xs.getD 0 default).length : Nat) : Int) - 1))))) rfl (.call 30000 70 _ _ _ en70 rfl (.inl rfl) (.cons (.d _) (.cons (.d _) (.cons (.d _) .nil))) rfl rfl (sp_spec_l1In sig 0 ((((xs.getD 0 default).length : Nat) : Int) - 1)) (.skip _ _ (.skip _ _ (.skip _ _ .nil))) rfl) rfl rfl ?_
      refine Ch.step (v := (.d (.bool (!(withinB sig 0 ((((xs.getD 0 default).length : Nat) : Int) - 1)))))) rfl (.pure (.not _ _ rfl rfl)) rfl rfl ?_
      refine Ch.step (v := (.d (.bool (!(withinB sig 0 ((((xs.getD 0 default).length : Nat) : Int) - 1)))))) rfl (.pure (.pickF _ _ _ rfl rfl rfl)) rfl rfl ?_
      refine Ch.nil ?_
      refine T_cond (b := (!(withinB sig 0 ((((xs.getD 0 default).length : Nat) : Int) - 1)))) rfl (fun h3 => ?_) (fun h3 => ?_)
      · replace h3 := nott h3
        try have hw := within_two h3
        refine T_seq ?_
        refine T_region hc ?_
        refine Ch.step (v := (.c (.slice none 0 0))) rfl (.pure (.assign _ rfl rfl)) rfl rfl ?_
        refine Ch.step (v := (.d (.bool false))) rfl (.pure (.assign _ rfl rfl)) rfl rfl ?_
        refine Ch.nil ?_
        refine T_ret ?_
        refine And.intro (.inr rfl) ?_
        exact Exists.intro [(.c (.slice none 0 0)), (.d (.bool false))] (Exists.intro [] (Exists.intro [] (And.intro (.cons (.tmp 6 rfl) (.cons (.tmp 7 rfl) .nil)) (And.intro (.cons (.any _) (.cons (.any _) (.cons (.any _) .nil))) (And.intro (.tup (.cons (Exp.of (congrArg (D.slice true 1) (by first | (rw [cofR, cofOk, decide_eq_true h1]; rfl) | (rw [cofR, cofOk, decide_eq_false h1, h2]; rfl) | (rw [cofR, cofOk, decide_eq_false h1, h2, h3]; rfl) | (rw [cofOk, decide_eq_true h1]; rfl) | (rw [cofOk, decide_eq_false h1, h2]; rfl) | (rw [cofOk, decide_eq_false h1, h2, h3]; rfl) | (have hk : k = xs.length := (by omega); subst hk; rw [cofR, cofOk, decide_eq_false h1, h2, h3]; rfl))) (.nil true 1)) (.cons (Exp.of (congrArg D.bool (by first | (rw [cofR, cofOk, decide_eq_true h1]; rfl) | (rw [cofR, cofOk, decide_eq_false h1, h2]; rfl) | (rw [cofR, cofOk, decide_eq_false h1, h2, h3]; rfl) | (rw [cofOk, decide_eq_true h1]; rfl) | (rw [cofOk, decide_eq_false h1, h2]; rfl) | (rw [cofOk, decide_eq_false h1, h2, h3]; rfl) | (have hk : k = xs.length := (by omega); subst hk; rw [cofR, cofOk, decide_eq_false h1, h2, h3]; rfl))) (.d _)) .nil))) (And.intro rfl rfl))))))
      · replace h3 := notf h3
        try have hw := within_two h3
        refine T_skip ?_
        refine T_seq ?_
        refine T_region hc ?_
        refine Ch.step (v := (.c (.slice none 0 0))) rfl (.pure (.assign _ rfl rfl)) rfl rfl ?_
        refine Ch.nil ?_
        refine T_seq ?_
        refine T_seq ?_
        refine T_region hc ?_
        refine Ch.step (v := (.d (.slice false 1 (xs.map D.str)))) rfl (.pure (.move _ rfl rfl)) rfl rfl ?_
        refine Ch.step (v := (.d (.int .i64 ((xs.length : Nat) : Int)))) rfl (.pure (.len _ _ 9 rfl Try.underlying27 (.sh _ _) (by simp))) rfl rfl ?_
        refine Ch.step (v := (.d (.int .i64 0))) rfl (.pure (.move _ rfl rfl)) rfl rfl ?_
        refine Ch.nil ?_
        refine T_block ?_
        refine T_loop (ι := Nat) (fun k => { n := 56, sl := [(1, (.d (.int .i64 sig))), (2, (.d (.bool (up)))), (8, (.row 8)), (33, (.d (.slice false 1 (xs.map D.str)))), (34, (.d (.int .i64 ((xs.length : Nat) : Int)))), (35, (.d (.int .i64 ((k : Nat) : Int))))], hp := [(8, (some (.row 1 ((cofTo xs sig up k).map D.str))))], pin := [] }) (fun k => k ≤ xs.length) (fun k => xs.length - k) ⟨0, (by omega), (Wk.trans (Wk.nilrow 8 900008 1 rfl rfl rfl) (Wk.ren [(8, 900008)] rfl rfl rfl rfl (And.intro rfl (And.intro rfl (And.intro rfl (And.intro rfl (And.intro rfl (And.intro (vI (by first | rfl | omega | (simp; done) | (simp; omega))) trivial)))))) (And.intro (oR (by first | rfl | (exact push rfl (selTo_yes (by simp_all [cofP]))) | (exact congrArg (List.map D.str) (selTo_no (by simp_all [cofP]))))) trivial)))⟩ (fun k hp0 => ?_)
        have hq := cofTo_le xs sig up k
        refine T_seq ?_
        refine T_region hc ?_
        refine Ch.step (v := (.d (.bool (decide (((k : Nat) : Int) < ((xs.length : Nat) : Int)))))) rfl (.pure (.int _ _ _ _ _ rfl rfl rfl rfl)) rfl rfl ?_
        refine Ch.nil ?_
        refine T_seq ?_
        refine T_cond (b := (decide (((k : Nat) : Int) < ((xs.length : Nat) : Int)))) rfl (fun h4 => ?_) (fun h4 => ?_)
        · replace h4 := of_decide_eq_true h4
          try have hk := hx _ (getD_mem (l := xs) (j := k) (d := default) (by omega))
          try have hk2 := good_len h2 _ (getD_mem (l := xs) (j := k) (d := default) (by omega))
          refine T_skip ?_
          refine T_seq ?_
          refine T_block ?_
          refine T_seq ?_
          refine T_region hc ?_
          refine Ch.step (v := (.d (.ref (.str (xs.getD k default))))) rfl (.pure (.idx _ _ _ 9 (k) rfl Try.underlying27 sz9 rfl rfl rfl (get_map _ (by first | omega | (simp only [List.length_map, List.length_append, List.length_take, List.length_drop, List.length_cons, List.length_nil]; omega) | (simp; omega) | (simp; done))))) rfl rfl ?_
          refine Ch.step (v := (.d (.str (xs.getD k default)))) rfl (.pure (.loadRef1 _ _ rfl ag9 rfl rfl)) rfl rfl ?_
          refine Ch.step (v := (.d (.str (xs.getD k default)))) rfl (.pure (.assign _ rfl rfl)) rfl rfl ?_
          refine Ch.nil ?_
          refine T_seq ?_
          refine T_regionD hc (by kernel_rfl) ?_
          refine ChD.step (v := (.d (.str (xs.getD k default)))) [] rfl (.pure (.move _ rfl rfl)) rfl rfl ?_
          refine ChD.step (v := (.d (.int .i64 sig))) [] rfl (.pure (.move _ rfl rfl)) rfl rfl ?_
          refine ChD.step (v := (.d (.int .i64 sig))) [] rfl (.pure (.move _ rfl rfl)) rfl rfl ?_
          refine ChD.step (v := (.d (.int .i64 (sig + 1)))) [] rfl (.pure (.int _ _ _ _ _ rfl rfl rfl (intV_add (by first | omega | (simp only [List.length_map, List.length_append, List.length_take, List.length_drop, List.length_cons, List.length_nil]; omega) | (simp; omega) | (simp; done)) (by first | omega | (simp only [List.length_map, List.length_append, List.length_take, List.length_drop, List.length_cons, List.length_nil]; omega) | (simp; omega) | (simp; done))))) rfl rfl ?_
          refine ChD.step (v := (.d (.str [(xs.getD k default).getD ((sig).toNat) 0]))) [] rfl (.pure (.sliceStr _ _ _ _ ((sig).toNat) (((sig + 1)).toNat) rfl Try.underlying9 rfl (bndS rfl (by omega)) (bndS rfl (by omega)) (by first | omega | (simp only [List.length_map, List.length_append, List.length_take, List.length_drop, List.length_cons, List.length_nil]; omega) | (simp; omega) | (simp; done)) (by first | omega | (simp only [List.length_map, List.length_append, List.length_take, List.length_drop, List.length_cons, List.length_nil]; omega) | (simp; omega) | (simp; done)) (slice_oneI (by first | omega | (simp only [List.length_map, List.length_append, List.length_take, List.length_drop, List.length_cons, List.length_nil]; omega) | (simp; omega) | (simp; done)) (by omega)))) rfl rfl ?_
          refine ChD.step (v := (.d (.bool (up)))) [] rfl (.pure (.move _ rfl rfl)) rfl rfl ?_
          refine ChD.step (v := (.d (.bool (!(up))))) [] rfl (.pure (.not _ _ rfl rfl)) rfl rfl ?_
          refine ChD.step (v := (.d (.str ([bitN (!(up))])))) [] rfl (.call 46000 71 _ _ _ en71 rfl (.inl rfl) (.cons (.d _) .nil) rfl rfl (sp_spec_l5Bit (!(up))) (.skip _ _ .nil) rfl) rfl rfl ?_
          refine ChD.step (v := (.d (.bool (!(decide ([(xs.getD k default).getD ((sig).toNat) 0] = ([bitN (!(up))]))))))) [] rfl (.pure (.str _ _ _ _ _ rfl rfl rfl rfl)) rfl rfl ?_
          refine ChD.nil (And.intro ?_ (by kernel_rfl))
          refine T_cond (b := (!(decide ([(xs.getD k default).getD ((sig).toNat) 0] = ([bitN (!(up))]))))) rfl (fun h5 => ?_) (fun h5 => ?_)
          · replace h5 := nott h5
            replace h5 := of_decide_eq_false h5
            refine T_region hc ?_
            refine Ch.step (v := (.row 8)) rfl (.pure (.move _ rfl rfl)) rfl rfl ?_
            refine Ch.step (v := (.d (.str (xs.getD k default)))) rfl (.pure (.move _ rfl rfl)) rfl rfl ?_
            refine Ch.step (v := (.d (.int .i64 sig))) rfl (.pure (.move _ rfl rfl)) rfl rfl ?_
            refine Ch.step (v := (.d (.str ((xs.getD k default).take sig.toNat ++ ([45]) ++ (xs.getD k default).drop (sig + 1).toNat)))) rfl (.call 51000 72 _ _ _ en72 rfl (.inl rfl) (.cons (.d _) (.cons (.d _) (.cons (.d _) .nil))) rfl rfl (sp_spec_l5Set (xs.getD k default) sig ([45]) (by first | omega | assumption | (exact hx _ (getD_mem (by omega))) | (exact hx _ (by assumption)) | (exact Nat.le_trans (hx _ (by assumption)) (by omega)) | (simp_all; done)) (by first | omega | (simp; done) | assumption) (by first | omega | assumption | (exact hx _ (getD_mem (by omega))) | (exact hx _ (by assumption)) | (exact Nat.le_trans (hx _ (by assumption)) (by omega)) | (simp_all; done)) (by first | omega | assumption | (exact hx _ (getD_mem (by omega))) | (exact hx _ (by assumption)) | (exact Nat.le_trans (hx _ (by assumption)) (by omega)) | (simp_all; done))) (.skip _ _ (.skip _ _ (.skip _ _ .nil))) rfl) rfl rfl ?_
            refine Ch.step (v := (.row 52000)) rfl (.slice 52000 _ 9 _ rfl sty27 (xs := [.tmp 51]) rfl rfl (.cons (.d _) .nil) rfl rfl (by decide)) rfl rfl ?_
            refine Ch.step (v := (.row 53000)) rfl (.append 53000 _ _ _ 9 rfl sty27 (by decide) (.rowK rfl) (.inr ⟨_, rfl, rfl⟩) (.row rfl rfl) rfl (by first | omega | (simp; omega) | (simp; done))) rfl rfl ?_
            refine Ch.step (v := (.row 53000)) rfl (.pure (.assign _ rfl rfl)) rfl rfl ?_
            refine Ch.nil ?_
            refine T_region hc ?_
            refine Ch.step (v := (.d (.int .i64 (((k : Nat) : Int) + 1)))) rfl (.pure (.int _ _ _ _ _ rfl rfl rfl (intV_add (by first | omega | (simp only [List.length_map, List.length_append, List.length_take, List.length_drop, List.length_cons, List.length_nil]; omega) | (simp; omega) | (simp; done)) (by first | omega | (simp only [List.length_map, List.length_append, List.length_take, List.length_drop, List.length_cons, List.length_nil]; omega) | (simp; omega) | (simp; done))))) rfl rfl ?_
            refine Ch.step (v := (.d (.int .i64 (((k : Nat) : Int) + 1)))) rfl (.pure (.move _ rfl rfl)) rfl rfl ?_
            refine Ch.nil ?_
            refine Exists.intro (k + 1) (And.intro (by omega) (And.intro (by first | omega | (dsimp only; omega)) (Wk.ren [(8, 53000)] rfl rfl rfl rfl (And.intro rfl (And.intro rfl (And.intro rfl (And.intro rfl (And.intro rfl (And.intro (vI (by first | rfl | omega | (simp; done) | (simp; omega))) trivial)))))) (And.intro (oR (by first | rfl | (exact push rfl (selTo_yes (by simp_all [cofP]))) | (exact congrArg (List.map D.str) (selTo_no (by simp_all [cofP]))))) trivial))))
          · replace h5 := notf h5
            replace h5 := of_decide_eq_true h5
            refine T_skip ?_
            refine T_region hc ?_
            refine Ch.step (v := (.d (.int .i64 (((k : Nat) : Int) + 1)))) rfl (.pure (.int _ _ _ _ _ rfl rfl rfl (intV_add (by first | omega | (simp only [List.length_map, List.length_append, List.length_take, List.length_drop, List.length_cons, List.length_nil]; omega) | (simp; omega) | (simp; done)) (by first | omega | (simp only [List.length_map, List.length_append, List.length_take, List.length_drop, List.length_cons, List.length_nil]; omega) | (simp; omega) | (simp; done))))) rfl rfl ?_
            refine Ch.step (v := (.d (.int .i64 (((k : Nat) : Int) + 1)))) rfl (.pure (.move _ rfl rfl)) rfl rfl ?_
            refine Ch.nil ?_
            refine Exists.intro (k + 1) (And.intro (by omega) (And.intro (by first | omega | (dsimp only; omega)) (Wk.of rfl rfl (And.intro rfl (And.intro rfl (And.intro rfl (And.intro rfl (And.intro rfl (And.intro (vI (by first | rfl | omega | (simp; done) | (simp; omega))) trivial)))))) (And.intro (oR (by first | rfl | (exact push rfl (selTo_yes (by simp_all [cofP]))) | (exact congrArg (List.map D.str) (selTo_no (by simp_all [cofP]))))) trivial))))
        · replace h4 := of_decide_eq_false h4
          try have hk := hx _ (getD_mem (l := xs) (j := k) (d := default) (by omega))
          try have hk2 := good_len h2 _ (getD_mem (l := xs) (j := k) (d := default) (by omega))
          refine T_exit ?_
          refine T_seq ?_
          refine T_region hc ?_
          refine Ch.step (v := (.row 8)) rfl (.pure (.move _ rfl rfl)) rfl rfl ?_
          refine Ch.step (v := (.row 8)) rfl (.pure (.assign _ rfl rfl)) rfl rfl ?_
          refine Ch.step (v := (.d (.bool true))) rfl (.pure (.assign _ rfl rfl)) rfl rfl ?_
          refine Ch.nil ?_
          refine T_ret ?_
          refine And.intro (.inr rfl) ?_
          exact Exists.intro [(.row 8), (.d (.bool true))] (Exists.intro [] (Exists.intro [8] (And.intro (.cons (.tmp 6 rfl) (.cons (.tmp 7 rfl) .nil)) (And.intro (.cons (.any _) (.cons (.any _) (.cons (.any _) .nil))) (And.intro (.tup (.cons (Exp.of (congrArg (D.slice true 1) (by first | (rw [cofR, cofOk, decide_eq_true h1]; rfl) | (rw [cofR, cofOk, decide_eq_false h1, h2]; rfl) | (rw [cofR, cofOk, decide_eq_false h1, h2, h3]; rfl) | (rw [cofOk, decide_eq_true h1]; rfl) | (rw [cofOk, decide_eq_false h1, h2]; rfl) | (rw [cofOk, decide_eq_false h1, h2, h3]; rfl) | (have hk : k = xs.length := (by omega); subst hk; rw [cofR, cofOk, decide_eq_false h1, h2, h3]; rfl))) (.row rfl)) (.cons (Exp.of (congrArg D.bool (by first | (rw [cofR, cofOk, decide_eq_true h1]; rfl) | (rw [cofR, cofOk, decide_eq_false h1, h2]; rfl) | (rw [cofR, cofOk, decide_eq_false h1, h2, h3]; rfl) | (rw [cofOk, decide_eq_true h1]; rfl) | (rw [cofOk, decide_eq_false h1, h2]; rfl) | (rw [cofOk, decide_eq_false h1, h2, h3]; rfl) | (have hk : k = xs.length := (by omega); subst hk; rw [cofR, cofOk, decide_eq_false h1, h2, h3]; rfl))) (.d _)) .nil))) (And.intro rfl rfl))))))
    | false =>
      refine Ch.skip rfl rfl ?_
      refine Ch.skip rfl rfl ?_
      refine Ch.skip rfl rfl ?_
      refine Ch.skip rfl rfl ?_
      refine Ch.skip rfl rfl ?_
      refine Ch.skip rfl rfl ?_
      refine Ch.skip rfl rfl ?_
      refine Ch.skip rfl rfl ?_
      refine Ch.step (v := (.d (.bool true))) rfl (.pure (.pickT _ _ _ rfl rfl rfl)) rfl rfl ?_
      refine Ch.nil ?_
      refine T_cond (b := true) rfl (fun _ => ?_) (fun h => nomatch h)
      refine T_seq ?_
      refine T_region hc ?_
      refine Ch.step (v := (.c (.slice none 0 0))) rfl (.pure (.assign _ rfl rfl)) rfl rfl ?_
      refine Ch.step (v := (.d (.bool false))) rfl (.pure (.assign _ rfl rfl)) rfl rfl ?_
      refine Ch.nil ?_
      refine T_ret ?_
      refine And.intro (.inr rfl) ?_
      exact Exists.intro [(.c (.slice none 0 0)), (.d (.bool false))] (Exists.intro [] (Exists.intro [] (And.intro (.cons (.tmp 6 rfl) (.cons (.tmp 7 rfl) .nil)) (And.intro (.cons (.any _) (.cons (.any _) (.cons (.any _) .nil))) (And.intro (.tup (.cons (Exp.of (congrArg (D.slice true 1) (by first | (rw [cofR, cofOk, decide_eq_true h1]; rfl) | (rw [cofR, cofOk, decide_eq_false h1, h2]; rfl) | (rw [cofR, cofOk, decide_eq_false h1, h2, h3]; rfl) | (rw [cofOk, decide_eq_true h1]; rfl) | (rw [cofOk, decide_eq_false h1, h2]; rfl) | (rw [cofOk, decide_eq_false h1, h2, h3]; rfl) | (have hk : k = xs.length := (by omega); subst hk; rw [cofR, cofOk, decide_eq_false h1, h2, h3]; rfl))) (.nil true 1)) (.cons (Exp.of (congrArg D.bool (by first | (rw [cofR, cofOk, decide_eq_true h1]; rfl) | (rw [cofR, cofOk, decide_eq_false h1, h2]; rfl) | (rw [cofR, cofOk, decide_eq_false h1, h2, h3]; rfl) | (rw [cofOk, decide_eq_true h1]; rfl) | (rw [cofOk, decide_eq_false h1, h2]; rfl) | (rw [cofOk, decide_eq_false h1, h2, h3]; rfl) | (have hk : k = xs.length := (by omega); subst hk; rw [cofR, cofOk, decide_eq_false h1, h2, h3]; rfl))) (.d _)) .nil))) (And.intro rfl rfl))))))

theorem sp_impl_Cofactor (xs : List (List UInt8)) (sig : Int) (up : Bool) (hn : xs.length ≤ 1048576) (hx : ∀ x ∈ xs, x.length ≤ 1048576) : Sp Try.prog 34 [(.slice false 1 (xs.map D.str)), (.int .i64 sig), (.bool (up))] [.any, .any, .any] (.tup [(.slice true 1 ((cofR xs sig up).map D.str)), (.bool (cofOk xs sig))]) := by
  refine Sp_intro (lend := true) Try.func34 rfl rfl rfl (fun _ => rfl) (fun c hc hX => ?_)
  refine T_seq ?_
  refine T_region hc ?_
  refine Ch.step (v := (.c (.slice none 0 0))) rfl (.pure (.assign _ rfl rfl)) rfl rfl ?_
  refine Ch.step (v := (.d (.bool false))) rfl (.pure (.assign _ rfl rfl)) rfl rfl ?_
  refine Ch.nil ?_
  refine T_seq ?_
  refine T_seq ?_
  refine T_region hc ?_
  refine Ch.step (v := (.d (.slice false 1 (xs.map D.str)))) rfl (.pure (.move _ rfl rfl)) rfl rfl ?_
  refine Ch.step (v := (.d (.int .i64 ((xs.length : Nat) : Int)))) rfl (.pure (.len _ _ 9 rfl Try.underlying27 (.sh _ _) (by simp))) rfl rfl ?_
  refine Ch.step (v := (.d (.bool (decide (((xs.length : Nat) : Int) = 0))))) rfl (.pure (.int _ _ _ _ _ rfl rfl rfl rfl)) rfl rfl ?_
  refine Ch.step (v := (.d (.bool (decide (((xs.length : Nat) : Int) = 0))))) rfl (.pure (.move _ rfl rfl)) rfl rfl ?_
  cases h1 : (decide (((xs.length : Nat) : Int) = 0)) with
  | true =>
    replace h1 := of_decide_eq_true h1
    try have h0 := (show 0 < xs.length by omega)
    try have hz := hx _ (getD_mem (l := xs) (j := 0) (d := default) h0)
    refine Ch.skip rfl rfl ?_
    refine Ch.skip rfl rfl ?_
    refine Ch.skip rfl rfl ?_
    refine Ch.skip rfl rfl ?_
    refine Ch.skip rfl rfl ?_
    refine Ch.skip rfl rfl ?_
    refine Ch.skip rfl rfl ?_
    refine Ch.step (v := (.d (.bool true))) rfl (.pure (.pickT _ _ _ rfl rfl rfl)) rfl rfl ?_
    refine Ch.step (v := (.d (.bool true))) rfl (.pure (.move _ rfl rfl)) rfl rfl ?_
    refine Ch.skip rfl rfl ?_
    refine Ch.skip rfl rfl ?_
    refine Ch.skip rfl rfl ?_
    refine Ch.skip rfl rfl ?_
    refine Ch.skip rfl rfl ?_
    refine Ch.skip rfl rfl ?_
    refine Ch.skip rfl rfl ?_
    refine Ch.skip rfl rfl ?_
    refine Ch.step (v := (.d (.bool true))) rfl (.pure (.pickT _ _ _ rfl rfl rfl)) rfl rfl ?_
    refine Ch.nil ?_
    refine T_cond (b := true) rfl (fun _ => ?_) (fun h => nomatch h)
    refine T_seq ?_
    refine T_region hc ?_
    refine Ch.step (v := (.c (.slice none 0 0))) rfl (.pure (.assign _ rfl rfl)) rfl rfl ?_
    refine Ch.step (v := (.d (.bool false))) rfl (.pure (.assign _ rfl rfl)) rfl rfl ?_
    refine Ch.nil ?_
    refine T_ret ?_
    refine And.intro (.inr rfl) ?_
    exact Exists.intro [(.c (.slice none 0 0)), (.d (.bool false))] (Exists.intro [] (Exists.intro [] (And.intro (.cons (.tmp 6 rfl) (.cons (.tmp 7 rfl) .nil)) (And.intro (.cons (.any _) (.cons (.any _) (.cons (.any _) .nil))) (And.intro (.tup (.cons (Exp.of (congrArg (D.slice true 1) (by first | (rw [cofR, cofOk, decide_eq_true h1]; rfl) | (rw [cofR, cofOk, decide_eq_false h1, h2]; rfl) | (rw [cofR, cofOk, decide_eq_false h1, h2, h3]; rfl) | (rw [cofOk, decide_eq_true h1]; rfl) | (rw [cofOk, decide_eq_false h1, h2]; rfl) | (rw [cofOk, decide_eq_false h1, h2, h3]; rfl) | (have hk : k = xs.length := (by omega); subst hk; rw [cofR, cofOk, decide_eq_false h1, h2, h3]; rfl))) (.nil true 1)) (.cons (Exp.of (congrArg D.bool (by first | (rw [cofR, cofOk, decide_eq_true h1]; rfl) | (rw [cofR, cofOk, decide_eq_false h1, h2]; rfl) | (rw [cofR, cofOk, decide_eq_false h1, h2, h3]; rfl) | (rw [cofOk, decide_eq_true h1]; rfl) | (rw [cofOk, decide_eq_false h1, h2]; rfl) | (rw [cofOk, decide_eq_false h1, h2, h3]; rfl) | (have hk : k = xs.length := (by omega); subst hk; rw [cofR, cofOk, decide_eq_false h1, h2, h3]; rfl))) (.d _)) .nil))) (And.intro rfl rfl))))))
  | false =>
    replace h1 := of_decide_eq_false h1
    try have h0 := (show 0 < xs.length by omega)
    try have hz := hx _ (getD_mem (l := xs) (j := 0) (d := default) h0)
    refine Ch.step (v := (.d (.slice false 1 (xs.map D.str)))) rfl (.pure (.move _ rfl rfl)) rfl rfl ?_
    refine Ch.step (v := (.d (.ref (.str (xs.getD 0 default))))) rfl (.pure (.idx _ _ _ 9 (0) rfl Try.underlying27 sz9 rfl rfl rfl (get_map _ (by first | omega | (simp only [List.length_map, List.length_append, List.length_take, List.length_drop, List.length_cons, List.length_nil]; omega) | (simp; omega) | (simp; done))))) rfl rfl ?_
    refine Ch.step (v := (.d (.str (xs.getD 0 default)))) rfl (.pure (.loadRef1 _ _ rfl ag9 rfl rfl)) rfl rfl ?_
    refine Ch.step (v := (.d (.int .i64 (((xs.getD 0 default).length : Nat) : Int)))) rfl (.pure (.lenStr _ _ rfl Try.underlying9 rfl)) rfl rfl ?_
    refine Ch.step (v := (.d (.slice false 1 (xs.map D.str)))) rfl (.pure (.move _ rfl rfl)) rfl rfl ?_
    refine Ch.step (v := (.d (.bool (goodB (((xs.getD 0 default).length : Nat) : Int) xs)))) rfl (.call 20000 24 _ _ _ en24 rfl (.inl rfl) (.cons (.d _) (.cons (.d _) .nil)) rfl rfl (sp_impl_IsValidCover (((xs.getD 0 default).length : Nat) : Int) xs (by first | omega | assumption | (exact hx _ (getD_mem (by omega))) | (exact hx _ (by assumption)) | (exact Nat.le_trans (hx _ (by assumption)) (by omega)) | (simp_all; done)) (by first | omega | assumption | (exact hx _ (getD_mem (by omega))) | (exact hx _ (by assumption)) | (exact Nat.le_trans (hx _ (by assumption)) (by omega)) | (simp_all; done))) (.skip _ _ (.skip _ _ .nil)) rfl) rfl rfl ?_
    refine Ch.step (v := (.d (.bool (!(goodB (((xs.getD 0 default).length : Nat) : Int) xs))))) rfl (.pure (.not _ _ rfl rfl)) rfl rfl ?_
    refine Ch.step (v := (.d (.bool (!(goodB (((xs.getD 0 default).length : Nat) : Int) xs))))) rfl (.pure (.pickF _ _ _ rfl rfl rfl)) rfl rfl ?_
    refine Ch.step (v := (.d (.bool (!(goodB (((xs.getD 0 default).length : Nat) : Int) xs))))) rfl (.pure (.move _ rfl rfl)) rfl rfl ?_
    cases h2 : (goodB (((xs.getD 0 default).length : Nat) : Int) xs) with
    | true =>
      refine Ch.step (v := (.d (.int .i64 sig))) rfl (.pure (.move _ rfl rfl)) rfl rfl ?_
      refine Ch.step (v := (.d (.slice false 1 (xs.map D.str)))) rfl (.pure (.move _ rfl rfl)) rfl rfl ?_
      refine Ch.step (v := (.d (.ref (.str (xs.getD 0 default))))) rfl (.pure (.idx _ _ _ 9 (0) rfl Try.underlying27 sz9 rfl rfl rfl (get_map _ (by first | omega | (simp only [List.length_map, List.length_append, List.length_take, List.length_drop, List.length_cons, List.length_nil]; omega) | (simp; omega) | (simp; done))))) rfl rfl ?_
      refine Ch.step (v := (.d (.str (xs.getD 0 default)))) rfl (.pure (.loadRef1 _ _ rfl ag9 rfl rfl)) rfl rfl ?_
      refine Ch.step (v := (.d (.int .i64 (((xs.getD 0 default).length : Nat) : Int)))) rfl (.pure (.lenStr _ _ rfl Try.underlying9 rfl)) rfl rfl ?_
      refine Ch.step (v := (.d (.int .i64 ((((xs.getD 0 default).length : Nat) : Int) - 1)))) rfl (.pure (.int _ _ _ _ _ rfl rfl rfl (intV_sub (by first | omega | (simp only [List.length_map, List.length_append, List.length_take, List.length_drop, List.length_cons, List.length_nil]; omega) | (simp; omega) | (simp; done)) (by first | omega | (simp only [List.length_map, List.length_append, List.length_take, List.length_drop, List.length_cons, List.length_nil]; omega) | (simp; omega) | (simp; done))))) rfl rfl ?_
      refine Ch.step (v := (.d (.bool (withinB sig 0 ((((xs.getD 0 default).length : Nat) : Int) - 1))))) rfl (.call 30000 62 _ _ _ en62 rfl (.inl rfl) (.cons (.d _) (.cons (.d _) (.cons (.d _) .nil))) rfl rfl (sp_impl_within sig 0 ((((xs.getD 0 default).length : Nat) : Int) - 1)) (.skip _ _ (.skip _ _ (.skip _ _ .nil))) rfl) rfl rfl ?_
      refine Ch.step (v := (.d (.bool (!(withinB sig 0 ((((xs.getD 0 default).length : Nat) : Int) - 1)))))) rfl (.pure (.not _ _ rfl rfl)) rfl rfl ?_
      refine Ch.step (v := (.d (.bool (!(withinB sig 0 ((((xs.getD 0 default).length : Nat) : Int) - 1)))))) rfl (.pure (.pickF _ _ _ rfl rfl rfl)) rfl rfl ?_
      refine Ch.nil ?_
      refine T_cond (b := (!(withinB sig 0 ((((xs.getD 0 default).length : Nat) : Int) - 1)))) rfl (fun h3 => ?_) (fun h3 => ?_)
      · replace h3 := nott h3
        try have hw := within_two h3
        refine T_seq ?_
        refine T_region hc ?_
        refine Ch.step (v := (.c (.slice none 0 0))) rfl (.pure (.assign _ rfl rfl)) rfl rfl ?_
        refine Ch.step (v := (.d (.bool false))) rfl (.pure (.assign _ rfl rfl)) rfl rfl ?_
        refine Ch.nil ?_
        refine T_ret ?_
        refine And.intro (.inr rfl) ?_
        exact Exists.intro [(.c (.slice none 0 0)), (.d (.bool false))] (Exists.intro [] (Exists.intro [] (And.intro (.cons (.tmp 6 rfl) (.cons (.tmp 7 rfl) .nil)) (And.intro (.cons (.any _) (.cons (.any _) (.cons (.any _) .nil))) (And.intro (.tup (.cons (Exp.of (congrArg (D.slice true 1) (by first | (rw [cofR, cofOk, decide_eq_true h1]; rfl) | (rw [cofR, cofOk, decide_eq_false h1, h2]; rfl) | (rw [cofR, cofOk, decide_eq_false h1, h2, h3]; rfl) | (rw [cofOk, decide_eq_true h1]; rfl) | (rw [cofOk, decide_eq_false h1, h2]; rfl) | (rw [cofOk, decide_eq_false h1, h2, h3]; rfl) | (have hk : k = xs.length := (by omega); subst hk; rw [cofR, cofOk, decide_eq_false h1, h2, h3]; rfl))) (.nil true 1)) (.cons (Exp.of (congrArg D.bool (by first | (rw [cofR, cofOk, decide_eq_true h1]; rfl) | (rw [cofR, cofOk, decide_eq_false h1, h2]; rfl) | (rw [cofR, cofOk, decide_eq_false h1, h2, h3]; rfl) | (rw [cofOk, decide_eq_true h1]; rfl) | (rw [cofOk, decide_eq_false h1, h2]; rfl) | (rw [cofOk, decide_eq_false h1, h2, h3]; rfl) | (have hk : k = xs.length := (by omega); subst hk; rw [cofR, cofOk, decide_eq_false h1, h2, h3]; rfl))) (.d _)) .nil))) (And.intro rfl rfl))))))
      · replace h3 := notf h3
        try have hw := within_two h3
        refine T_skip ?_
        refine T_seq ?_
        refine T_region hc ?_
        refine Ch.step (v := (.row 33000)) rfl (.slice 33000 _ 9 _ rfl sty27 (xs := []) rfl rfl .nil rfl rfl (by decide)) rfl rfl ?_
        refine Ch.step (v := (.row 33000)) rfl (.pure (.assign _ rfl rfl)) rfl rfl ?_
        refine Ch.nil ?_
        refine T_seq ?_
        refine T_seq ?_
        refine T_region hc ?_
        refine Ch.step (v := (.d (.slice false 1 (xs.map D.str)))) rfl (.pure (.move _ rfl rfl)) rfl rfl ?_
        refine Ch.step (v := (.d (.int .i64 ((xs.length : Nat) : Int)))) rfl (.pure (.len _ _ 9 rfl Try.underlying27 (.sh _ _) (by simp))) rfl rfl ?_
        refine Ch.step (v := (.d (.int .i64 0))) rfl (.pure (.move _ rfl rfl)) rfl rfl ?_
        refine Ch.nil ?_
        refine T_block ?_
        refine T_loop (ι := Nat) (fun k => { n := 61, sl := [(1, (.d (.int .i64 sig))), (2, (.d (.bool (up)))), (8, (.row 8)), (34, (.d (.slice false 1 (xs.map D.str)))), (35, (.d (.int .i64 ((xs.length : Nat) : Int)))), (36, (.d (.int .i64 ((k : Nat) : Int))))], hp := [(8, (some (.row 1 ((cofTo xs sig up k).map D.str))))], pin := [] }) (fun k => k ≤ xs.length) (fun k => xs.length - k) ⟨0, (by omega), (Wk.ren [(8, 33000)] rfl rfl rfl rfl (And.intro rfl (And.intro rfl (And.intro rfl (And.intro rfl (And.intro rfl (And.intro (vI (by first | rfl | omega | (simp; done) | (simp; omega))) trivial)))))) (And.intro (oR (by first | rfl | (exact push rfl (selTo_yes (by simp_all [cofP]))) | (exact congrArg (List.map D.str) (selTo_no (by simp_all [cofP]))))) trivial))⟩ (fun k hp0 => ?_)
        have hq := cofTo_le xs sig up k
        refine T_seq ?_
        refine T_region hc ?_
        refine Ch.step (v := (.d (.bool (decide (((k : Nat) : Int) < ((xs.length : Nat) : Int)))))) rfl (.pure (.int _ _ _ _ _ rfl rfl rfl rfl)) rfl rfl ?_
        refine Ch.nil ?_
        refine T_seq ?_
        refine T_cond (b := (decide (((k : Nat) : Int) < ((xs.length : Nat) : Int)))) rfl (fun h4 => ?_) (fun h4 => ?_)
        · replace h4 := of_decide_eq_true h4
          try have hk := hx _ (getD_mem (l := xs) (j := k) (d := default) (by omega))
          try have hk2 := good_len h2 _ (getD_mem (l := xs) (j := k) (d := default) (by omega))
          refine T_skip ?_
          refine T_seq ?_
          refine T_block ?_
          refine T_seq ?_
          refine T_region hc ?_
          refine Ch.step (v := (.d (.ref (.str (xs.getD k default))))) rfl (.pure (.idx _ _ _ 9 (k) rfl Try.underlying27 sz9 rfl rfl rfl (get_map _ (by first | omega | (simp only [List.length_map, List.length_append, List.length_take, List.length_drop, List.length_cons, List.length_nil]; omega) | (simp; omega) | (simp; done))))) rfl rfl ?_
          refine Ch.step (v := (.d (.str (xs.getD k default)))) rfl (.pure (.loadRef1 _ _ rfl ag9 rfl rfl)) rfl rfl ?_
          refine Ch.step (v := (.d (.str (xs.getD k default)))) rfl (.pure (.assign _ rfl rfl)) rfl rfl ?_
          refine Ch.nil ?_
          refine T_seq ?_
          refine T_regionD hc (by kernel_rfl) ?_
          refine ChD.step (v := (.d (.str (xs.getD k default)))) [] rfl (.pure (.move _ rfl rfl)) rfl rfl ?_
          refine ChD.step (v := (.d (.int .i64 sig))) [] rfl (.pure (.move _ rfl rfl)) rfl rfl ?_
          refine ChD.step (v := (.d (.int .u8 (((xs.getD k default).getD ((sig).toNat) 0).toNat : Int)))) [] rfl (.pure (.idxStr _ _ _ ((sig).toNat) rfl Try.underlying9 rfl rfl (by omega) (get_str (by first | omega | (simp only [List.length_map, List.length_append, List.length_take, List.length_drop, List.length_cons, List.length_nil]; omega) | (simp; omega) | (simp; done))))) rfl rfl ?_
          refine ChD.step (v := (.d (.bool (up)))) [] rfl (.pure (.move _ rfl rfl)) rfl rfl ?_
          refine ChD.step (v := (.d (.bool (!(up))))) [] rfl (.pure (.not _ _ rfl rfl)) rfl rfl ?_
          refine ChD.step (v := (.d (.int .u8 ((bitN (!(up))).toNat : Int)))) [] rfl (.call 45000 73 _ _ _ en73 rfl (.inl rfl) (.cons (.d _) .nil) rfl rfl (sp_impl_bit (!(up))) (.skip _ _ .nil) rfl) rfl rfl ?_
          refine ChD.step (v := (.d (.bool (!(decide ((((xs.getD k default).getD ((sig).toNat) 0) : UInt8) = (bitN (!(up))))))))) [] rfl (.pure (.int _ _ _ _ _ rfl rfl rfl (u8_neq (((xs.getD k default).getD ((sig).toNat) 0) : UInt8) (bitN (!(up))) rfl rfl))) rfl rfl ?_
          refine ChD.nil (And.intro ?_ (by kernel_rfl))
          refine T_cond (b := (!(decide ((((xs.getD k default).getD ((sig).toNat) 0) : UInt8) = (bitN (!(up))))))) rfl (fun h5 => ?_) (fun h5 => ?_)
          · replace h5 := nott h5
            replace h5 := of_decide_eq_false h5
            refine T_regionD hc (by kernel_rfl) ?_
            refine ChD.step (v := (.row 8)) [] rfl (.pure (.move _ rfl rfl)) rfl rfl ?_
            refine ChD.step (v := (.d (.str (xs.getD k default)))) [] rfl (.pure (.move _ rfl rfl)) rfl rfl ?_
            refine ChD.step (v := (.d (.int .i64 sig))) [] rfl (.pure (.move _ rfl rfl)) rfl rfl ?_
            refine ChD.step (v := (.d (.str ((xs.getD k default).take ((sig).toNat))))) [] rfl (.pure (.sliceStr _ _ _ _ (0) ((sig).toNat) rfl Try.underlying9 rfl (bndN rfl) (bndS rfl (by omega)) (by first | omega | (simp only [List.length_map, List.length_append, List.length_take, List.length_drop, List.length_cons, List.length_nil]; omega) | (simp; omega) | (simp; done)) (by first | omega | (simp only [List.length_map, List.length_append, List.length_take, List.length_drop, List.length_cons, List.length_nil]; omega) | (simp; omega) | (simp; done)) (by simp))) rfl rfl ?_
            refine ChD.step (v := (.d (.str (((xs.getD k default).take ((sig).toNat)) ++ [45])))) [] rfl (.pure (.str _ _ _ _ _ rfl rfl rfl (strV_add (by first | omega | (simp only [List.length_map, List.length_append, List.length_take, List.length_drop, List.length_cons, List.length_nil]; omega) | (simp; omega) | (simp; done))))) rfl rfl ?_
            refine ChD.step (v := (.d (.str (xs.getD k default)))) [] rfl (.pure (.move _ rfl rfl)) rfl rfl ?_
            refine ChD.step (v := (.d (.int .i64 sig))) [] rfl (.pure (.move _ rfl rfl)) rfl rfl ?_
            refine ChD.step (v := (.d (.int .i64 (sig + 1)))) [] rfl (.pure (.int _ _ _ _ _ rfl rfl rfl (intV_add (by first | omega | (simp only [List.length_map, List.length_append, List.length_take, List.length_drop, List.length_cons, List.length_nil]; omega) | (simp; omega) | (simp; done)) (by first | omega | (simp only [List.length_map, List.length_append, List.length_take, List.length_drop, List.length_cons, List.length_nil]; omega) | (simp; omega) | (simp; done))))) rfl rfl ?_
            refine ChD.step (v := (.d (.str ((xs.getD k default).drop (((sig + 1)).toNat))))) [] rfl (.pure (.sliceStr _ _ _ _ (((sig + 1)).toNat) ((xs.getD k default).length) rfl Try.underlying9 rfl (bndS rfl (by omega)) (bndN rfl) (by first | omega | (simp only [List.length_map, List.length_append, List.length_take, List.length_drop, List.length_cons, List.length_nil]; omega) | (simp; omega) | (simp; done)) (by first | omega | (simp only [List.length_map, List.length_append, List.length_take, List.length_drop, List.length_cons, List.length_nil]; omega) | (simp; omega) | (simp; done)) (by simp))) rfl rfl ?_
            refine ChD.step (v := (.d (.str ((((xs.getD k default).take ((sig).toNat)) ++ [45]) ++ ((xs.getD k default).drop (((sig + 1)).toNat)))))) [] rfl (.pure (.str _ _ _ _ _ rfl rfl rfl (strV_add (by first | omega | (simp only [List.length_map, List.length_append, List.length_take, List.length_drop, List.length_cons, List.length_nil]; omega) | (simp; omega) | (simp; done))))) rfl rfl ?_
            refine ChD.step (v := (.row 57000)) [] rfl (.slice 57000 _ 9 _ rfl sty27 (xs := [.tmp 56]) rfl rfl (.cons (.d _) .nil) rfl rfl (by decide)) rfl rfl ?_
            refine ChD.step (v := (.row 58000)) [8, 57000] rfl (.append 58000 _ _ _ 9 rfl sty27 (by decide) (.rowK rfl) (.inr ⟨_, rfl, rfl⟩) (.row rfl rfl) rfl (by first | omega | (simp; omega) | (simp; done))) rfl rfl ?_
            refine ChD.step (v := (.row 58000)) [] rfl (.pure (.assign _ rfl rfl)) rfl rfl ?_
            refine ChD.nil (And.intro ?_ (by kernel_rfl))
            refine T_region hc ?_
            refine Ch.step (v := (.d (.int .i64 (((k : Nat) : Int) + 1)))) rfl (.pure (.int _ _ _ _ _ rfl rfl rfl (intV_add (by first | omega | (simp only [List.length_map, List.length_append, List.length_take, List.length_drop, List.length_cons, List.length_nil]; omega) | (simp; omega) | (simp; done)) (by first | omega | (simp only [List.length_map, List.length_append, List.length_take, List.length_drop, List.length_cons, List.length_nil]; omega) | (simp; omega) | (simp; done))))) rfl rfl ?_
            refine Ch.step (v := (.d (.int .i64 (((k : Nat) : Int) + 1)))) rfl (.pure (.move _ rfl rfl)) rfl rfl ?_
            refine Ch.nil ?_
            refine Exists.intro (k + 1) (And.intro (by omega) (And.intro (by first | omega | (dsimp only; omega)) (Wk.ren [(8, 58000)] rfl rfl rfl rfl (And.intro rfl (And.intro rfl (And.intro rfl (And.intro rfl (And.intro rfl (And.intro (vI (by first | rfl | omega | (simp; done) | (simp; omega))) trivial)))))) (And.intro (oR (by first | rfl | (exact push rfl (selTo_yes (by simp_all [cofP]))) | (exact congrArg (List.map D.str) (selTo_no (by simp_all [cofP]))))) trivial))))
          · replace h5 := notf h5
            replace h5 := of_decide_eq_true h5
            refine T_skip ?_
            refine T_region hc ?_
            refine Ch.step (v := (.d (.int .i64 (((k : Nat) : Int) + 1)))) rfl (.pure (.int _ _ _ _ _ rfl rfl rfl (intV_add (by first | omega | (simp only [List.length_map, List.length_append, List.length_take, List.length_drop, List.length_cons, List.length_nil]; omega) | (simp; omega) | (simp; done)) (by first | omega | (simp only [List.length_map, List.length_append, List.length_take, List.length_drop, List.length_cons, List.length_nil]; omega) | (simp; omega) | (simp; done))))) rfl rfl ?_
            refine Ch.step (v := (.d (.int .i64 (((k : Nat) : Int) + 1)))) rfl (.pure (.move _ rfl rfl)) rfl rfl ?_
            refine Ch.nil ?_
            refine Exists.intro (k + 1) (And.intro (by omega) (And.intro (by first | omega | (dsimp only; omega)) (Wk.of rfl rfl (And.intro rfl (And.intro rfl (And.intro rfl (And.intro rfl (And.intro rfl (And.intro (vI (by first | rfl | omega | (simp; done) | (simp; omega))) trivial)))))) (And.intro (oR (by first | rfl | (exact push rfl (selTo_yes (by simp_all [cofP]))) | (exact congrArg (List.map D.str) (selTo_no (by simp_all [cofP]))))) trivial))))
        · replace h4 := of_decide_eq_false h4
          try have hk := hx _ (getD_mem (l := xs) (j := k) (d := default) (by omega))
          try have hk2 := good_len h2 _ (getD_mem (l := xs) (j := k) (d := default) (by omega))
          refine T_exit ?_
          refine T_seq ?_
          refine T_region hc ?_
          refine Ch.step (v := (.row 8)) rfl (.pure (.move _ rfl rfl)) rfl rfl ?_
          refine Ch.step (v := (.row 8)) rfl (.pure (.assign _ rfl rfl)) rfl rfl ?_
          refine Ch.step (v := (.d (.bool true))) rfl (.pure (.assign _ rfl rfl)) rfl rfl ?_
          refine Ch.nil ?_
          refine T_ret ?_
          refine And.intro (.inr rfl) ?_
          exact Exists.intro [(.row 8), (.d (.bool true))] (Exists.intro [] (Exists.intro [8] (And.intro (.cons (.tmp 6 rfl) (.cons (.tmp 7 rfl) .nil)) (And.intro (.cons (.any _) (.cons (.any _) (.cons (.any _) .nil))) (And.intro (.tup (.cons (Exp.of (congrArg (D.slice true 1) (by first | (rw [cofR, cofOk, decide_eq_true h1]; rfl) | (rw [cofR, cofOk, decide_eq_false h1, h2]; rfl) | (rw [cofR, cofOk, decide_eq_false h1, h2, h3]; rfl) | (rw [cofOk, decide_eq_true h1]; rfl) | (rw [cofOk, decide_eq_false h1, h2]; rfl) | (rw [cofOk, decide_eq_false h1, h2, h3]; rfl) | (have hk : k = xs.length := (by omega); subst hk; rw [cofR, cofOk, decide_eq_false h1, h2, h3]; rfl))) (.row rfl)) (.cons (Exp.of (congrArg D.bool (by first | (rw [cofR, cofOk, decide_eq_true h1]; rfl) | (rw [cofR, cofOk, decide_eq_false h1, h2]; rfl) | (rw [cofR, cofOk, decide_eq_false h1, h2, h3]; rfl) | (rw [cofOk, decide_eq_true h1]; rfl) | (rw [cofOk, decide_eq_false h1, h2]; rfl) | (rw [cofOk, decide_eq_false h1, h2, h3]; rfl) | (have hk : k = xs.length := (by omega); subst hk; rw [cofR, cofOk, decide_eq_false h1, h2, h3]; rfl))) (.d _)) .nil))) (And.intro rfl rfl))))))
    | false =>
      refine Ch.skip rfl rfl ?_
      refine Ch.skip rfl rfl ?_
      refine Ch.skip rfl rfl ?_
      refine Ch.skip rfl rfl ?_
      refine Ch.skip rfl rfl ?_
      refine Ch.skip rfl rfl ?_
      refine Ch.skip rfl rfl ?_
      refine Ch.skip rfl rfl ?_
      refine Ch.step (v := (.d (.bool true))) rfl (.pure (.pickT _ _ _ rfl rfl rfl)) rfl rfl ?_
      refine Ch.nil ?_
      refine T_cond (b := true) rfl (fun _ => ?_) (fun h => nomatch h)
      refine T_seq ?_
      refine T_region hc ?_
      refine Ch.step (v := (.c (.slice none 0 0))) rfl (.pure (.assign _ rfl rfl)) rfl rfl ?_
      refine Ch.step (v := (.d (.bool false))) rfl (.pure (.assign _ rfl rfl)) rfl rfl ?_
      refine Ch.nil ?_
      refine T_ret ?_
      refine And.intro (.inr rfl) ?_
      exact Exists.intro [(.c (.slice none 0 0)), (.d (.bool false))] (Exists.intro [] (Exists.intro [] (And.intro (.cons (.tmp 6 rfl) (.cons (.tmp 7 rfl) .nil)) (And.intro (.cons (.any _) (.cons (.any _) (.cons (.any _) .nil))) (And.intro (.tup (.cons (Exp.of (congrArg (D.slice true 1) (by first | (rw [cofR, cofOk, decide_eq_true h1]; rfl) | (rw [cofR, cofOk, decide_eq_false h1, h2]; rfl) | (rw [cofR, cofOk, decide_eq_false h1, h2, h3]; rfl) | (rw [cofOk, decide_eq_true h1]; rfl) | (rw [cofOk, decide_eq_false h1, h2]; rfl) | (rw [cofOk, decide_eq_false h1, h2, h3]; rfl) | (have hk : k = xs.length := (by omega); subst hk; rw [cofR, cofOk, decide_eq_false h1, h2, h3]; rfl))) (.nil true 1)) (.cons (Exp.of (congrArg D.bool (by first | (rw [cofR, cofOk, decide_eq_true h1]; rfl) | (rw [cofR, cofOk, decide_eq_false h1, h2]; rfl) | (rw [cofR, cofOk, decide_eq_false h1, h2, h3]; rfl) | (rw [cofOk, decide_eq_true h1]; rfl) | (rw [cofOk, decide_eq_false h1, h2]; rfl) | (rw [cofOk, decide_eq_false h1, h2, h3]; rfl) | (have hk : k = xs.length := (by omega); subst hk; rw [cofR, cofOk, decide_eq_false h1, h2, h3]; rfl))) (.d _)) .nil))) (And.intro rfl rfl))))))

theorem sp_laws_FnExactCofactor (xs : List (List UInt8)) (sig : Int) (up : Bool) (hn : xs.length ≤ 9223372036854775807) (hx : ∀ x ∈ xs, x.length ≤ 9223372036854775807) : Sp Try.prog 8 [(.slice false 1 (xs.map D.str)), (.int .i64 sig), (.bool (up))] [.any, .any, .any] (.bool true) := by
  refine Sp_intro (lend := true) Try.func8 rfl rfl rfl (fun _ => rfl) (fun c hc hX => ?_)
  refine T_seq ?_
  refine T_region hc ?_
  refine Ch.step (v := (.d (.bool false))) rfl (.pure (.assign _ rfl rfl)) rfl rfl ?_
  refine Ch.nil ?_
  refine T_seq ?_
  refine T_region hc ?_
  refine Ch.step (v := (.d (.int .i64 1048576))) rfl (.pure (.assign _ rfl rfl)) rfl rfl ?_
  refine Ch.nil ?_
  refine T_seq ?_
  refine T_region hc ?_
  refine Ch.step (v := (.d (.slice false 1 (xs.map D.str)))) rfl (.pure (.move _ rfl rfl)) rfl rfl ?_
  refine Ch.step (v := (.d (.int .i64 1048576))) rfl (.pure (.move _ rfl rfl)) rfl rfl ?_
  refine Ch.step (v := (.d (.int .i64 (szS xs 1048576)))) rfl (.call 20000 21 _ _ _ en21 rfl (.inl rfl) (.cons (.d _) (.cons (.d _) .nil)) rfl rfl (sp_laws_szStringS xs 1048576 (by first | omega | assumption | (exact hx _ (getD_mem (by omega))) | (exact hx _ (by assumption)) | (exact Nat.le_trans (hx _ (by assumption)) (by omega)) | (simp_all; done)) (by first | omega | assumption | (exact hx _ (getD_mem (by omega))) | (exact hx _ (by assumption)) | (exact Nat.le_trans (hx _ (by assumption)) (by omega)) | (simp_all; done)) (by first | omega | assumption | (exact hx _ (getD_mem (by omega))) | (exact hx _ (by assumption)) | (exact Nat.le_trans (hx _ (by assumption)) (by omega)) | (simp_all; done)) (by first | omega | assumption | (exact hx _ (getD_mem (by omega))) | (exact hx _ (by assumption)) | (exact Nat.le_trans (hx _ (by assumption)) (by omega)) | (simp_all; done))) (.skip _ _ (.skip _ _ .nil)) rfl) rfl rfl ?_
  refine Ch.step (v := (.d (.int .i64 (szS xs 1048576)))) rfl (.pure (.assign _ rfl rfl)) rfl rfl ?_
  refine Ch.nil ?_
  refine T_seq ?_
  refine T_seq ?_
  refine T_region hc ?_
  refine Ch.step (v := (.d (.int .i64 (szS xs 1048576)))) rfl (.pure (.move _ rfl rfl)) rfl rfl ?_
  refine Ch.step (v := (.d (.bool (decide ((szS xs 1048576) < 0))))) rfl (.pure (.int _ _ _ _ _ rfl rfl rfl rfl)) rfl rfl ?_
  refine Ch.nil ?_
  refine T_cond (b := (decide ((szS xs 1048576) < 0))) rfl (fun h1 => ?_) (fun h1 => ?_)
  · replace h1 := of_decide_eq_true h1
    try have hb := szS_ok h1
    try have hbn : bulkS xs ≤ 1048576 := by omega
    try replace hn := bulk_len hbn
    try replace hx := bulk_mem hbn
    try have hcl := Nat.le_trans (cofR_le xs sig up) hn
    try have hhm := held_marks 1 (cofR xs sig up).length
    refine T_seq ?_
    refine T_region hc ?_
    refine Ch.step (v := (.d (.bool true))) rfl (.pure (.assign _ rfl rfl)) rfl rfl ?_
    refine Ch.nil ?_
    refine T_ret ?_
    refine And.intro (.inr rfl) ?_
    exact Exists.intro [(.d (.bool true))] (Exists.intro [] (Exists.intro [] (And.intro (.cons (.tmp 6 rfl) .nil) (And.intro (.cons (.any _) (.cons (.any _) (.cons (.any _) .nil))) (And.intro (.d _) (And.intro rfl rfl))))))
  · replace h1 := of_decide_eq_false h1
    try have hb := szS_ok h1
    try have hbn : bulkS xs ≤ 1048576 := by omega
    try replace hn := bulk_len hbn
    try replace hx := bulk_mem hbn
    try have hcl := Nat.le_trans (cofR_le xs sig up) hn
    try have hhm := held_marks 1 (cofR xs sig up).length
    refine T_skip ?_
    refine T_seq ?_
    refine T_region hc ?_
    refine Ch.step (v := (.d (.slice false 1 (xs.map D.str)))) rfl (.pure (.move _ rfl rfl)) rfl rfl ?_
    refine Ch.step (v := (.row 25000)) rfl (.call 25000 23 _ _ _ en23 rfl (.inl rfl) (.cons (.d _) .nil) rfl (sol (solid_row (fun _ => rfl) _) rfl) (sp_laws_toStringS xs (by first | omega | assumption | (exact hx _ (getD_mem (by omega))) | (exact hx _ (by assumption)) | (exact Nat.le_trans (hx _ (by assumption)) (by omega)) | (simp_all; done))) (.skip _ _ .nil) rfl) rfl rfl ?_
    refine Ch.step (v := (.d (.int .i64 sig))) rfl (.pure (.move _ rfl rfl)) rfl rfl ?_
    refine Ch.step (v := (.d (.bool (up)))) rfl (.pure (.move _ rfl rfl)) rfl rfl ?_
    refine Ch.step (v := (.tup [(.row 28000), (.d (.bool (cofOk xs sig)))])) rfl (.call 28000 33 _ _ _ en33 rfl (.inl rfl) (.cons (.lend (.row rfl (frozs_map (fun _ => rfl) _))) (.cons (.d _) (.cons (.d _) .nil))) rfl (sol (by rw [D.solid]; exact solids_c (solid_row (fun _ => rfl) _) rfl) rfl) (sp_spec_Cofactor xs sig (up) (by first | omega | assumption | (exact hx _ (getD_mem (by omega))) | (exact hx _ (by assumption)) | (exact Nat.le_trans (hx _ (by assumption)) (by omega)) | (simp_all; done)) (by first | omega | assumption | (exact hx _ (getD_mem (by omega))) | (exact hx _ (by assumption)) | (exact Nat.le_trans (hx _ (by assumption)) (by omega)) | (simp_all; done))) (.skip _ _ (.skip _ _ (.skip _ _ .nil))) rfl) rfl rfl ?_
    refine Ch.step (v := (.tup [(.row 28000), (.d (.bool (cofOk xs sig)))])) rfl (.pure (.move _ rfl rfl)) rfl rfl ?_
    refine Ch.step (v := (.row 28000)) rfl (.pure (.extract _ rfl rfl rfl)) rfl rfl ?_
    refine Ch.step (v := (.d (.bool (cofOk xs sig)))) rfl (.pure (.extract _ rfl rfl rfl)) rfl rfl ?_
    refine Ch.step (v := (.row 28000)) rfl (.pure (.assign _ rfl rfl)) rfl rfl ?_
    refine Ch.step (v := (.d (.bool (cofOk xs sig)))) rfl (.pure (.assign _ rfl rfl)) rfl rfl ?_
    refine Ch.nil ?_
    refine T_seq ?_
    refine T_region hc ?_
    refine Ch.step (v := (.d (.slice false 1 (xs.map D.str)))) rfl (.pure (.move _ rfl rfl)) rfl rfl ?_
    refine Ch.step (v := (.row 32000)) rfl (.call 32000 23 _ _ _ en23 rfl (.inl rfl) (.cons (.d _) .nil) rfl (sol (solid_row (fun _ => rfl) _) rfl) (sp_laws_toStringS xs (by first | omega | assumption | (exact hx _ (getD_mem (by omega))) | (exact hx _ (by assumption)) | (exact Nat.le_trans (hx _ (by assumption)) (by omega)) | (simp_all; done))) (.skip _ _ .nil) rfl) rfl rfl ?_
    refine Ch.step (v := (.row 32000)) rfl (.pure (.assign _ rfl rfl)) rfl rfl ?_
    refine Ch.nil ?_
    refine T_seq ?_
    refine T_region hc ?_
    refine Ch.step (v := (.row 32000)) rfl (.pure (.move _ rfl rfl)) rfl rfl ?_
    refine Ch.step (v := (.d (.int .i64 sig))) rfl (.pure (.move _ rfl rfl)) rfl rfl ?_
    refine Ch.step (v := (.d (.bool (up)))) rfl (.pure (.move _ rfl rfl)) rfl rfl ?_
    refine Ch.step (v := (.tup [(.row 37000), (.d (.bool (cofOk xs sig)))])) rfl (.call 37000 34 _ _ _ en34 rfl (.inl rfl) (.cons (.lend (.row rfl (frozs_map (fun _ => rfl) _))) (.cons (.d _) (.cons (.d _) .nil))) rfl (sol (by rw [D.solid]; exact solids_c (solid_row (fun _ => rfl) _) rfl) rfl) (sp_impl_Cofactor xs sig (up) (by first | omega | assumption | (exact hx _ (getD_mem (by omega))) | (exact hx _ (by assumption)) | (exact Nat.le_trans (hx _ (by assumption)) (by omega)) | (simp_all; done)) (by first | omega | assumption | (exact hx _ (getD_mem (by omega))) | (exact hx _ (by assumption)) | (exact Nat.le_trans (hx _ (by assumption)) (by omega)) | (simp_all; done))) (.skip _ _ (.skip _ _ (.skip _ _ .nil))) rfl) rfl rfl ?_
    refine Ch.step (v := (.tup [(.row 37000), (.d (.bool (cofOk xs sig)))])) rfl (.pure (.move _ rfl rfl)) rfl rfl ?_
    refine Ch.step (v := (.row 37000)) rfl (.pure (.extract _ rfl rfl rfl)) rfl rfl ?_
    refine Ch.step (v := (.d (.bool (cofOk xs sig)))) rfl (.pure (.extract _ rfl rfl rfl)) rfl rfl ?_
    refine Ch.step (v := (.row 37000)) rfl (.pure (.assign _ rfl rfl)) rfl rfl ?_
    refine Ch.step (v := (.d (.bool (cofOk xs sig)))) rfl (.pure (.assign _ rfl rfl)) rfl rfl ?_
    refine Ch.nil ?_
    refine T_seq ?_
    refine T_seq ?_
    refine T_region hc ?_
    refine Ch.step (v := (.row 37000)) rfl (.pure (.move _ rfl rfl)) rfl rfl ?_
    refine Ch.step (v := (.row 28000)) rfl (.pure (.move _ rfl rfl)) rfl rfl ?_
    refine Ch.step (v := (.d (.bool (decide ((cofR xs sig (up)) = (cofR xs sig (up))))))) rfl (.call 42000 25 _ _ _ en25 rfl (.inl rfl) (.cons (.lend (.row rfl (frozs_map (fun _ => rfl) _))) (.cons (.lend (.row rfl (frozs_map (fun _ => rfl) _))) .nil)) rfl rfl (sp_laws_eqStringS (cofR xs sig (up)) (cofR xs sig (up)) (by first | omega | assumption | (exact hx _ (getD_mem (by omega))) | (exact hx _ (by assumption)) | (exact Nat.le_trans (hx _ (by assumption)) (by omega)) | (simp_all; done))) (.skip _ _ (.skip _ _ .nil)) rfl) rfl rfl ?_
    refine Ch.step (v := (.d (.bool (!(decide ((cofR xs sig (up)) = (cofR xs sig (up)))))))) rfl (.pure (.not _ _ rfl rfl)) rfl rfl ?_
    refine Ch.step (v := (.d (.bool (!(decide ((cofR xs sig (up)) = (cofR xs sig (up)))))))) rfl (.pure (.move _ rfl rfl)) rfl rfl ?_
    cases h2 : (decide ((cofR xs sig (up)) = (cofR xs sig (up)))) with
    | true =>
      replace h2 := of_decide_eq_true h2
      refine Ch.step (v := (.d (.bool (cofOk xs sig)))) rfl (.pure (.move _ rfl rfl)) rfl rfl ?_
      refine Ch.step (v := (.d (.bool (cofOk xs sig)))) rfl (.pure (.move _ rfl rfl)) rfl rfl ?_
      refine Ch.step (v := (.d (.bool (!(decide ((cofOk xs sig) = (cofOk xs sig))))))) rfl (.pure (.neB _ _ _ _ rfl Try.underlying4 rfl rfl)) rfl rfl ?_
      refine Ch.step (v := (.d (.bool (!(decide ((cofOk xs sig) = (cofOk xs sig))))))) rfl (.pure (.pickF _ _ _ rfl rfl rfl)) rfl rfl ?_
      refine Ch.nil ?_
      refine T_cond (b := (!(decide ((cofOk xs sig) = (cofOk xs sig))))) rfl (fun h3 => ?_) (fun h3 => ?_)
      · replace h3 := nott h3
        replace h3 := of_decide_eq_false h3
        refine T_seq ?_
        refine T_region hc ?_
        refine Ch.step (v := (.d (.bool false))) rfl (.pure (.assign _ rfl rfl)) rfl rfl ?_
        refine Ch.nil ?_
        refine T_ret ?_
        refine And.intro (.inr rfl) ?_
        exact Exists.intro [(.d (.bool false))] (Exists.intro [] (Exists.intro [] (And.intro (.cons (.tmp 6 rfl) .nil) (And.intro (.cons (.any _) (.cons (.any _) (.cons (.any _) .nil))) (And.intro (Exp.of (congrArg D.bool (by first | rfl | (simp_all; done) | (exfalso; omega) | (exfalso; simp_all; omega))) (.d _)) (And.intro rfl rfl))))))
      · replace h3 := notf h3
        replace h3 := of_decide_eq_true h3
        refine T_skip ?_
        refine T_seq ?_
        refine T_seq ?_
        refine T_region hc ?_
        refine Ch.step (v := (.row 32000)) rfl (.pure (.move _ rfl rfl)) rfl rfl ?_
        refine Ch.step (v := (.d (.slice false 1 (xs.map D.str)))) rfl (.pure (.move _ rfl rfl)) rfl rfl ?_
        refine Ch.step (v := (.row 51000)) rfl (.call 51000 23 _ _ _ en23 rfl (.inl rfl) (.cons (.d _) .nil) rfl (sol (solid_row (fun _ => rfl) _) rfl) (sp_laws_toStringS xs (by first | omega | assumption | (exact hx _ (getD_mem (by omega))) | (exact hx _ (by assumption)) | (exact Nat.le_trans (hx _ (by assumption)) (by omega)) | (simp_all; done))) (.skip _ _ .nil) rfl) rfl rfl ?_
        refine Ch.step (v := (.d (.bool (decide (xs = xs))))) rfl (.call 52000 25 _ _ _ en25 rfl (.inl rfl) (.cons (.lend (.row rfl (frozs_map (fun _ => rfl) _))) (.cons (.lend (.row rfl (frozs_map (fun _ => rfl) _))) .nil)) rfl rfl (sp_laws_eqStringS xs xs (by first | omega | assumption | (exact hx _ (getD_mem (by omega))) | (exact hx _ (by assumption)) | (exact Nat.le_trans (hx _ (by assumption)) (by omega)) | (simp_all; done))) (.skip _ _ (.skip _ _ .nil)) rfl) rfl rfl ?_
        refine Ch.step (v := (.d (.bool (!(decide (xs = xs)))))) rfl (.pure (.not _ _ rfl rfl)) rfl rfl ?_
        refine Ch.nil ?_
        refine T_cond (b := (!(decide (xs = xs)))) rfl (fun h4 => ?_) (fun h4 => ?_)
        · replace h4 := nott h4
          replace h4 := of_decide_eq_false h4
          refine T_seq ?_
          refine T_region hc ?_
          refine Ch.step (v := (.d (.bool false))) rfl (.pure (.assign _ rfl rfl)) rfl rfl ?_
          refine Ch.nil ?_
          refine T_ret ?_
          refine And.intro (.inr rfl) ?_
          exact Exists.intro [(.d (.bool false))] (Exists.intro [] (Exists.intro [] (And.intro (.cons (.tmp 6 rfl) .nil) (And.intro (.cons (.any _) (.cons (.any _) (.cons (.any _) .nil))) (And.intro (Exp.of (congrArg D.bool (by first | rfl | (simp_all; done) | (exfalso; omega) | (exfalso; simp_all; omega))) (.d _)) (And.intro rfl rfl))))))
        · replace h4 := notf h4
          replace h4 := of_decide_eq_true h4
          refine T_skip ?_
          refine T_seq ?_
          refine T_region hc ?_
          refine Ch.step (v := (.d (.int .i64 1))) rfl (.pure (.assign _ rfl rfl)) rfl rfl ?_
          refine Ch.nil ?_
          refine T_seq ?_
          refine T_region hc ?_
          refine Ch.step (v := (.row 32000)) rfl (.pure (.move _ rfl rfl)) rfl rfl ?_
          refine Ch.step (v := (.d (.int .i64 1))) rfl (.pure (.move _ rfl rfl)) rfl rfl ?_
          refine Ch.step (v := (.d (.int .i64 ((1 + xs.length : Nat) : Int)))) rfl (.call 56000 35 _ _ _ en35 rfl (.inl rfl) (.cons (.row rfl) (.cons (.d _) .nil)) rfl (sol rfl (solids_c (solid_row (fun _ => rfl) _) rfl)) (sp_laws_markStringS xs 1 (by first | omega | assumption | (exact hx _ (getD_mem (by omega))) | (exact hx _ (by assumption)) | (exact Nat.le_trans (hx _ (by assumption)) (by omega)) | (simp_all; done)) (by first | omega | assumption | (exact hx _ (getD_mem (by omega))) | (exact hx _ (by assumption)) | (exact Nat.le_trans (hx _ (by assumption)) (by omega)) | (simp_all; done))) (.row _ _ _ (.skip _ _ .nil)) rfl) rfl rfl ?_
          refine Ch.step (v := (.d (.int .i64 ((1 + xs.length : Nat) : Int)))) rfl (.pure (.assign _ rfl rfl)) rfl rfl ?_
          refine Ch.nil ?_
          refine T_seq ?_
          refine T_seq ?_
          refine T_region hc ?_
          refine Ch.step (v := (.d (.int .i64 ((1 + xs.length : Nat) : Int)))) rfl (.pure (.move _ rfl rfl)) rfl rfl ?_
          refine Ch.step (v := (.d (.bool (decide (((1 + xs.length : Nat) : Int) < 0))))) rfl (.pure (.int _ _ _ _ _ rfl rfl rfl rfl)) rfl rfl ?_
          refine Ch.step (v := (.d (.bool (decide (((1 + xs.length : Nat) : Int) < 0))))) rfl (.pure (.move _ rfl rfl)) rfl rfl ?_
          cases h5 : (decide (((1 + xs.length : Nat) : Int) < 0)) with
          | true =>
            replace h5 := of_decide_eq_true h5
            refine Ch.skip rfl rfl ?_
            refine Ch.skip rfl rfl ?_
            refine Ch.skip rfl rfl ?_
            refine Ch.skip rfl rfl ?_
            refine Ch.step (v := (.d (.bool true))) rfl (.pure (.pickT _ _ _ rfl rfl rfl)) rfl rfl ?_
            refine Ch.step (v := (.d (.bool true))) rfl (.pure (.move _ rfl rfl)) rfl rfl ?_
            refine Ch.skip rfl rfl ?_
            refine Ch.skip rfl rfl ?_
            refine Ch.skip rfl rfl ?_
            refine Ch.step (v := (.d (.bool true))) rfl (.pure (.pickT _ _ _ rfl rfl rfl)) rfl rfl ?_
            refine Ch.nil ?_
            refine T_cond (b := true) rfl (fun _ => ?_) (fun h => nomatch h)
            refine T_seq ?_
            refine T_region hc ?_
            refine Ch.step (v := (.d (.bool false))) rfl (.pure (.assign _ rfl rfl)) rfl rfl ?_
            refine Ch.nil ?_
            refine T_ret ?_
            refine And.intro (.inr rfl) ?_
            exact Exists.intro [(.d (.bool false))] (Exists.intro [] (Exists.intro [] (And.intro (.cons (.tmp 6 rfl) .nil) (And.intro (.cons (.any _) (.cons (.any _) (.cons (.any _) .nil))) (And.intro (Exp.of (congrArg D.bool (by first | rfl | (simp_all; done) | (exfalso; omega) | (exfalso; simp_all; omega))) (.d _)) (And.intro rfl rfl))))))
          | false =>
            replace h5 := of_decide_eq_false h5
            refine Ch.step (v := (.row 37000)) rfl (.pure (.move _ rfl rfl)) rfl rfl ?_
            refine Ch.step (v := (.row 28000)) rfl (.pure (.move _ rfl rfl)) rfl rfl ?_
            refine Ch.step (v := (.d (.bool (decide ((cofR xs sig (up)) = (cofR xs sig (up))))))) rfl (.call 62000 25 _ _ _ en25 rfl (.inl rfl) (.cons (.lend (.row rfl (frozs_map (fun _ => rfl) _))) (.cons (.lend (.row rfl (frozs_map (fun _ => rfl) _))) .nil)) rfl rfl (sp_laws_eqStringS (cofR xs sig (up)) (cofR xs sig (up)) (by first | omega | assumption | (exact hx _ (getD_mem (by omega))) | (exact hx _ (by assumption)) | (exact Nat.le_trans (hx _ (by assumption)) (by omega)) | (simp_all; done))) (.skip _ _ (.skip _ _ .nil)) rfl) rfl rfl ?_
            refine Ch.step (v := (.d (.bool (!(decide ((cofR xs sig (up)) = (cofR xs sig (up)))))))) rfl (.pure (.not _ _ rfl rfl)) rfl rfl ?_
            refine Ch.step (v := (.d (.bool (!(decide ((cofR xs sig (up)) = (cofR xs sig (up)))))))) rfl (.pure (.pickF _ _ _ rfl rfl rfl)) rfl rfl ?_
            refine Ch.step (v := (.d (.bool (!(decide ((cofR xs sig (up)) = (cofR xs sig (up)))))))) rfl (.pure (.move _ rfl rfl)) rfl rfl ?_
            cases h6 : (decide ((cofR xs sig (up)) = (cofR xs sig (up)))) with
            | true =>
              replace h6 := of_decide_eq_true h6
              refine Ch.step (v := (.d (.bool (cofOk xs sig)))) rfl (.pure (.move _ rfl rfl)) rfl rfl ?_
              refine Ch.step (v := (.d (.bool (cofOk xs sig)))) rfl (.pure (.move _ rfl rfl)) rfl rfl ?_
              refine Ch.step (v := (.d (.bool (!(decide ((cofOk xs sig) = (cofOk xs sig))))))) rfl (.pure (.neB _ _ _ _ rfl Try.underlying4 rfl rfl)) rfl rfl ?_
              refine Ch.step (v := (.d (.bool (!(decide ((cofOk xs sig) = (cofOk xs sig))))))) rfl (.pure (.pickF _ _ _ rfl rfl rfl)) rfl rfl ?_
              refine Ch.nil ?_
              refine T_cond (b := (!(decide ((cofOk xs sig) = (cofOk xs sig))))) rfl (fun h7 => ?_) (fun h7 => ?_)
              · replace h7 := nott h7
                replace h7 := of_decide_eq_false h7
                refine T_seq ?_
                refine T_region hc ?_
                refine Ch.step (v := (.d (.bool false))) rfl (.pure (.assign _ rfl rfl)) rfl rfl ?_
                refine Ch.nil ?_
                refine T_ret ?_
                refine And.intro (.inr rfl) ?_
                exact Exists.intro [(.d (.bool false))] (Exists.intro [] (Exists.intro [] (And.intro (.cons (.tmp 6 rfl) .nil) (And.intro (.cons (.any _) (.cons (.any _) (.cons (.any _) .nil))) (And.intro (Exp.of (congrArg D.bool (by first | rfl | (simp_all; done) | (exfalso; omega) | (exfalso; simp_all; omega))) (.d _)) (And.intro rfl rfl))))))
              · replace h7 := notf h7
                replace h7 := of_decide_eq_true h7
                refine T_skip ?_
                refine T_seq ?_
                refine T_region hc ?_
                refine Ch.step (v := (.d (.int .i64 1))) rfl (.pure (.assign _ rfl rfl)) rfl rfl ?_
                refine Ch.nil ?_
                refine T_seq ?_
                refine T_region hc ?_
                refine Ch.step (v := (.row 37000)) rfl (.pure (.move _ rfl rfl)) rfl rfl ?_
                refine Ch.step (v := (.d (.int .i64 1))) rfl (.pure (.move _ rfl rfl)) rfl rfl ?_
                refine Ch.step (v := (.d (.int .i64 ((1 + (cofR xs sig (up)).length : Nat) : Int)))) rfl (.call 72000 35 _ _ _ en35 rfl (.inl rfl) (.cons (.row rfl) (.cons (.d _) .nil)) rfl (sol rfl (solids_c (solid_row (fun _ => rfl) _) rfl)) (sp_laws_markStringS (cofR xs sig (up)) 1 (by first | omega | assumption | (exact hx _ (getD_mem (by omega))) | (exact hx _ (by assumption)) | (exact Nat.le_trans (hx _ (by assumption)) (by omega)) | (simp_all; done)) (by first | omega | assumption | (exact hx _ (getD_mem (by omega))) | (exact hx _ (by assumption)) | (exact Nat.le_trans (hx _ (by assumption)) (by omega)) | (simp_all; done))) (.row _ _ _ (.skip _ _ .nil)) rfl) rfl rfl ?_
                refine Ch.step (v := (.d (.int .i64 ((1 + (cofR xs sig (up)).length : Nat) : Int)))) rfl (.pure (.assign _ rfl rfl)) rfl rfl ?_
                refine Ch.nil ?_
                refine T_seq ?_
                refine T_region hc ?_
                refine Ch.step (v := (.d (.int .i64 1))) rfl (.pure (.assign _ rfl rfl)) rfl rfl ?_
                refine Ch.nil ?_
                refine T_seq ?_
                refine T_region hc ?_
                refine Ch.step (v := (.row 37000)) rfl (.pure (.move _ rfl rfl)) rfl rfl ?_
                refine Ch.step (v := (.d (.int .i64 1))) rfl (.pure (.move _ rfl rfl)) rfl rfl ?_
                refine Ch.step (v := (.d (.int .i64 (heldR (marks 1 (cofR xs sig (up)).length) 1)))) rfl (.call 75000 36 _ _ _ en36 rfl (.inl rfl) (.cons (.lend (.row rfl (frozs_map (fun _ => rfl) _))) (.cons (.d _) .nil)) rfl rfl (sp_laws_heldStringS (marks 1 (cofR xs sig (up)).length) 1 (by first | omega | assumption | (exact hx _ (getD_mem (by omega))) | (exact hx _ (by assumption)) | (exact Nat.le_trans (hx _ (by assumption)) (by omega)) | (simp_all; done)) (by first | omega | assumption | (exact hx _ (getD_mem (by omega))) | (exact hx _ (by assumption)) | (exact Nat.le_trans (hx _ (by assumption)) (by omega)) | (simp_all; done))) (.skip _ _ (.skip _ _ .nil)) rfl) rfl rfl ?_
                refine Ch.step (v := (.d (.int .i64 (heldR (marks 1 (cofR xs sig (up)).length) 1)))) rfl (.pure (.assign _ rfl rfl)) rfl rfl ?_
                refine Ch.nil ?_
                refine T_seq ?_
                refine T_seq ?_
                refine T_region hc ?_
                refine Ch.step (v := (.d (.int .i64 (heldR (marks 1 (cofR xs sig (up)).length) 1)))) rfl (.pure (.move _ rfl rfl)) rfl rfl ?_
                refine Ch.step (v := (.d (.bool (decide ((heldR (marks 1 (cofR xs sig (up)).length) 1) < 0))))) rfl (.pure (.int _ _ _ _ _ rfl rfl rfl rfl)) rfl rfl ?_
                refine Ch.nil ?_
                refine T_cond (b := (decide ((heldR (marks 1 (cofR xs sig (up)).length) 1) < 0))) rfl (fun h8 => ?_) (fun h8 => ?_)
                · replace h8 := of_decide_eq_true h8
                  refine T_seq ?_
                  refine T_region hc ?_
                  refine Ch.step (v := (.d (.bool false))) rfl (.pure (.assign _ rfl rfl)) rfl rfl ?_
                  refine Ch.nil ?_
                  refine T_ret ?_
                  refine And.intro (.inr rfl) ?_
                  exact Exists.intro [(.d (.bool false))] (Exists.intro [] (Exists.intro [] (And.intro (.cons (.tmp 6 rfl) .nil) (And.intro (.cons (.any _) (.cons (.any _) (.cons (.any _) .nil))) (And.intro (Exp.of (congrArg D.bool (by first | rfl | (simp_all; done) | (exfalso; omega) | (exfalso; simp_all; omega))) (.d _)) (And.intro rfl rfl))))))
                · replace h8 := of_decide_eq_false h8
                  refine T_skip ?_
                  refine T_seq ?_
                  refine T_seq ?_
                  refine T_region hc ?_
                  refine Ch.step (v := (.d (.int .i64 (heldR (marks 1 (cofR xs sig (up)).length) 1)))) rfl (.pure (.move _ rfl rfl)) rfl rfl ?_
                  refine Ch.step (v := (.d (.int .i64 ((1 + (cofR xs sig (up)).length : Nat) : Int)))) rfl (.pure (.move _ rfl rfl)) rfl rfl ?_
                  refine Ch.step (v := (.d (.bool (!(decide ((heldR (marks 1 (cofR xs sig (up)).length) 1) = ((1 + (cofR xs sig (up)).length : Nat) : Int))))))) rfl (.pure (.int _ _ _ _ _ rfl rfl rfl rfl)) rfl rfl ?_
                  refine Ch.nil ?_
                  refine T_cond (b := (!(decide ((heldR (marks 1 (cofR xs sig (up)).length) 1) = ((1 + (cofR xs sig (up)).length : Nat) : Int))))) rfl (fun h9 => ?_) (fun h9 => ?_)
                  · replace h9 := nott h9
                    replace h9 := of_decide_eq_false h9
                    refine T_seq ?_
                    refine T_region hc ?_
                    refine Ch.step (v := (.d (.bool false))) rfl (.pure (.assign _ rfl rfl)) rfl rfl ?_
                    refine Ch.nil ?_
                    refine T_ret ?_
                    refine And.intro (.inr rfl) ?_
                    exact Exists.intro [(.d (.bool false))] (Exists.intro [] (Exists.intro [] (And.intro (.cons (.tmp 6 rfl) .nil) (And.intro (.cons (.any _) (.cons (.any _) (.cons (.any _) .nil))) (And.intro (Exp.of (congrArg D.bool (by first | rfl | (simp_all; done) | (exfalso; omega) | (exfalso; simp_all; omega))) (.d _)) (And.intro rfl rfl))))))
                  · replace h9 := notf h9
                    replace h9 := of_decide_eq_true h9
                    refine T_skip ?_
                    refine T_seq ?_
                    refine T_region hc ?_
                    refine Ch.step (v := (.d (.slice false 1 (xs.map D.str)))) rfl (.pure (.move _ rfl rfl)) rfl rfl ?_
                    refine Ch.step (v := (.row 83000)) rfl (.call 83000 23 _ _ _ en23 rfl (.inl rfl) (.cons (.d _) .nil) rfl (sol (solid_row (fun _ => rfl) _) rfl) (sp_laws_toStringS xs (by first | omega | assumption | (exact hx _ (getD_mem (by omega))) | (exact hx _ (by assumption)) | (exact Nat.le_trans (hx _ (by assumption)) (by omega)) | (simp_all; done))) (.skip _ _ .nil) rfl) rfl rfl ?_
                    refine Ch.step (v := (.d (.int .i64 sig))) rfl (.pure (.move _ rfl rfl)) rfl rfl ?_
                    refine Ch.step (v := (.d (.bool (up)))) rfl (.pure (.move _ rfl rfl)) rfl rfl ?_
                    refine Ch.step (v := (.tup [(.row 86000), (.d (.bool (cofOk xs sig)))])) rfl (.call 86000 34 _ _ _ en34 rfl (.inl rfl) (.cons (.lend (.row rfl (frozs_map (fun _ => rfl) _))) (.cons (.d _) (.cons (.d _) .nil))) rfl (sol (by rw [D.solid]; exact solids_c (solid_row (fun _ => rfl) _) rfl) rfl) (sp_impl_Cofactor xs sig (up) (by first | omega | assumption | (exact hx _ (getD_mem (by omega))) | (exact hx _ (by assumption)) | (exact Nat.le_trans (hx _ (by assumption)) (by omega)) | (simp_all; done)) (by first | omega | assumption | (exact hx _ (getD_mem (by omega))) | (exact hx _ (by assumption)) | (exact Nat.le_trans (hx _ (by assumption)) (by omega)) | (simp_all; done))) (.skip _ _ (.skip _ _ (.skip _ _ .nil))) rfl) rfl rfl ?_
                    refine Ch.step (v := (.tup [(.row 86000), (.d (.bool (cofOk xs sig)))])) rfl (.pure (.move _ rfl rfl)) rfl rfl ?_
                    refine Ch.step (v := (.row 86000)) rfl (.pure (.extract _ rfl rfl rfl)) rfl rfl ?_
                    refine Ch.step (v := (.d (.bool (cofOk xs sig)))) rfl (.pure (.extract _ rfl rfl rfl)) rfl rfl ?_
                    refine Ch.step (v := (.row 86000)) rfl (.pure (.assign _ rfl rfl)) rfl rfl ?_
                    refine Ch.step (v := (.d (.bool (cofOk xs sig)))) rfl (.pure (.assign _ rfl rfl)) rfl rfl ?_
                    refine Ch.nil ?_
                    refine T_seq ?_
                    refine T_seq ?_
                    refine T_region hc ?_
                    refine Ch.step (v := (.row 86000)) rfl (.pure (.move _ rfl rfl)) rfl rfl ?_
                    refine Ch.step (v := (.row 28000)) rfl (.pure (.move _ rfl rfl)) rfl rfl ?_
                    refine Ch.step (v := (.d (.bool (decide ((cofR xs sig (up)) = (cofR xs sig (up))))))) rfl (.call 91000 25 _ _ _ en25 rfl (.inl rfl) (.cons (.lend (.row rfl (frozs_map (fun _ => rfl) _))) (.cons (.lend (.row rfl (frozs_map (fun _ => rfl) _))) .nil)) rfl rfl (sp_laws_eqStringS (cofR xs sig (up)) (cofR xs sig (up)) (by first | omega | assumption | (exact hx _ (getD_mem (by omega))) | (exact hx _ (by assumption)) | (exact Nat.le_trans (hx _ (by assumption)) (by omega)) | (simp_all; done))) (.skip _ _ (.skip _ _ .nil)) rfl) rfl rfl ?_
                    refine Ch.step (v := (.d (.bool (!(decide ((cofR xs sig (up)) = (cofR xs sig (up)))))))) rfl (.pure (.not _ _ rfl rfl)) rfl rfl ?_
                    refine Ch.step (v := (.d (.bool (!(decide ((cofR xs sig (up)) = (cofR xs sig (up)))))))) rfl (.pure (.move _ rfl rfl)) rfl rfl ?_
                    cases h10 : (decide ((cofR xs sig (up)) = (cofR xs sig (up)))) with
                    | true =>
                      replace h10 := of_decide_eq_true h10
                      refine Ch.step (v := (.d (.bool (cofOk xs sig)))) rfl (.pure (.move _ rfl rfl)) rfl rfl ?_
                      refine Ch.step (v := (.d (.bool (cofOk xs sig)))) rfl (.pure (.move _ rfl rfl)) rfl rfl ?_
                      refine Ch.step (v := (.d (.bool (!(decide ((cofOk xs sig) = (cofOk xs sig))))))) rfl (.pure (.neB _ _ _ _ rfl Try.underlying4 rfl rfl)) rfl rfl ?_
                      refine Ch.step (v := (.d (.bool (!(decide ((cofOk xs sig) = (cofOk xs sig))))))) rfl (.pure (.pickF _ _ _ rfl rfl rfl)) rfl rfl ?_
                      refine Ch.nil ?_
                      refine T_cond (b := (!(decide ((cofOk xs sig) = (cofOk xs sig))))) rfl (fun h11 => ?_) (fun h11 => ?_)
                      · replace h11 := nott h11
                        replace h11 := of_decide_eq_false h11
                        refine T_seq ?_
                        refine T_region hc ?_
                        refine Ch.step (v := (.d (.bool false))) rfl (.pure (.assign _ rfl rfl)) rfl rfl ?_
                        refine Ch.nil ?_
                        refine T_ret ?_
                        refine And.intro (.inr rfl) ?_
                        exact Exists.intro [(.d (.bool false))] (Exists.intro [] (Exists.intro [] (And.intro (.cons (.tmp 6 rfl) .nil) (And.intro (.cons (.any _) (.cons (.any _) (.cons (.any _) .nil))) (And.intro (Exp.of (congrArg D.bool (by first | rfl | (simp_all; done) | (exfalso; omega) | (exfalso; simp_all; omega))) (.d _)) (And.intro rfl rfl))))))
                      · replace h11 := notf h11
                        replace h11 := of_decide_eq_true h11
                        refine T_skip ?_
                        refine T_seq ?_
                        refine T_region hc ?_
                        refine Ch.step (v := (.d (.int .i64 1))) rfl (.pure (.assign _ rfl rfl)) rfl rfl ?_
                        refine Ch.nil ?_
                        refine T_seq ?_
                        refine T_region hc ?_
                        refine Ch.step (v := (.row 37000)) rfl (.pure (.move _ rfl rfl)) rfl rfl ?_
                        refine Ch.step (v := (.d (.int .i64 1))) rfl (.pure (.move _ rfl rfl)) rfl rfl ?_
                        refine Ch.step (v := (.d (.int .i64 (heldR (marks 1 (cofR xs sig (up)).length) 1)))) rfl (.call 100000 36 _ _ _ en36 rfl (.inl rfl) (.cons (.lend (.row rfl (frozs_map (fun _ => rfl) _))) (.cons (.d _) .nil)) rfl rfl (sp_laws_heldStringS (marks 1 (cofR xs sig (up)).length) 1 (by first | omega | assumption | (exact hx _ (getD_mem (by omega))) | (exact hx _ (by assumption)) | (exact Nat.le_trans (hx _ (by assumption)) (by omega)) | (simp_all; done)) (by first | omega | assumption | (exact hx _ (getD_mem (by omega))) | (exact hx _ (by assumption)) | (exact Nat.le_trans (hx _ (by assumption)) (by omega)) | (simp_all; done))) (.skip _ _ (.skip _ _ .nil)) rfl) rfl rfl ?_
                        refine Ch.step (v := (.d (.int .i64 (heldR (marks 1 (cofR xs sig (up)).length) 1)))) rfl (.pure (.assign _ rfl rfl)) rfl rfl ?_
                        refine Ch.nil ?_
                        refine T_seq ?_
                        refine T_seq ?_
                        refine T_region hc ?_
                        refine Ch.step (v := (.d (.int .i64 (heldR (marks 1 (cofR xs sig (up)).length) 1)))) rfl (.pure (.move _ rfl rfl)) rfl rfl ?_
                        refine Ch.step (v := (.d (.bool (decide ((heldR (marks 1 (cofR xs sig (up)).length) 1) < 0))))) rfl (.pure (.int _ _ _ _ _ rfl rfl rfl rfl)) rfl rfl ?_
                        refine Ch.nil ?_
                        refine T_cond (b := (decide ((heldR (marks 1 (cofR xs sig (up)).length) 1) < 0))) rfl (fun h12 => ?_) (fun h12 => ?_)
                        · replace h12 := of_decide_eq_true h12
                          refine T_seq ?_
                          refine T_region hc ?_
                          refine Ch.step (v := (.d (.bool false))) rfl (.pure (.assign _ rfl rfl)) rfl rfl ?_
                          refine Ch.nil ?_
                          refine T_ret ?_
                          refine And.intro (.inr rfl) ?_
                          exact Exists.intro [(.d (.bool false))] (Exists.intro [] (Exists.intro [] (And.intro (.cons (.tmp 6 rfl) .nil) (And.intro (.cons (.any _) (.cons (.any _) (.cons (.any _) .nil))) (And.intro (Exp.of (congrArg D.bool (by first | rfl | (simp_all; done) | (exfalso; omega) | (exfalso; simp_all; omega))) (.d _)) (And.intro rfl rfl))))))
                        · replace h12 := of_decide_eq_false h12
                          refine T_skip ?_
                          refine T_seq ?_
                          refine T_seq ?_
                          refine T_region hc ?_
                          refine Ch.step (v := (.d (.int .i64 (heldR (marks 1 (cofR xs sig (up)).length) 1)))) rfl (.pure (.move _ rfl rfl)) rfl rfl ?_
                          refine Ch.step (v := (.d (.int .i64 ((1 + (cofR xs sig (up)).length : Nat) : Int)))) rfl (.pure (.move _ rfl rfl)) rfl rfl ?_
                          refine Ch.step (v := (.d (.bool (!(decide ((heldR (marks 1 (cofR xs sig (up)).length) 1) = ((1 + (cofR xs sig (up)).length : Nat) : Int))))))) rfl (.pure (.int _ _ _ _ _ rfl rfl rfl rfl)) rfl rfl ?_
                          refine Ch.nil ?_
                          refine T_cond (b := (!(decide ((heldR (marks 1 (cofR xs sig (up)).length) 1) = ((1 + (cofR xs sig (up)).length : Nat) : Int))))) rfl (fun h13 => ?_) (fun h13 => ?_)
                          · replace h13 := nott h13
                            replace h13 := of_decide_eq_false h13
                            refine T_seq ?_
                            refine T_region hc ?_
                            refine Ch.step (v := (.d (.bool false))) rfl (.pure (.assign _ rfl rfl)) rfl rfl ?_
                            refine Ch.nil ?_
                            refine T_ret ?_
                            refine And.intro (.inr rfl) ?_
                            exact Exists.intro [(.d (.bool false))] (Exists.intro [] (Exists.intro [] (And.intro (.cons (.tmp 6 rfl) .nil) (And.intro (.cons (.any _) (.cons (.any _) (.cons (.any _) .nil))) (And.intro (Exp.of (congrArg D.bool (by first | rfl | (simp_all; done) | (exfalso; omega) | (exfalso; simp_all; omega))) (.d _)) (And.intro rfl rfl))))))
                          · replace h13 := notf h13
                            replace h13 := of_decide_eq_true h13
                            refine T_skip ?_
                            refine T_seq ?_
                            refine T_region hc ?_
                            refine Ch.step (v := (.d (.bool true))) rfl (.pure (.assign _ rfl rfl)) rfl rfl ?_
                            refine Ch.nil ?_
                            refine T_ret ?_
                            refine And.intro (.inr rfl) ?_
                            exact Exists.intro [(.d (.bool true))] (Exists.intro [] (Exists.intro [] (And.intro (.cons (.tmp 6 rfl) .nil) (And.intro (.cons (.any _) (.cons (.any _) (.cons (.any _) .nil))) (And.intro (.d _) (And.intro rfl rfl))))))
                    | false =>
                      replace h10 := of_decide_eq_false h10
                      refine Ch.skip rfl rfl ?_
                      refine Ch.skip rfl rfl ?_
                      refine Ch.skip rfl rfl ?_
                      refine Ch.step (v := (.d (.bool true))) rfl (.pure (.pickT _ _ _ rfl rfl rfl)) rfl rfl ?_
                      refine Ch.nil ?_
                      refine T_cond (b := true) rfl (fun _ => ?_) (fun h => nomatch h)
                      refine T_seq ?_
                      refine T_region hc ?_
                      refine Ch.step (v := (.d (.bool false))) rfl (.pure (.assign _ rfl rfl)) rfl rfl ?_
                      refine Ch.nil ?_
                      refine T_ret ?_
                      refine And.intro (.inr rfl) ?_
                      exact Exists.intro [(.d (.bool false))] (Exists.intro [] (Exists.intro [] (And.intro (.cons (.tmp 6 rfl) .nil) (And.intro (.cons (.any _) (.cons (.any _) (.cons (.any _) .nil))) (And.intro (Exp.of (congrArg D.bool (by first | rfl | (simp_all; done) | (exfalso; omega) | (exfalso; simp_all; omega))) (.d _)) (And.intro rfl rfl))))))
            | false =>
              replace h6 := of_decide_eq_false h6
              refine Ch.skip rfl rfl ?_
              refine Ch.skip rfl rfl ?_
              refine Ch.skip rfl rfl ?_
              refine Ch.step (v := (.d (.bool true))) rfl (.pure (.pickT _ _ _ rfl rfl rfl)) rfl rfl ?_
              refine Ch.nil ?_
              refine T_cond (b := true) rfl (fun _ => ?_) (fun h => nomatch h)
              refine T_seq ?_
              refine T_region hc ?_
              refine Ch.step (v := (.d (.bool false))) rfl (.pure (.assign _ rfl rfl)) rfl rfl ?_
              refine Ch.nil ?_
              refine T_ret ?_
              refine And.intro (.inr rfl) ?_
              exact Exists.intro [(.d (.bool false))] (Exists.intro [] (Exists.intro [] (And.intro (.cons (.tmp 6 rfl) .nil) (And.intro (.cons (.any _) (.cons (.any _) (.cons (.any _) .nil))) (And.intro (Exp.of (congrArg D.bool (by first | rfl | (simp_all; done) | (exfalso; omega) | (exfalso; simp_all; omega))) (.d _)) (And.intro rfl rfl))))))
    | false =>
      replace h2 := of_decide_eq_false h2
      refine Ch.skip rfl rfl ?_
      refine Ch.skip rfl rfl ?_
      refine Ch.skip rfl rfl ?_
      refine Ch.step (v := (.d (.bool true))) rfl (.pure (.pickT _ _ _ rfl rfl rfl)) rfl rfl ?_
      refine Ch.nil ?_
      refine T_cond (b := true) rfl (fun _ => ?_) (fun h => nomatch h)
      refine T_seq ?_
      refine T_region hc ?_
      refine Ch.step (v := (.d (.bool false))) rfl (.pure (.assign _ rfl rfl)) rfl rfl ?_
      refine Ch.nil ?_
      refine T_ret ?_
      refine And.intro (.inr rfl) ?_
      exact Exists.intro [(.d (.bool false))] (Exists.intro [] (Exists.intro [] (And.intro (.cons (.tmp 6 rfl) .nil) (And.intro (.cons (.any _) (.cons (.any _) (.cons (.any _) .nil))) (And.intro (Exp.of (congrArg D.bool (by first | rfl | (simp_all; done) | (exfalso; omega) | (exfalso; simp_all; omega))) (.d _)) (And.intro rfl rfl))))))

end Go.AM
