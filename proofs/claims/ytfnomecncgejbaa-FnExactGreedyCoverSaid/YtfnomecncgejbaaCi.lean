/-
  Contracts: the marks of the laws.
-/
import Derived.Test.YtfnomecncgejbaaCh
import Derived.Test.YtfnomecncgejbaaAmP
namespace Go.AM
open Go.Proofs
set_option linter.unusedVariables false
set_option linter.unusedSimpArgs false

theorem sty123 : SlotTy Try.prog 123 5 1 1 := slotTy_mk (by kernel_rfl)
theorem en66 : Enters Try.prog 66 := ⟨_, Try.func66, by kernel_rfl, rfl⟩

theorem sp_laws_markText (k : Nat) (hk : k ≤ 4194304) : Sp Try.prog 66 [(.int .i64 ((k : Nat) : Int))] [.any] (.str (mtext k)) := by
  refine Sp_intro (lend := true) Try.func66 rfl rfl rfl (fun _ => rfl) (fun c hc hX => ?_)
  refine T_seq ?_
  refine T_region hc ?_
  refine Ch.step (v := (.d (.str []))) rfl (.pure (.assign _ rfl rfl)) rfl rfl ?_
  refine Ch.nil ?_
  refine T_seq ?_
  refine T_seq ?_
  refine T_region hc ?_
  refine Ch.step (v := (.d (.int .i64 ((k : Nat) : Int)))) rfl (.pure (.move _ rfl rfl)) rfl rfl ?_
  refine Ch.step (v := (.d (.bool (decide (((k : Nat) : Int) ≤ 0))))) rfl (.pure (.int _ _ _ _ _ rfl rfl rfl rfl)) rfl rfl ?_
  refine Ch.nil ?_
  refine T_cond (b := (decide (((k : Nat) : Int) ≤ 0))) rfl (fun h1 => ?_) (fun h1 => ?_)
  · replace h1 := of_decide_eq_true h1
    refine T_seq ?_
    refine T_region hc ?_
    refine Ch.step (v := (.d (.str [109, 48]))) rfl (.pure (.assign _ rfl rfl)) rfl rfl ?_
    refine Ch.nil ?_
    refine T_ret ?_
    refine And.intro (.inr rfl) ?_
    exact Exists.intro [(.d (.str [109, 48]))] (Exists.intro [] (Exists.intro [] (And.intro (.cons (.tmp 2 rfl) .nil) (And.intro (.cons (.any _) .nil) (And.intro (Exp.of (congrArg D.str (by rw [mtext, if_pos (by omega)])) (.d _)) (And.intro rfl rfl))))))
  · replace h1 := of_decide_eq_false h1
    refine T_skip ?_
    refine T_seq ?_
    refine T_region hc ?_
    refine Ch.step (v := (.d (.str []))) rfl (.pure (.assign _ rfl rfl)) rfl rfl ?_
    refine Ch.nil ?_
    refine T_seq ?_
    refine T_block ?_
    refine T_loop (ι := Nat × List UInt8) (fun p => { n := 20, sl := [(0, (.d (.int .i64 ((p.1 : Nat) : Int)))), (3, (.d (.str p.2)))], hp := [], pin := [] }) (fun p => p.1 + p.2.length ≤ k ∧ digs p.1 p.2 = digs k []) (fun p => p.1) ⟨(k, []), ⟨by simp, rfl⟩, (Wk.of rfl rfl (And.intro (vI (by first | rfl | omega | (simp; done) | (simp; omega))) (And.intro (vS (by first | rfl | omega | (simp; done) | (simp; omega))) trivial)) trivial)⟩ (fun p hp0 => ?_)
    refine T_seq ?_
    refine T_seq ?_
    refine T_region hc ?_
    refine Ch.step (v := (.d (.int .i64 ((p.1 : Nat) : Int)))) rfl (.pure (.move _ rfl rfl)) rfl rfl ?_
    refine Ch.step (v := (.d (.bool (decide (0 < ((p.1 : Nat) : Int)))))) rfl (.pure (.int _ _ _ _ _ rfl rfl rfl rfl)) rfl rfl ?_
    refine Ch.nil ?_
    refine T_cond (b := (decide (0 < ((p.1 : Nat) : Int)))) rfl (fun h2 => ?_) (fun h2 => ?_)
    · replace h2 := of_decide_eq_true h2
      refine T_skip ?_
      refine T_block ?_
      refine T_seq ?_
      refine T_region hc ?_
      refine Ch.step (v := (.d (.int .i64 ((p.1 : Nat) : Int)))) rfl (.pure (.move _ rfl rfl)) rfl rfl ?_
      refine Ch.step (v := (.d (.int .i64 ((p.1 % 10 : Nat) : Int)))) rfl (.pure (.int _ _ _ _ _ rfl rfl rfl (remN (n := p.1) (d := 10) rfl rfl (by decide)))) rfl rfl ?_
      refine Ch.step (v := (.d (.int .i64 (48 + ((p.1 % 10 : Nat) : Int))))) rfl (.pure (.int _ _ _ _ _ rfl rfl rfl (intV_add (by first | omega | (simp only [List.length_map, List.length_append, List.length_take, List.length_drop, List.length_cons, List.length_nil]; omega) | (simp; omega) | (simp; done)) (by first | omega | (simp only [List.length_map, List.length_append, List.length_take, List.length_drop, List.length_cons, List.length_nil]; omega) | (simp; omega) | (simp; done))))) rfl rfl ?_
      refine Ch.step (v := (.d (.int .u8 ((UInt8.ofNat (48 + p.1 % 10)).toNat : Int)))) rfl (.pure (EvP.of (convU8 (n := (48 + p.1 % 10)) (by omega) (by first | omega | (simp only [List.length_map, List.length_append, List.length_take, List.length_drop, List.length_cons, List.length_nil]; omega) | (simp; omega) | (simp; done))) (.convInt _ _ _ rfl (isSome_of Try.underlying3) Try.underlying5 rfl))) rfl rfl ?_
      refine Ch.step (v := (.row 12000)) rfl (.slice 12000 _ 5 _ rfl sty123 (xs := [.tmp 11]) rfl rfl (.cons (.d _) .nil) rfl rfl (by decide)) rfl rfl ?_
      refine Ch.step (v := (.d (.str [(UInt8.ofNat (48 + p.1 % 10))]))) rfl (.string (l := [(UInt8.ofNat (48 + p.1 % 10))]) _ _ _ _ rfl Try.underlying123 Try.underlying5 Try.underlying9 (by first | exact (.row rfl rfl) | exact (.row rfl rfl))) rfl rfl ?_
      refine Ch.step (v := (.d (.str p.2))) rfl (.pure (.move _ rfl rfl)) rfl rfl ?_
      refine Ch.step (v := (.d (.str ([(UInt8.ofNat (48 + p.1 % 10))] ++ p.2)))) rfl (.pure (.str _ _ _ _ _ rfl rfl rfl (strV_add (by first | omega | (simp only [List.length_map, List.length_append, List.length_take, List.length_drop, List.length_cons, List.length_nil]; omega) | (simp; omega) | (simp; done))))) rfl rfl ?_
      refine Ch.step (v := (.d (.str ([(UInt8.ofNat (48 + p.1 % 10))] ++ p.2)))) rfl (.pure (.assign _ rfl rfl)) rfl rfl ?_
      refine Ch.nil ?_
      refine T_region hc ?_
      refine Ch.step (v := (.d (.int .i64 ((p.1 : Nat) : Int)))) rfl (.pure (.move _ rfl rfl)) rfl rfl ?_
      refine Ch.step (v := (.d (.int .i64 ((p.1 / 10 : Nat) : Int)))) rfl (.pure (.int _ _ _ _ _ rfl rfl rfl (quoN (n := p.1) (d := 10) rfl rfl (by decide) (by first | omega | (simp only [List.length_map, List.length_append, List.length_take, List.length_drop, List.length_cons, List.length_nil]; omega) | (simp; omega) | (simp; done))))) rfl rfl ?_
      refine Ch.step (v := (.d (.int .i64 ((p.1 / 10 : Nat) : Int)))) rfl (.pure (.assign _ rfl rfl)) rfl rfl ?_
      refine Ch.nil ?_
      refine Exists.intro ((p.1 / 10, [UInt8.ofNat (48 + p.1 % 10)] ++ p.2)) (And.intro ⟨by (have := hp0.1; simp; omega), (digs_step (k := p.1) (by omega) p.2).symm.trans hp0.2⟩ (And.intro (by (simp; omega)) (Wk.of rfl rfl (And.intro (vI (by first | rfl | omega | (simp; done) | (simp; omega))) (And.intro (vS (by first | rfl | omega | (simp; done) | (simp; omega))) trivial)) trivial)))
    · replace h2 := of_decide_eq_false h2
      refine T_exit ?_
      refine T_seq ?_
      refine T_region hc ?_
      refine Ch.step (v := (.d (.str p.2))) rfl (.pure (.move _ rfl rfl)) rfl rfl ?_
      refine Ch.step (v := (.d (.str ([109] ++ p.2)))) rfl (.pure (.str _ _ _ _ _ rfl rfl rfl (strV_add (by first | omega | (simp only [List.length_map, List.length_append, List.length_take, List.length_drop, List.length_cons, List.length_nil]; omega) | (simp; omega) | (simp; done))))) rfl rfl ?_
      refine Ch.step (v := (.d (.str ([109] ++ p.2)))) rfl (.pure (.assign _ rfl rfl)) rfl rfl ?_
      refine Ch.nil ?_
      refine T_ret ?_
      refine And.intro (.inr rfl) ?_
      exact Exists.intro [(.d (.str ([109] ++ p.2)))] (Exists.intro [] (Exists.intro [] (And.intro (.cons (.tmp 2 rfl) .nil) (And.intro (.cons (.any _) .nil) (And.intro (Exp.of (congrArg D.str (by have hz : p.1 = 0 := (by omega); have h5 := hp0.2; rw [hz, digs_zero] at h5; rw [mtext, if_neg (by omega), h5]; rfl)) (.d _)) (And.intro rfl rfl))))))

theorem sp_laws_markStringS (xs : List (List UInt8)) (k : Nat) (hn : xs.length ≤ 1048576) (hk : k ≤ 2097152) : Sp Try.prog 26 [(.slice true 1 (xs.map D.str)), (.int .i64 ((k : Nat) : Int))] [(.slice true 1 ((marks k xs.length).map D.str)), .any] (.int .i64 ((k + xs.length : Nat) : Int)) := by
  refine Sp_intro (lend := false) Try.func26 rfl rfl rfl (fun h => nomatch h) (fun c hc hX => ?_)
  refine T_seq ?_
  refine T_region hc ?_
  refine Ch.step (v := (.d (.int .i64 0))) rfl (.pure (.assign _ rfl rfl)) rfl rfl ?_
  refine Ch.nil ?_
  refine T_seq ?_
  refine T_seq ?_
  refine T_region hc ?_
  refine Ch.step (v := (.d (.int .i64 0))) rfl (.pure (.assign _ rfl rfl)) rfl rfl ?_
  refine Ch.nil ?_
  refine T_block ?_
  refine T_loop (ι := Nat) (fun m => { n := 20, sl := [(0, (.row 1)), (1, (.d (.int .i64 ((k + m : Nat) : Int)))), (5, (.d (.int .i64 ((m : Nat) : Int))))], hp := [(1, (some (.row 1 ((marked xs k m).map D.str))))], pin := [1] }) (fun m => m ≤ xs.length) (fun m => xs.length - m) ⟨0, (by omega), (Wk.of rfl rfl (And.intro rfl (And.intro (vI (by first | rfl | omega | (simp; done) | (simp; omega))) (And.intro (vI (by first | rfl | omega | (simp; done) | (simp; omega))) trivial))) (And.intro (oR (by first | (rw [marked_zero]; done) | (rw [← marked_set xs k (by omega), List.map_set]; done))) trivial))⟩ (fun m hp0 => ?_)
  have hq := marked_length xs k m
  refine T_seq ?_
  refine T_seq ?_
  refine T_region hc ?_
  refine Ch.step (v := (.d (.int .i64 ((m : Nat) : Int)))) rfl (.pure (.move _ rfl rfl)) rfl rfl ?_
  refine Ch.step (v := (.row 1)) rfl (.pure (.move _ rfl rfl)) rfl rfl ?_
  refine Ch.step (v := (.d (.int .i64 (((marked xs k m).length : Nat) : Int)))) rfl (.pure (.len _ _ 9 rfl Try.underlying22 (.row rfl) (by simp))) rfl rfl ?_
  refine Ch.step (v := (.d (.bool (decide (((m : Nat) : Int) < (((marked xs k m).length : Nat) : Int)))))) rfl (.pure (.int _ _ _ _ _ rfl rfl rfl rfl)) rfl rfl ?_
  refine Ch.nil ?_
  refine T_cond (b := (decide (((m : Nat) : Int) < (((marked xs k m).length : Nat) : Int)))) rfl (fun h1 => ?_) (fun h1 => ?_)
  · replace h1 := of_decide_eq_true h1
    refine T_skip ?_
    refine T_seq ?_
    refine T_block ?_
    refine T_seq ?_
    refine T_region hc ?_
    refine Ch.step (v := (.row 1)) rfl (.pure (.move _ rfl rfl)) rfl rfl ?_
    refine Ch.step (v := (.d (.int .i64 ((m : Nat) : Int)))) rfl (.pure (.move _ rfl rfl)) rfl rfl ?_
    refine Ch.step (v := (.d (.int .i64 ((k + m : Nat) : Int)))) rfl (.pure (.move _ rfl rfl)) rfl rfl ?_
    refine Ch.step (v := (.d (.str (mtext (k + m))))) rfl (.call 15000 66 _ _ _ en66 rfl (.inl rfl) (.cons (.d _) .nil) rfl rfl (sp_laws_markText (k + m) (by first | omega | assumption | (exact hx _ (getD_mem (by omega))) | (exact hx _ (by assumption)) | (exact Nat.le_trans (hx _ (by assumption)) (by omega)) | (simp only [List.length_append, List.length_take, List.length_drop, List.length_cons, List.length_nil]; omega) | (simp_all; done))) (.skip _ _ .nil) rfl) rfl rfl ?_
    refine Ch.step (v := (.el 1 1 m 0)) rfl (.pure (.idxRow _ _ _ 9 (m) rfl Try.underlying22 sz9 rfl rfl rfl rfl (by first | omega | (simp; omega)))) rfl rfl ?_
    refine Ch.step (v := .junk) rfl (.storeEl (y' := (.str (mtext (k + m)))) _ _ _ rfl rfl rfl (.d _) rfl sz9 rfl (get_map _ (by first | omega | (simp only [List.length_map, List.length_append, List.length_take, List.length_drop, List.length_cons, List.length_nil]; omega) | (simp; omega) | (simp; done))) rfl rfl) rfl rfl ?_
    refine Ch.nil ?_
    refine T_region hc ?_
    refine Ch.step (v := (.d (.int .i64 ((k + m : Nat) : Int)))) rfl (.pure (.move _ rfl rfl)) rfl rfl ?_
    refine Ch.step (v := (.d (.int .i64 (((k + m : Nat) : Int) + 1)))) rfl (.pure (.int _ _ _ _ _ rfl rfl rfl (intV_add (by first | omega | (simp only [List.length_map, List.length_append, List.length_take, List.length_drop, List.length_cons, List.length_nil]; omega) | (simp; omega) | (simp; done)) (by first | omega | (simp only [List.length_map, List.length_append, List.length_take, List.length_drop, List.length_cons, List.length_nil]; omega) | (simp; omega) | (simp; done))))) rfl rfl ?_
    refine Ch.step (v := (.d (.int .i64 (((k + m : Nat) : Int) + 1)))) rfl (.pure (.assign _ rfl rfl)) rfl rfl ?_
    refine Ch.nil ?_
    refine T_region hc ?_
    refine Ch.step (v := (.d (.int .i64 ((m : Nat) : Int)))) rfl (.pure (.move _ rfl rfl)) rfl rfl ?_
    refine Ch.step (v := (.d (.int .i64 (((m : Nat) : Int) + 1)))) rfl (.pure (.int _ _ _ _ _ rfl rfl rfl (intV_add (by first | omega | (simp only [List.length_map, List.length_append, List.length_take, List.length_drop, List.length_cons, List.length_nil]; omega) | (simp; omega) | (simp; done)) (by first | omega | (simp only [List.length_map, List.length_append, List.length_take, List.length_drop, List.length_cons, List.length_nil]; omega) | (simp; omega) | (simp; done))))) rfl rfl ?_
    refine Ch.step (v := (.d (.int .i64 (((m : Nat) : Int) + 1)))) rfl (.pure (.assign _ rfl rfl)) rfl rfl ?_
    refine Ch.nil ?_
    refine Exists.intro (m + 1) (And.intro (by omega) (And.intro (by first | omega | (dsimp only; omega)) (Wk.of rfl rfl (And.intro rfl (And.intro (vI (by first | rfl | omega | (simp; done) | (simp; omega))) (And.intro (vI (by first | rfl | omega | (simp; done) | (simp; omega))) trivial))) (And.intro (oR (by first | (rw [marked_zero]; done) | (rw [← marked_set xs k (by omega), List.map_set]; done))) trivial))))
  · replace h1 := of_decide_eq_false h1
    refine T_exit ?_
    refine T_seq ?_
    refine T_region hc ?_
    refine Ch.step (v := (.d (.int .i64 ((k + m : Nat) : Int)))) rfl (.pure (.move _ rfl rfl)) rfl rfl ?_
    refine Ch.step (v := (.d (.int .i64 ((k + m : Nat) : Int)))) rfl (.pure (.assign _ rfl rfl)) rfl rfl ?_
    refine Ch.nil ?_
    refine T_ret ?_
    refine And.intro (.inr rfl) ?_
    exact Exists.intro [(.d (.int .i64 ((k + m : Nat) : Int)))] (Exists.intro [1] (Exists.intro [] (And.intro (.cons (.tmp 4 rfl) .nil) (And.intro (.cons (Exp.of (congrArg (D.slice true 1) (by rw [marked_all xs k (by omega)])) (.row rfl)) (.cons (.any _) .nil)) (And.intro (Exp.of (congrArg (D.int .i64) (by omega)) (.d _)) (And.intro rfl rfl))))))

theorem sp_laws_heldStringS (xs : List (List UInt8)) (k : Nat) (hn : xs.length ≤ 1048576) (hk : k ≤ 2097152) : Sp Try.prog 27 [(.slice false 1 (xs.map D.str)), (.int .i64 ((k : Nat) : Int))] [.any, .any] (.int .i64 (heldR xs k)) := by
  refine Sp_intro (lend := true) Try.func27 rfl rfl rfl (fun _ => rfl) (fun c hc hX => ?_)
  refine T_seq ?_
  refine T_region hc ?_
  refine Ch.step (v := (.d (.int .i64 0))) rfl (.pure (.assign _ rfl rfl)) rfl rfl ?_
  refine Ch.nil ?_
  refine T_seq ?_
  refine T_seq ?_
  refine T_region hc ?_
  refine Ch.step (v := (.d (.int .i64 0))) rfl (.pure (.assign _ rfl rfl)) rfl rfl ?_
  refine Ch.nil ?_
  refine T_block ?_
  refine T_loop (ι := Nat) (fun m => { n := 22, sl := [(0, (.d (.slice false 1 (xs.map D.str)))), (1, (.d (.int .i64 ((k + m : Nat) : Int)))), (5, (.d (.int .i64 ((m : Nat) : Int))))], hp := [], pin := [] }) (fun m => m ≤ xs.length ∧ ∀ j, j < m → decide (xs.getD j default = mtext (k + j)) = true) (fun m => xs.length - m) ⟨0, ⟨by omega, fun j hj => by omega⟩, (Wk.of rfl rfl (And.intro rfl (And.intro (vI (by first | rfl | omega | (simp; done) | (simp; omega))) (And.intro (vI (by first | rfl | omega | (simp; done) | (simp; omega))) trivial))) trivial)⟩ (fun m hp0 => ?_)
  refine T_seq ?_
  refine T_seq ?_
  refine T_region hc ?_
  refine Ch.step (v := (.d (.int .i64 ((m : Nat) : Int)))) rfl (.pure (.move _ rfl rfl)) rfl rfl ?_
  refine Ch.step (v := (.d (.slice false 1 (xs.map D.str)))) rfl (.pure (.move _ rfl rfl)) rfl rfl ?_
  refine Ch.step (v := (.d (.int .i64 ((xs.length : Nat) : Int)))) rfl (.pure (.len _ _ 9 rfl Try.underlying22 (.sh _ _) (by simp))) rfl rfl ?_
  refine Ch.step (v := (.d (.bool (decide (((m : Nat) : Int) < ((xs.length : Nat) : Int)))))) rfl (.pure (.int _ _ _ _ _ rfl rfl rfl rfl)) rfl rfl ?_
  refine Ch.nil ?_
  refine T_cond (b := (decide (((m : Nat) : Int) < ((xs.length : Nat) : Int)))) rfl (fun h1 => ?_) (fun h1 => ?_)
  · replace h1 := of_decide_eq_true h1
    refine T_skip ?_
    refine T_seq ?_
    refine T_block ?_
    refine T_seq ?_
    refine T_seq ?_
    refine T_regionD hc (by kernel_rfl) ?_
    refine ChD.step (v := (.d (.slice false 1 (xs.map D.str)))) [] rfl (.pure (.move _ rfl rfl)) rfl rfl ?_
    refine ChD.step (v := (.d (.int .i64 ((m : Nat) : Int)))) [] rfl (.pure (.move _ rfl rfl)) rfl rfl ?_
    refine ChD.step (v := (.d (.ref (.str (xs.getD m default))))) [] rfl (.pure (.idx _ _ _ 9 (m) rfl Try.underlying22 sz9 rfl rfl rfl (get_map _ (by first | omega | (simp only [List.length_map, List.length_append, List.length_take, List.length_drop, List.length_cons, List.length_nil]; omega) | (simp; omega) | (simp; done))))) rfl rfl ?_
    refine ChD.step (v := (.d (.str (xs.getD m default)))) [] rfl (.pure (.loadRef1 _ _ rfl ag9 rfl rfl)) rfl rfl ?_
    refine ChD.step (v := (.d (.int .i64 ((k + m : Nat) : Int)))) [] rfl (.pure (.move _ rfl rfl)) rfl rfl ?_
    refine ChD.step (v := (.d (.str (mtext (k + m))))) [] rfl (.call 17000 66 _ _ _ en66 rfl (.inl rfl) (.cons (.d _) .nil) rfl rfl (sp_laws_markText (k + m) (by first | omega | assumption | (exact hx _ (getD_mem (by omega))) | (exact hx _ (by assumption)) | (exact Nat.le_trans (hx _ (by assumption)) (by omega)) | (simp only [List.length_append, List.length_take, List.length_drop, List.length_cons, List.length_nil]; omega) | (simp_all; done))) (.skip _ _ .nil) rfl) rfl rfl ?_
    refine ChD.step (v := (.d (.bool (!(decide ((xs.getD m default) = (mtext (k + m)))))))) [] rfl (.pure (.str _ _ _ _ _ rfl rfl rfl rfl)) rfl rfl ?_
    refine ChD.nil (And.intro ?_ (by kernel_rfl))
    refine T_cond (b := (!(decide ((xs.getD m default) = (mtext (k + m)))))) rfl (fun h2 => ?_) (fun h2 => ?_)
    · replace h2 := nott h2
      replace h2 := of_decide_eq_false h2
      refine T_seq ?_
      refine T_region hc ?_
      refine Ch.step (v := (.d (.int .i64 (-1)))) rfl (.pure (.assign _ rfl rfl)) rfl rfl ?_
      refine Ch.nil ?_
      refine T_ret ?_
      refine And.intro (.inr rfl) ?_
      exact Exists.intro [(.d (.int .i64 (-1)))] (Exists.intro [] (Exists.intro [] (And.intro (.cons (.tmp 4 rfl) .nil) (And.intro (.cons (.any _) (.cons (.any _) .nil)) (And.intro (Exp.of (congrArg (D.int .i64) (by first | (rw [heldR, heldB, allB_no m (by omega) (by simp_all)]; rfl) | (rw [heldR, heldB, allB_of (fun j hj => hp0.2 j (by omega)), if_pos rfl]; omega))) (.d _)) (And.intro rfl rfl))))))
    · replace h2 := notf h2
      replace h2 := of_decide_eq_true h2
      refine T_skip ?_
      refine T_region hc ?_
      refine Ch.step (v := (.d (.int .i64 ((k + m : Nat) : Int)))) rfl (.pure (.move _ rfl rfl)) rfl rfl ?_
      refine Ch.step (v := (.d (.int .i64 (((k + m : Nat) : Int) + 1)))) rfl (.pure (.int _ _ _ _ _ rfl rfl rfl (intV_add (by first | omega | (simp only [List.length_map, List.length_append, List.length_take, List.length_drop, List.length_cons, List.length_nil]; omega) | (simp; omega) | (simp; done)) (by first | omega | (simp only [List.length_map, List.length_append, List.length_take, List.length_drop, List.length_cons, List.length_nil]; omega) | (simp; omega) | (simp; done))))) rfl rfl ?_
      refine Ch.step (v := (.d (.int .i64 (((k + m : Nat) : Int) + 1)))) rfl (.pure (.assign _ rfl rfl)) rfl rfl ?_
      refine Ch.nil ?_
      refine T_region hc ?_
      refine Ch.step (v := (.d (.int .i64 ((m : Nat) : Int)))) rfl (.pure (.move _ rfl rfl)) rfl rfl ?_
      refine Ch.step (v := (.d (.int .i64 (((m : Nat) : Int) + 1)))) rfl (.pure (.int _ _ _ _ _ rfl rfl rfl (intV_add (by first | omega | (simp only [List.length_map, List.length_append, List.length_take, List.length_drop, List.length_cons, List.length_nil]; omega) | (simp; omega) | (simp; done)) (by first | omega | (simp only [List.length_map, List.length_append, List.length_take, List.length_drop, List.length_cons, List.length_nil]; omega) | (simp; omega) | (simp; done))))) rfl rfl ?_
      refine Ch.step (v := (.d (.int .i64 (((m : Nat) : Int) + 1)))) rfl (.pure (.assign _ rfl rfl)) rfl rfl ?_
      refine Ch.nil ?_
      refine Exists.intro (m + 1) (And.intro ⟨by omega, upto_succ hp0.2 (by simp_all)⟩ (And.intro (by first | omega | (dsimp only; omega)) (Wk.of rfl rfl (And.intro rfl (And.intro (vI (by first | rfl | omega | (simp; done) | (simp; omega))) (And.intro (vI (by first | rfl | omega | (simp; done) | (simp; omega))) trivial))) trivial)))
  · replace h1 := of_decide_eq_false h1
    refine T_exit ?_
    refine T_seq ?_
    refine T_region hc ?_
    refine Ch.step (v := (.d (.int .i64 ((k + m : Nat) : Int)))) rfl (.pure (.move _ rfl rfl)) rfl rfl ?_
    refine Ch.step (v := (.d (.int .i64 ((k + m : Nat) : Int)))) rfl (.pure (.assign _ rfl rfl)) rfl rfl ?_
    refine Ch.nil ?_
    refine T_ret ?_
    refine And.intro (.inr rfl) ?_
    exact Exists.intro [(.d (.int .i64 ((k + m : Nat) : Int)))] (Exists.intro [] (Exists.intro [] (And.intro (.cons (.tmp 4 rfl) .nil) (And.intro (.cons (.any _) (.cons (.any _) .nil)) (And.intro (Exp.of (congrArg (D.int .i64) (by first | (rw [heldR, heldB, allB_no m (by omega) (by simp_all)]; rfl) | (rw [heldR, heldB, allB_of (fun j hj => hp0.2 j (by omega)), if_pos rfl]; omega))) (.d _)) (And.intro rfl rfl))))))

end Go.AM
