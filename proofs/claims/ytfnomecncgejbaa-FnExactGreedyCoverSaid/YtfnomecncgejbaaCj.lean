/-
  Contracts: Cofactor.
-/
import Derived.Test.YtfnomecncgejbaaCi
namespace Go.AM
open Go.Proofs
set_option linter.unusedVariables false
set_option linter.unusedSimpArgs false





theorem sp_spec_l5Set (u : List UInt8) (sig : Int) (v : List UInt8) (hu : u.length ≤ 1048576) (hv : v.length ≤ 1048576) (h0 : 0 ≤ sig) (h1s : sig + 1 ≤ u.length) : Sp Try.prog 169 [(.str u), (.int .i64 sig), (.str v)] [.any, .any, .any] (.str (u.take sig.toNat ++ v ++ u.drop (sig + 1).toNat)) := by
  refine Sp_intro (lend := true) Try.func169 rfl rfl rfl (fun _ => rfl) (fun c hc hX => ?_)
  refine T_seq ?_
  refine T_region hc ?_
  refine Ch.step (v := (.d (.str []))) rfl (.pure (.assign _ rfl rfl)) rfl rfl ?_
  refine Ch.nil ?_
  refine T_seq ?_
  refine T_regionD hc (by kernel_rfl) ?_
  refine ChD.step (v := (.d (.str u))) [] rfl (.pure (.move _ rfl rfl)) rfl rfl ?_
  refine ChD.step (v := (.d (.int .i64 sig))) [] rfl (.pure (.move _ rfl rfl)) rfl rfl ?_
  refine ChD.step (v := (.d (.str (u.take ((sig).toNat))))) [] rfl (.pure (.sliceStr _ _ _ _ (0) ((sig).toNat) rfl Try.underlying9 rfl (bndN rfl) (bndS rfl (by omega)) (by first | omega | (simp only [List.length_map, List.length_append, List.length_take, List.length_drop, List.length_cons, List.length_nil]; omega) | (simp; omega) | (simp; done)) (by first | omega | (simp only [List.length_map, List.length_append, List.length_take, List.length_drop, List.length_cons, List.length_nil]; omega) | (simp; omega) | (simp; done)) (by simp))) rfl rfl ?_
  refine ChD.step (v := (.d (.str v))) [] rfl (.pure (.move _ rfl rfl)) rfl rfl ?_
  refine ChD.step (v := (.d (.str ((u.take ((sig).toNat)) ++ v)))) [] rfl (.pure (.str _ _ _ _ _ rfl rfl rfl (strV_add (by first | omega | (simp only [List.length_map, List.length_append, List.length_take, List.length_drop, List.length_cons, List.length_nil]; omega) | (simp; omega) | (simp; done))))) rfl rfl ?_
  refine ChD.step (v := (.d (.str u))) [] rfl (.pure (.move _ rfl rfl)) rfl rfl ?_
  refine ChD.step (v := (.d (.int .i64 sig))) [] rfl (.pure (.move _ rfl rfl)) rfl rfl ?_
  refine ChD.step (v := (.d (.int .i64 (sig + 1)))) [] rfl (.pure (.int _ _ _ _ _ rfl rfl rfl (intV_add (by first | omega | (simp only [List.length_map, List.length_append, List.length_take, List.length_drop, List.length_cons, List.length_nil]; omega) | (simp; omega) | (simp; done)) (by first | omega | (simp only [List.length_map, List.length_append, List.length_take, List.length_drop, List.length_cons, List.length_nil]; omega) | (simp; omega) | (simp; done))))) rfl rfl ?_
  refine ChD.step (v := (.d (.str (u.drop (((sig + 1)).toNat))))) [] rfl (.pure (.sliceStr _ _ _ _ (((sig + 1)).toNat) (u.length) rfl Try.underlying9 rfl (bndS rfl (by omega)) (bndN rfl) (by first | omega | (simp only [List.length_map, List.length_append, List.length_take, List.length_drop, List.length_cons, List.length_nil]; omega) | (simp; omega) | (simp; done)) (by first | omega | (simp only [List.length_map, List.length_append, List.length_take, List.length_drop, List.length_cons, List.length_nil]; omega) | (simp; omega) | (simp; done)) (by simp))) rfl rfl ?_
  refine ChD.step (v := (.d (.str (((u.take ((sig).toNat)) ++ v) ++ (u.drop (((sig + 1)).toNat)))))) [] rfl (.pure (.str _ _ _ _ _ rfl rfl rfl (strV_add (by first | omega | (simp only [List.length_map, List.length_append, List.length_take, List.length_drop, List.length_cons, List.length_nil]; omega) | (simp; omega) | (simp; done))))) rfl rfl ?_
  refine ChD.step (v := (.d (.str (((u.take ((sig).toNat)) ++ v) ++ (u.drop (((sig + 1)).toNat)))))) [] rfl (.pure (.assign _ rfl rfl)) rfl rfl ?_
  refine ChD.nil (And.intro ?_ (by kernel_rfl))
  refine T_ret ?_
  refine And.intro (.inr rfl) ?_
  exact Exists.intro [(.d (.str (((u.take ((sig).toNat)) ++ v) ++ (u.drop (((sig + 1)).toNat)))))] (Exists.intro [] (Exists.intro [] (And.intro (.cons (.tmp 6 rfl) .nil) (And.intro (.cons (.any _) (.cons (.any _) (.cons (.any _) .nil))) (And.intro (Exp.of (congrArg D.str (by rfl)) (.d _)) (And.intro rfl rfl))))))

def cofP (xs : List (List UInt8)) (sig : Int) (up : Bool) (j : Nat) : Bool := (xs.getD j default).getD sig.toNat 0 != bitN (!up)
def cofF (xs : List (List UInt8)) (sig : Int) (j : Nat) : List UInt8 := (xs.getD j default).take sig.toNat ++ [45] ++ (xs.getD j default).drop (sig + 1).toNat
def cofTo (xs : List (List UInt8)) (sig : Int) (up : Bool) (k : Nat) : List (List UInt8) := selTo k (cofP xs sig up) (cofF xs sig)
def cofOk (xs : List (List UInt8)) (sig : Int) : Bool := !decide ((xs.length : Int) = 0) && (goodB ((xs.getD 0 default).length : Int) xs && withinB sig 0 ((xs.getD 0 default).length - 1 : Int))
def cofR (xs : List (List UInt8)) (sig : Int) (up : Bool) : List (List UInt8) := if cofOk xs sig then cofTo xs sig up xs.length else []
theorem cofTo_le (xs : List (List UInt8)) (sig : Int) (up : Bool) (k : Nat) : (cofTo xs sig up k).length ≤ k := selTo_le _ _ _
theorem cofR_le (xs : List (List UInt8)) (sig : Int) (up : Bool) : (cofR xs sig up).length ≤ xs.length := by
  unfold cofR; split
  · exact cofTo_le _ _ _ _
  · simp
theorem within_two {n lo hi : Int} (h : withinB n lo hi = true) : lo ≤ n ∧ n ≤ hi := by simpa [withinB] using h







end Go.AM
