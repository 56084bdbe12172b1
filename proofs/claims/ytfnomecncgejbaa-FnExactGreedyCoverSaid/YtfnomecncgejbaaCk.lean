/-
  Contracts: Support; lists of integers of the laws.
-/
import Derived.Test.YtfnomecncgejbaaCj
namespace Go.AM
open Go.Proofs
set_option linter.unusedVariables false
set_option linter.unusedSimpArgs false



def imarks (k n : Nat) : List Int := tab n fun j => ((k + j : Nat) : Int)
def imarked (xs : List Int) (k m : Nat) : List Int := tab xs.length fun j => if j < m then ((k + j : Nat) : Int) else xs.getD j default
theorem imarked_length (xs : List Int) (k m : Nat) : (imarked xs k m).length = xs.length := by simp [imarked]
theorem imarks_length (k n : Nat) : (imarks k n).length = n := by simp [imarks]
theorem imarked_zero (xs : List Int) (k : Nat) : imarked xs k 0 = xs := by
  rw [imarked, tab_eq default rfl]; intro j _; rw [if_neg (by omega)]
theorem imarked_all (xs : List Int) (k : Nat) {m : Nat} (hle : xs.length ≤ m) : imarked xs k m = imarks k xs.length := by
  unfold imarked imarks
  apply tab_congr
  intro j hj; rw [if_pos (by omega)]
theorem imarked_set (xs : List Int) (k : Nat) {m : Nat} : (imarked xs k m).set m ((k + m : Nat) : Int) = imarked xs k (m + 1) := by
  apply List.ext_getElem
  · simp [imarked]
  · intro j h1 h2
    rw [List.getElem_set]
    split
    · rename_i e; subst e; simp [imarked, tab]
    · rename_i e
      by_cases e2 : j < m
      · simp [imarked, tab, e2, show j < m + 1 by omega]
      · simp [imarked, tab, e2, show ¬ j < m + 1 by omega]
def iheldB (xs : List Int) (k : Nat) : Bool := allB xs.length fun j => decide (xs.getD j default = ((k + j : Nat) : Int))
def iheldR (xs : List Int) (k : Nat) : Int := if iheldB xs k then ((k + xs.length : Nat) : Int) else -1
theorem iheld_marks (k n : Nat) : iheldR (imarks k n) k = ((k + n : Nat) : Int) := by
  have : iheldB (imarks k n) k = true := allB_of fun j hj => by
    rw [imarks_length] at hj
    rw [imarks, tab_getD _ _ _ _ hj]; simp
  rw [iheldR, if_pos this, imarks_length]







def supP (xs : List (List UInt8)) (i : Nat) : Bool := xs.any fun u => u.getD i 0 != 45
def suppTo (xs : List (List UInt8)) (n : Nat) : List Int := selTo n (supP xs) (fun i => (i : Int))
def suppOk (xs : List (List UInt8)) : Bool := !decide ((xs.length : Int) = 0) && goodB ((xs.getD 0 default).length : Int) xs
def suppR (xs : List (List UInt8)) : List Int := if suppOk xs then suppTo xs (xs.getD 0 default).length else []
theorem suppTo_le (xs : List (List UInt8)) (n : Nat) : (suppTo xs n).length ≤ n := selTo_le _ _ _
theorem good_mem {n : Int} {xs : List (List UInt8)} (h : goodB n xs = true) (h0 : 0 < xs.length) : n ≤ 8 := by
  unfold goodB at h
  simp only [Bool.and_eq_true] at h
  have := within_two h.2.1
  exact this.2
theorem suppR_le (xs : List (List UInt8)) : (suppR xs).length ≤ 8 := by
  unfold suppR; split
  · rename_i h
    unfold suppOk at h
    simp only [Bool.and_eq_true, Bool.not_eq_true', decide_eq_false_iff_not] at h
    have h1 := suppTo_le xs (xs.getD 0 default).length
    have h2 := good_mem h.2 (by omega)
    omega
  · simp









end Go.AM
