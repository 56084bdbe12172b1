/-
  Contracts: Supercube.
-/
import Derived.Test.YtfnomecncgejbaaCg
namespace Go.AM
open Go.Proofs
set_option linter.unusedVariables false
set_option linter.unusedSimpArgs false



def agreeAt (xs : List (List UInt8)) (i j : Nat) : Bool := (xs.getD j default).getD i 0 == (xs.getD 0 default).getD i 0
def supAt (xs : List (List UInt8)) (k i : Nat) : UInt8 := if allB k (agreeAt xs i) then (xs.getD 0 default).getD i 0 else 45
def supS (xs : List (List UInt8)) (m : Nat) : List UInt8 := tab m fun i => supAt xs xs.length i
theorem allB_succ (k : Nat) (p : Nat → Bool) : allB (k + 1) p = (allB k p && p k) := by simp [allB, List.range_succ]
theorem supAt_zero (xs : List (List UInt8)) (i : Nat) : supAt xs 0 i = (xs.getD 0 default).getD i 0 := rfl
theorem supAt_same {xs : List (List UInt8)} {k i : Nat} (h : supAt xs k i = (xs.getD k default).getD i 0) : supAt xs (k + 1) i = supAt xs k i := by
  unfold supAt at *
  rw [allB_succ]
  cases hk : allB k (agreeAt xs i) with
  | true =>
    rw [hk] at h
    have : agreeAt xs i k = true := by unfold agreeAt; rw [← h]; simp
    rw [this]; rfl
  | false => rfl
theorem supAt_diff {xs : List (List UInt8)} {k i : Nat} (h : ¬ supAt xs k i = (xs.getD k default).getD i 0) : supAt xs (k + 1) i = 45 := by
  unfold supAt at *
  rw [allB_succ]
  cases hk : allB k (agreeAt xs i) with
  | true =>
    rw [hk] at h
    have : agreeAt xs i k = false := by unfold agreeAt; simp only [beq_eq_false_iff_ne]; exact fun e => h e.symm
    rw [this]; rfl
  | false => rfl
def supMid (xs : List (List UInt8)) (k m : Nat) : List UInt8 := tab (xs.getD 0 default).length fun i => supAt xs (if i < m then k + 1 else k) i
theorem supMid_length (xs : List (List UInt8)) (k m : Nat) : (supMid xs k m).length = (xs.getD 0 default).length := by simp [supMid]
theorem supMid_get {xs : List (List UInt8)} {k m : Nat} (h : m < (xs.getD 0 default).length) : (supMid xs k m).getD m default = supAt xs k m := by
  rw [supMid, tab_getD _ _ _ _ h, if_neg (by omega)]
theorem supMid_step {xs : List (List UInt8)} {k m : Nat} (h : supAt xs k m = (xs.getD k default).getD m 0) : supMid xs k m = supMid xs k (m + 1) := by
  unfold supMid
  apply tab_congr
  intro j _
  by_cases e : j = m
  · subst e; rw [if_neg (by omega), if_pos (by omega), supAt_same h]
  · by_cases e2 : j < m
    · rw [if_pos e2, if_pos (by omega)]
    · rw [if_neg e2, if_neg (by omega)]
theorem supMid_set {xs : List (List UInt8)} {k m : Nat} (hm : m < (xs.getD 0 default).length) (h : ¬ supAt xs k m = (xs.getD k default).getD m 0) : (supMid xs k m).set m 45 = supMid xs k (m + 1) := by
  apply List.ext_getElem
  · simp [supMid]
  · intro j h1 h2
    simp [supMid] at h2
    rw [List.getElem_set]
    split
    · rename_i e; subst e
      have : (supMid xs k (m + 1))[m] = supAt xs (k + 1) m := by simp [supMid, tab]
      rw [this, supAt_diff h]
    · rename_i e
      by_cases e2 : j < m
      · simp [supMid, tab, e2, show j < m + 1 by omega]
      · simp [supMid, tab, e2, show ¬ j < m + 1 by omega]
theorem supMid_first (xs : List (List UInt8)) : supMid xs 0 0 = xs.getD 0 default := by
  rw [supMid, tab_eq 0 rfl]; intro j _; rw [if_neg (by omega), supAt_zero]
theorem supMid_next {xs : List (List UInt8)} {k m : Nat} (h : (xs.getD 0 default).length ≤ m) : supMid xs k m = supMid xs (k + 1) 0 := by
  unfold supMid
  apply tab_congr
  intro j hj
  rw [if_pos (by omega), if_neg (by omega)]
theorem supS_length (xs : List (List UInt8)) (k : Nat) : (supS xs k).length = k := by simp [supS]
theorem supMid_last (xs : List (List UInt8)) : supMid xs xs.length 0 = supS xs (xs.getD 0 default).length := by
  unfold supMid supS
  apply tab_congr
  intro j _
  rw [if_neg (by omega)]





def len0 (xs : List (List UInt8)) : Int := ((xs.getD 0 default).length : Int)
def supOk (xs : List (List UInt8)) : Bool := withinB xs.length 1 300 && (withinB (len0 xs) 1 8 && allOf xs (fun u => codeN u (len0 xs)))
def supR (xs : List (List UInt8)) : List UInt8 := if supOk xs then supS xs (xs.getD 0 default).length else []
theorem supOk_len {xs : List (List UInt8)} (h : allOf xs (fun u => codeN u (len0 xs)) = true) : ∀ x ∈ xs, x.length = (xs.getD 0 default).length := by
  intro x hx
  obtain ⟨j, hj, rfl⟩ := List.mem_iff_getElem.1 hx
  have h1 := allB_true.1 h j hj
  have e : xs.getD j default = xs[j] := by simp [hj]
  rw [e] at h1
  unfold codeN len0 at h1
  simp only [Bool.and_eq_true, decide_eq_true_iff] at h1
  omega
theorem sup_impl (xs : List (List UInt8)) : supOk xs = (withinB xs.length 1 300 && !(xs.any fun u => !isCodeB u (len0 xs))) := by
  unfold supOk
  rw [any_not, Bool.not_not]
  cases hw : withinB xs.length 1 300 with
  | false => rfl
  | true =>
    have h0 : 0 < xs.length := by simp [withinB] at hw; omega
    cases hv : withinB (len0 xs) 1 8 with
    | true =>
      have : (fun u => isCodeB u (len0 xs)) = fun u => codeN u (len0 xs) := by funext u; rw [code_eq, hv, Bool.and_true]
      rw [this]; rfl
    | false =>
      have : allOf xs (fun u => isCodeB u (len0 xs)) = false := allB_no 0 h0 (by show isCodeB _ _ = false; rw [code_eq, hv, Bool.and_false])
      rw [this]; rfl
theorem within_pos {n : Nat} (h : withinB n 1 300 = true) : 0 < n := by simp [withinB] at h; omega









end Go.AM
