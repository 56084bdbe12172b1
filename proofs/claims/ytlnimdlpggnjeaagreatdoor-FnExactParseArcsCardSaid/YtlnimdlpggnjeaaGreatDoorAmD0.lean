/-
  The abstract machine, part D0: parts of slices.
-/
import Derived.Test.YtlnimdlpggnjeaaGreatDoorAmC
namespace Go.AM
section
variable {S : Nat → Prop} {w : World}
theorem add_block (b off j : Nat) : (⟨b, off, none⟩ : Addr).add j = ⟨b, off + j, none⟩ := by
  unfold Addr.add
  split
  · rename_i h0; subst h0; rfl
  · rfl

theorem DRs_take_drop : ∀ {ds : List D} {vs}, DRs S w ds vs [] → ∀ (l n : Nat), DRs S w ((ds.drop l).take n) ((vs.drop l).take n) []
  | [], vs, hh, l, n => by rw [DRs] at hh; obtain ⟨rfl, _⟩ := hh; simp [DRs]
  | d :: ds, vs, hh, l, n => by
    have hh0 := hh
    rw [DRs] at hh
    obtain ⟨v, vs', F1, F2, rfl, hF, h1, h2⟩ := hh
    obtain ⟨rfl, rfl⟩ : F1 = [] ∧ F2 = [] := by simpa using hF.symm
    cases l with
    | zero =>
      cases n with
      | zero => simp [DRs]
      | succ n =>
        have := DRs_take_drop h2 0 n
        simp only [List.drop_zero, List.take_succ_cons] at this ⊢
        rw [DRs]
        exact ⟨v, _, [], [], rfl, rfl, h1, this⟩
    | succ l => simpa using DRs_take_drop h2 l n

theorem flat_len {sz : Nat} : ∀ {us : List Value}, (∀ y ∈ us, y.cells.size = sz) → (flat us).length = us.length * sz
  | [], _ => by simp [flat]
  | u :: us, hu => by
    rw [show flat (u :: us) = u.cells.toList ++ flat us from rfl, List.length_append, flat_len (fun y hy => hu y (by simp [hy]))]
    have := hu u (by simp)
    simp [this, Nat.succ_mul, Nat.add_comm]

theorem cells_sub {sz b off l r : Nat} {vs : List Value} (hs : ∀ y ∈ vs, y.cells.size = sz) (h1 : l ≤ r) (h2 : r ≤ vs.length) (hc : CellsAt w b off (flat vs)) : CellsAt w b (off + l * sz) (flat ((vs.take r).drop l)) := by
  intro j v hj
  have he : flat vs = flat (vs.take l) ++ flat (vs.drop l) := by
    rw [flat, flat, flat, ← List.flatMap_append, List.take_append_drop]
  have hlen : (flat (vs.take l)).length = l * sz := by
    rw [flat_len (fun y hy => hs y (List.mem_of_mem_take hy)), List.length_take, Nat.min_eq_left (by omega)]
  have he2 : vs.drop l = (vs.take r).drop l ++ vs.drop r := by
    rw [List.drop_take]
    have : vs.drop r = (vs.drop l).drop (r - l) := by rw [List.drop_drop]; congr 1; omega
    rw [this, List.take_append_drop]
  have hj2 : (flat (vs.drop l))[j]? = some v := by
    rw [he2, flat, List.flatMap_append]
    rw [List.getElem?_append_left (by exact (List.getElem?_eq_some_iff.1 hj).1)]
    exact hj
  have := hc (l * sz + j) v (by rw [he, List.getElem?_append_right (by omega), hlen]; rw [show l * sz + j - l * sz = j by omega]; exact hj2)
  rw [← this]; congr 2; omega

theorem DR_sub {sz l r n c : Nat} {xs : List D} {ad : Option Addr} (h : DR S w (.slice false sz xs) (.slice ad n c) []) (h1 : l ≤ r) (h2 : r ≤ xs.length) :
    DR S w (.slice false sz ((xs.take r).drop l)) (.slice (if c = l then ad else ad.map (·.add (l * sz))) (r - l) (c - l)) [] := by
  rw [DR] at h
  obtain ⟨_, a, c', g1, g2, g3⟩ := h
  obtain ⟨rfl, rfl, rfl⟩ : ad = a ∧ n = xs.length ∧ c = c' := by simpa using g1
  have hl' : ((xs.take r).drop l).length = r - l := by simp; omega
  rw [DR]
  refine ⟨rfl, _, c - l, by rw [hl'], by omega, ?_⟩
  rcases g3 with rfl | ⟨b, off, vs, rfl, k1, k2, k3, k4, k5, k6⟩
  · exact .inl (by simp)
  · by_cases hc : c = l
    · exact .inl (List.eq_nil_of_length_eq_zero (by omega))
    · refine .inr ⟨b, off + l * sz, (vs.take r).drop l, by simp [hc, add_block], k1, ?_, fun y hy => k3 y (List.mem_of_mem_take (List.mem_of_mem_drop hy)), cells_sub k3 h1 (by rw [DRs_length k2]; exact h2) k4, k5, fun y hy => k6 y (List.mem_of_mem_take (List.mem_of_mem_drop hy))⟩
      have := DRs_take_drop k2 l (r - l)
      rwa [← List.drop_take, ← List.drop_take] at this

end
end Go.AM
