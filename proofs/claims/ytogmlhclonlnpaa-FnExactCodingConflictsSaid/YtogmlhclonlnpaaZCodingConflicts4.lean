/-
  The contracts that the law FnExactCodingConflicts needs.
-/
import Derived.Test.YtogmlhclonlnpaaZCodingConflicts3
namespace Go.AM
open Go.Proofs
set_option linter.unusedVariables false
set_option linter.unusedSimpArgs false

theorem sp_spec_CodingConflicts (x : Sgr) (hb : x.bulk ≤ 1048576) : Sp Try.prog 9 [(.agg [(.slice false 2 (x.sigs.map Sgn.d)), (.slice false 1 (x.codes.map D.str)), (.slice false 4 (x.arcs.map Arc.d))])] [.any] (.tup [(.slice true 1 ((ccV x).map intsU)), (.bool (sgB x))]) := by
  refine Sp_intro (lend := true) Try.func9 rfl rfl rfl (fun _ => rfl) (fun c hc hX => ?_)
  obtain ⟨hp0, hp1, hp2⟩ := Sgr.parts hb
  have hn0 := bulkF_len hp0
  have hn1 := bulk_len hp1
  have hx1 := bulk_mem hp1
  have hn2 := bulkF_len hp2
  refine T_seq ?_
  refine T_region hc ?_
  refine Ch.step (v := (.ptr 1000 0)) rfl (.box 1000 _ _ rfl (.aggD _)) rfl rfl ?_
  refine Ch.step (v := (.c (.slice none 0 0))) rfl (.pure (.assign _ rfl rfl)) rfl rfl ?_
  refine Ch.step (v := (.d (.bool false))) rfl (.pure (.assign _ rfl rfl)) rfl rfl ?_
  refine Ch.nil ?_
  refine T_seq ?_
  refine T_seq ?_
  refine T_region hc ?_
  refine Ch.step (v := (.agg [(.d (.slice false 2 (x.sigs.map Sgn.d))), (.d (.slice false 1 (x.codes.map D.str))), (.d (.slice false 4 (x.arcs.map Arc.d)))])) rfl (.pure (.loadPtrA _ _ rfl ag34 sz34 rfl rfl (Nat.le_of_ble_eq_true rfl) rfl)) rfl rfl ?_
  refine Ch.step (v := (.d (.bool (sgB x)))) rfl (.call 5000 36 _ _ _ en36 rfl (.inl rfl) (.cons (.lend (.agg (.cons (.d _) (.cons (.d _) (.cons (.d _) .nil))) rfl)) .nil) rfl rfl (sp_spec_l5Good x (by first | assumption | omega | (rw [List.length_take]; omega) | (have := bulkF_mem hb _ (getD_mem (d := default) (by omega)); assumption) | (unfold bulkS at *; omega) | (simp_all; done))) (.skip _ _ .nil) rfl) rfl rfl ?_
  refine Ch.step (v := (.d (.bool (!(sgB x))))) rfl (.pure (.not _ _ rfl rfl)) rfl rfl ?_
  refine Ch.nil ?_
  refine T_cond (b := (!(sgB x))) rfl (fun h1 => ?_) (fun h1 => ?_)
  · replace h1 := nott h1
    try have hx := sg_has h1
    try have hx8 := hx.eight
    try have hxf := hx.few
    try have hxl := hx.len
    refine T_seq ?_
    refine T_region hc ?_
    refine Ch.step (v := (.c (.slice none 0 0))) rfl (.pure (.assign _ rfl rfl)) rfl rfl ?_
    refine Ch.step (v := (.d (.bool false))) rfl (.pure (.assign _ rfl rfl)) rfl rfl ?_
    refine Ch.nil ?_
    refine T_ret ?_
    refine And.intro (.inr rfl) ?_
    exact Exists.intro [(.c (.slice none 0 0)), (.d (.bool false))] (Exists.intro [] (Exists.intro [] (And.intro (.cons (.tmp 2 rfl) (.cons (.tmp 3 rfl) .nil)) (And.intro (.cons (.any _) .nil) (And.intro (.tup (.cons (Exp.of (congrArg (D.slice true 1) (by first | rfl | (rw [ccV, h1]; rfl) | (rw [h1]; done))) (.nil true 1)) (.cons (Exp.of (congrArg D.bool (by first | rfl | (rw [ccV, h1]; rfl) | (rw [h1]; done))) (.d _)) .nil))) (And.intro rfl rfl))))))
  · replace h1 := notf h1
    try have hx := sg_has h1
    try have hx8 := hx.eight
    try have hxf := hx.few
    try have hxl := hx.len
    refine T_skip ?_
    refine T_seq ?_
    refine T_region hc ?_
    refine Ch.step (v := (.agg [(.d (.slice false 2 (x.sigs.map Sgn.d))), (.d (.slice false 1 (x.codes.map D.str))), (.d (.slice false 4 (x.arcs.map Arc.d)))])) rfl (.pure (.loadPtrA _ _ rfl ag34 sz34 rfl rfl (Nat.le_of_ble_eq_true rfl) rfl)) rfl rfl ?_
    refine Ch.step (v := (.row 8000)) rfl (.call 8000 37 _ _ _ en37 rfl (.inl rfl) (.cons (.lend (.agg (.cons (.d _) (.cons (.d _) (.cons (.d _) .nil))) rfl)) .nil) rfl (sol (solid_row intsU_sol _) rfl) (sp_spec_l12Clashes x (by first | assumption | omega | (rw [List.length_take]; omega) | (have := bulkF_mem hb _ (getD_mem (d := default) (by omega)); assumption) | (unfold bulkS at *; omega) | (simp_all; done)) (by assumption)) (.skip _ _ .nil) rfl) rfl rfl ?_
    refine Ch.step (v := (.row 8000)) rfl (.pure (.assign _ rfl rfl)) rfl rfl ?_
    refine Ch.step (v := (.d (.bool true))) rfl (.pure (.assign _ rfl rfl)) rfl rfl ?_
    refine Ch.nil ?_
    refine T_ret ?_
    refine And.intro (.inr rfl) ?_
    exact Exists.intro [(.row 8000), (.d (.bool true))] (Exists.intro [] (Exists.intro [8000] (And.intro (.cons (.tmp 2 rfl) (.cons (.tmp 3 rfl) .nil)) (And.intro (.cons (.any _) .nil) (And.intro (.tup (.cons (Exp.of (congrArg (D.slice true 1) (by first | rfl | (rw [ccV, h1]; rfl) | (rw [h1]; done))) (.row rfl)) (.cons (Exp.of (congrArg D.bool (by first | rfl | (rw [ccV, h1]; rfl) | (rw [h1]; done))) (.d _)) .nil))) (And.intro rfl rfl))))))

def lenTo (xs : List (List Int)) (m : Nat) : Nat := ((xs.take m).map List.length).sum

theorem lenTo_succ {xs : List (List Int)} {m : Nat} (h : m < xs.length) : lenTo xs (m + 1) = lenTo xs m + (xs.getD m default).length := by
  have hg : xs.getD m default = xs[m] := by simp [h]
  unfold lenTo
  rw [List.take_succ_eq_append_getElem h, List.map_append, List.sum_append, hg]
  simp

theorem lenTo_all {xs : List (List Int)} {m : Nat} (h : xs.length ≤ m) : lenTo xs m = lenTo xs xs.length := by
  unfold lenTo
  rw [List.take_of_length_le h, List.take_of_length_le (Nat.le_refl _)]

theorem lenTo_le (xs : List (List Int)) (m : Nat) : lenTo xs m ≤ lenTo xs xs.length := by
  have := sumF_le List.length xs m
  unfold sumF at this
  unfold lenTo
  rw [List.take_of_length_le (Nat.le_refl _)]; exact this

theorem lenTo_two {xs : List (List Int)} (h : ∀ x ∈ xs, x.length = 2) (m : Nat) (hm : m ≤ xs.length) : lenTo xs m = 2 * m := by
  induction m with
  | zero => rfl
  | succ m ih =>
    rw [lenTo_succ (by omega), ih (by omega), h _ (getD_mem (by omega))]; omega

def msTo (xs : List (List Int)) (k : Nat) : Nat → List (List Int)
  | 0 => xs
  | m + 1 => (msTo xs k m).set m (imarks (k + lenTo xs m) (xs.getD m default).length)

theorem msTo_len (xs : List (List Int)) (k : Nat) : ∀ m, (msTo xs k m).length = xs.length
  | 0 => rfl
  | m + 1 => by rw [msTo, List.length_set, msTo_len xs k m]

theorem msTo_get {xs : List (List Int)} {k j : Nat} : ∀ m, m ≤ xs.length → (msTo xs k m).getD j default = if j < m then imarks (k + lenTo xs j) (xs.getD j default).length else xs.getD j default
  | 0, _ => by rw [if_neg (by omega)]; rfl
  | m + 1, hm => by
    rw [msTo, getD_set, msTo_len]
    by_cases h : m = j
    · subst h
      rw [if_pos ⟨rfl, by omega⟩, if_pos (by omega)]
    · rw [if_neg (fun q => h q.1), msTo_get m (by omega)]
      by_cases h2 : j < m
      · rw [if_pos h2, if_pos (by omega)]
      · rw [if_neg h2, if_neg (by omega)]

def mss (k : Nat) (xs : List (List Int)) : List (List Int) := msTo xs k xs.length

theorem mss_len (k : Nat) (xs : List (List Int)) : (mss k xs).length = xs.length := msTo_len _ _ _

def hssB (xs : List (List Int)) (k : Nat) : Bool := allB xs.length fun j => iheldB (xs.getD j default) (k + lenTo xs j)

def hssR (xs : List (List Int)) (k : Nat) : Int := if hssB xs k then ((k + lenTo xs xs.length : Nat) : Int) else -1

theorem mss_lens {xs : List (List Int)} {k : Nat} : ∀ m, m ≤ xs.length → lenTo (mss k xs) m = lenTo xs m
  | 0, _ => rfl
  | m + 1, hm => by
    rw [lenTo_succ (by rw [mss_len]; omega), lenTo_succ (by omega), mss_lens m (by omega)]
    unfold mss
    rw [msTo_get _ (Nat.le_refl _), if_pos (by omega), imarks_length]

theorem iheldB_marks (k n : Nat) : iheldB (imarks k n) k = true := allB_of fun j hj => by
  rw [imarks_length] at hj
  rw [imarks, tab_getD _ _ _ _ hj]; simp

theorem hss_marks (k : Nat) (xs : List (List Int)) : hssR (mss k xs) k = ((k + lenTo xs xs.length : Nat) : Int) := by
  have h : hssB (mss k xs) k = true := allB_of fun j hj => by
    rw [mss_len] at hj
    rw [mss_lens j (by omega)]
    unfold mss
    rw [msTo_get _ (Nat.le_refl _), if_pos hj]
    exact iheldB_marks _ _
  rw [hssR, if_pos h, mss_len, mss_lens _ (Nat.le_refl _)]

theorem iheld_yes {xs : List Int} {k : Nat} (h : ¬ iheldR xs k < 0) : iheldB xs k = true ∧ iheldR xs k = ((k + xs.length : Nat) : Int) := by
  unfold iheldR at h ⊢
  split
  · rename_i hb; exact ⟨hb, rfl⟩
  · rename_i hb; rw [if_neg hb] at h; omega

theorem iheld_no {xs : List Int} {k : Nat} (h : iheldR xs k < 0) : iheldB xs k = false := by
  unfold iheldR at h
  split at h
  · omega
  · rename_i hb; simpa using hb

theorem ms_set {xs : List (List Int)} {k m : Nat} (hm : m < xs.length) {d : D} : (((msTo xs k m).map intsU).set m d).set m (.slice true 1 ((imarks (k + lenTo xs m) (xs.getD m default).length).map fun n => D.int .i64 n)) = (msTo xs k (m + 1)).map intsU := by
  rw [List.set_set, msTo, List.map_set]; rfl

theorem mss_total (k : Nat) (xs : List (List Int)) : lenTo (mss k xs) (mss k xs).length = lenTo xs xs.length := by
  rw [mss_len]; exact mss_lens _ (Nat.le_refl _)

theorem sp_laws_markIntSS (xs : List (List Int)) (k : Nat) (hn : xs.length ≤ 1048576) (hs : lenTo xs xs.length ≤ 1048576) (hk : k ≤ 1) : Sp Try.prog 15 [(.slice true 1 (xs.map intsU)), (.int .i64 ((k : Nat) : Int))] [(.slice true 1 ((mss k xs).map intsU)), .any] (.int .i64 ((k + lenTo xs xs.length : Nat) : Int)) := by
  refine Sp_intro (lend := false) Try.func15 rfl rfl rfl (fun h => nomatch h) (fun c hc hX => ?_)
  refine T_seq ?_
  refine T_region hc ?_
  refine Ch.step (v := (.d (.int .i64 0))) rfl (.pure (.assign _ rfl rfl)) rfl rfl ?_
  refine Ch.nil ?_
  refine T_seq ?_
  refine T_seq ?_
  refine T_region hc ?_
  refine Ch.step (v := (.d (.int .i64 0))) rfl (.pure (.assign _ rfl rfl)) rfl rfl ?_
  refine Ch.nil ?_
  refine T_block ?_
  refine T_loop (ι := Nat) (fun m => { n := 19, sl := [(0, (.row 1)), (1, (.d (.int .i64 ((k + lenTo xs m : Nat) : Int)))), (5, (.d (.int .i64 ((m : Nat) : Int))))], hp := [(1, (some (.row 1 ((msTo xs k m).map intsU))))], pin := [1] }) (fun m => m ≤ xs.length) (fun m => xs.length - m) ⟨0, (by omega), (Wk.of rfl rfl (And.intro rfl (And.intro (vI (by first | rfl | (rw [lenTo_succ (by omega)]; omega))) (And.intro (vI (by first | rfl | omega | (simp; done) | (simp; omega))) trivial))) (And.intro (oR (by first | rfl | (exact ms_set (by omega)) | (rw [hmg]; exact ms_set (by omega)))) trivial))⟩ (fun m hp0 => ?_)
  have hml := msTo_len xs k m; have hlm := lenTo_le xs m; have hlm1 := lenTo_le xs (m + 1); have hmg := msTo_get (k := k) (j := m) m hp0
  refine T_seq ?_
  refine T_seq ?_
  refine T_region hc ?_
  refine Ch.step (v := (.d (.int .i64 ((m : Nat) : Int)))) rfl (.pure (.move _ rfl rfl)) rfl rfl ?_
  refine Ch.step (v := (.row 1)) rfl (.pure (.move _ rfl rfl)) rfl rfl ?_
  refine Ch.step (v := (.d (.int .i64 (((msTo xs k m).length : Nat) : Int)))) rfl (.pure (.len _ _ 43 rfl Try.underlying28 (.row rfl) (by simp))) rfl rfl ?_
  refine Ch.step (v := (.d (.bool (decide (((m : Nat) : Int) < (((msTo xs k m).length : Nat) : Int)))))) rfl (.pure (.int _ _ _ _ _ rfl rfl rfl rfl)) rfl rfl ?_
  refine Ch.nil ?_
  refine T_cond (b := (decide (((m : Nat) : Int) < (((msTo xs k m).length : Nat) : Int)))) rfl (fun h1 => ?_) (fun h1 => ?_)
  · replace h1 := of_decide_eq_true h1
    try rw [if_neg (Nat.lt_irrefl m)] at hmg
    try have hls := lenTo_succ (xs := xs) (m := m) (by omega)
    try have hgl := congrArg List.length hmg
    refine T_skip ?_
    refine T_seq ?_
    refine T_block ?_
    refine T_take 1 m 7000002 7000003 rfl (get_map _ (by first | omega | (simp only [List.length_map, List.length_append, List.length_take, List.length_drop, List.length_cons, List.length_nil]; omega) | (simp; omega) | (simp; done))) rfl rfl (fun u1 => ?_)
    refine T_region hc ?_
    refine Ch.step (v := (.row 1)) rfl (.pure (.move _ rfl rfl)) rfl rfl ?_
    refine Ch.step (v := (.d (.int .i64 ((m : Nat) : Int)))) rfl (.pure (.move _ rfl rfl)) rfl rfl ?_
    refine Ch.step (v := (.el 1 1 m 0)) rfl (.pure (.idxRow _ _ _ 43 (m) rfl Try.underlying28 sz43 rfl rfl rfl rfl (by first | omega | (simp only [List.length_map, List.length_set]; omega) | (simp; omega)))) rfl rfl ?_
    refine Ch.step (v := (.row 7000002)) rfl (.pure (.loadHole (n := 7000002) (m := 7000003) (u := u1) _ _ rfl ag43 rfl rfl (get_set (by first | omega | (simp only [List.length_map, List.length_set]; omega) | (simp; omega))) rfl rfl)) rfl rfl ?_
    refine Ch.step (v := (.d (.int .i64 ((k + lenTo xs m : Nat) : Int)))) rfl (.pure (.move _ rfl rfl)) rfl rfl ?_
    refine Ch.step (v := (.d (.int .i64 (((k + lenTo xs m) + ((msTo xs k m).getD m default).length : Nat) : Int)))) rfl (.call 17000 21 _ _ _ en21 rfl (.inl rfl) (.cons (.row rfl) (.cons (.d _) .nil)) rfl (sol rfl (solids_c (solid_row (fun _ => rfl) _) rfl)) (sp_laws_markIntS ((msTo xs k m).getD m default) (k + lenTo xs m) (by first | omega | assumption | (exact hx _ (getD_mem (by omega))) | (exact hx _ (by assumption)) | (exact Nat.le_trans (hx _ (by assumption)) (by omega)) | (simp only [List.length_append, List.length_take, List.length_drop, List.length_cons, List.length_nil]; omega) | (simp_all; done)) (by first | omega | assumption | (exact hx _ (getD_mem (by omega))) | (exact hx _ (by assumption)) | (exact Nat.le_trans (hx _ (by assumption)) (by omega)) | (simp only [List.length_append, List.length_take, List.length_drop, List.length_cons, List.length_nil]; omega) | (simp_all; done))) (.row _ _ _ (.skip _ _ .nil)) rfl) rfl rfl ?_
    refine Ch.step (v := (.d (.int .i64 (((k + lenTo xs m) + ((msTo xs k m).getD m default).length : Nat) : Int)))) rfl (.pure (.assign _ rfl rfl)) rfl rfl ?_
    refine Ch.nil ?_
    refine T_region hc ?_
    refine Ch.step (v := (.d (.int .i64 ((m : Nat) : Int)))) rfl (.pure (.move _ rfl rfl)) rfl rfl ?_
    refine Ch.step (v := (.d (.int .i64 (((m : Nat) : Int) + 1)))) rfl (.pure (.int _ _ _ _ _ rfl rfl rfl (intV_add (by first | omega | (simp only [List.length_map, List.length_append, List.length_take, List.length_drop, List.length_cons, List.length_nil]; omega) | (simp; omega) | (simp; done)) (by first | omega | (simp only [List.length_map, List.length_append, List.length_take, List.length_drop, List.length_cons, List.length_nil]; omega) | (simp; omega) | (simp; done))))) rfl rfl ?_
    refine Ch.step (v := (.d (.int .i64 (((m : Nat) : Int) + 1)))) rfl (.pure (.assign _ rfl rfl)) rfl rfl ?_
    refine Ch.nil ?_
    refine Exists.intro (m + 1) (And.intro (by omega) (And.intro (by first | omega | (dsimp only; omega)) (Wk.trans (Wk.give 1 m 7000002 7000003 rfl (get_set (by first | omega | (simp only [List.length_map, List.length_set]; omega) | (simp; omega))) rfl rfl rfl rfl) (Wk.of rfl rfl (And.intro rfl (And.intro (vI (by first | rfl | (rw [lenTo_succ (by omega)]; omega))) (And.intro (vI (by first | rfl | omega | (simp; done) | (simp; omega))) trivial))) (And.intro (oR (by first | rfl | (exact ms_set (by omega)) | (rw [hmg]; exact ms_set (by omega)))) trivial)))))
  · replace h1 := of_decide_eq_false h1
    try rw [if_neg (Nat.lt_irrefl m)] at hmg
    try have hls := lenTo_succ (xs := xs) (m := m) (by omega)
    try have hgl := congrArg List.length hmg
    refine T_exit ?_
    refine T_seq ?_
    refine T_region hc ?_
    refine Ch.step (v := (.d (.int .i64 ((k + lenTo xs m : Nat) : Int)))) rfl (.pure (.move _ rfl rfl)) rfl rfl ?_
    refine Ch.step (v := (.d (.int .i64 ((k + lenTo xs m : Nat) : Int)))) rfl (.pure (.assign _ rfl rfl)) rfl rfl ?_
    refine Ch.nil ?_
    refine T_ret ?_
    refine And.intro (.inr rfl) ?_
    exact Exists.intro [(.d (.int .i64 ((k + lenTo xs m : Nat) : Int)))] (Exists.intro [1] (Exists.intro [] (And.intro (.cons (.tmp 4 rfl) .nil) (And.intro (.cons (Exp.of (congrArg (D.slice true 1) (by rw [mss, show xs.length = m by omega])) (.row rfl)) (.cons (.any _) .nil)) (And.intro (Exp.of (congrArg (D.int .i64) (by rw [lenTo_all (m := m) (by omega)])) (.d _)) (And.intro rfl rfl))))))

theorem sp_laws_heldIntSS (xs : List (List Int)) (k : Nat) (hn : xs.length ≤ 1048576) (hs : lenTo xs xs.length ≤ 1048576) (hk : k ≤ 1) : Sp Try.prog 16 [(.slice false 1 (xs.map intsD)), (.int .i64 ((k : Nat) : Int))] [.any, .any] (.int .i64 (hssR xs k)) := by
  refine Sp_intro (lend := true) Try.func16 rfl rfl rfl (fun _ => rfl) (fun c hc hX => ?_)
  refine T_seq ?_
  refine T_region hc ?_
  refine Ch.step (v := (.d (.int .i64 0))) rfl (.pure (.assign _ rfl rfl)) rfl rfl ?_
  refine Ch.nil ?_
  refine T_seq ?_
  refine T_seq ?_
  refine T_region hc ?_
  refine Ch.step (v := (.d (.int .i64 0))) rfl (.pure (.assign _ rfl rfl)) rfl rfl ?_
  refine Ch.nil ?_
  refine T_block ?_
  refine T_loop (ι := Nat) (fun m => { n := 21, sl := [(0, (.d (.slice false 1 (xs.map intsD)))), (1, (.d (.int .i64 ((k + lenTo xs m : Nat) : Int)))), (5, (.d (.int .i64 ((m : Nat) : Int))))], hp := [], pin := [] }) (fun m => m ≤ xs.length ∧ ∀ j, j < m → iheldB (xs.getD j default) (k + lenTo xs j) = true) (fun m => xs.length - m) ⟨0, ⟨by omega, fun j hj => by omega⟩, (Wk.of rfl rfl (And.intro rfl (And.intro (vI (by first | rfl | (rw [(iheld_yes (by assumption)).2, lenTo_succ (by omega)]; omega) | (rw [(iheld_yes (by omega)).2, lenTo_succ (by omega)]; omega))) (And.intro (vI (by first | rfl | omega | (simp; done) | (simp; omega))) trivial))) trivial)⟩ (fun m hp0 => ?_)
  have hlm := lenTo_le xs m; have hlm1 := lenTo_le xs (m + 1)
  refine T_seq ?_
  refine T_seq ?_
  refine T_region hc ?_
  refine Ch.step (v := (.d (.int .i64 ((m : Nat) : Int)))) rfl (.pure (.move _ rfl rfl)) rfl rfl ?_
  refine Ch.step (v := (.d (.slice false 1 (xs.map intsD)))) rfl (.pure (.move _ rfl rfl)) rfl rfl ?_
  refine Ch.step (v := (.d (.int .i64 ((xs.length : Nat) : Int)))) rfl (.pure (.len _ _ 43 rfl Try.underlying28 (.sh _ _) (by simp))) rfl rfl ?_
  refine Ch.step (v := (.d (.bool (decide (((m : Nat) : Int) < ((xs.length : Nat) : Int)))))) rfl (.pure (.int _ _ _ _ _ rfl rfl rfl rfl)) rfl rfl ?_
  refine Ch.nil ?_
  refine T_cond (b := (decide (((m : Nat) : Int) < ((xs.length : Nat) : Int)))) rfl (fun h1 => ?_) (fun h1 => ?_)
  · replace h1 := of_decide_eq_true h1
    try have hls := lenTo_succ (xs := xs) (m := m) (by omega)
    refine T_skip ?_
    refine T_seq ?_
    refine T_block ?_
    refine T_seq ?_
    refine T_region hc ?_
    refine Ch.step (v := (.d (.slice false 1 (xs.map intsD)))) rfl (.pure (.move _ rfl rfl)) rfl rfl ?_
    refine Ch.step (v := (.d (.int .i64 ((m : Nat) : Int)))) rfl (.pure (.move _ rfl rfl)) rfl rfl ?_
    refine Ch.step (v := (.d (.ref (.slice false 1 ((xs.getD m default).map (fun n : Int => D.int .i64 n)))))) rfl (.pure (.idx _ _ _ 43 (m) rfl Try.underlying28 sz43 rfl rfl rfl (get_map _ (by first | omega | (simp only [List.length_map, List.length_append, List.length_take, List.length_drop, List.length_cons, List.length_nil]; omega) | (simp; omega) | (simp; done))))) rfl rfl ?_
    refine Ch.step (v := (.d (.slice false 1 ((xs.getD m default).map (fun n : Int => D.int .i64 n))))) rfl (.pure (.loadRef1 _ _ rfl ag43 rfl rfl)) rfl rfl ?_
    refine Ch.step (v := (.d (.int .i64 ((k + lenTo xs m : Nat) : Int)))) rfl (.pure (.move _ rfl rfl)) rfl rfl ?_
    refine Ch.step (v := (.d (.int .i64 (iheldR (xs.getD m default) (k + lenTo xs m))))) rfl (.call 17000 22 _ _ _ en22 rfl (.inl rfl) (.cons (.d _) (.cons (.d _) .nil)) rfl rfl (sp_laws_heldIntS (xs.getD m default) (k + lenTo xs m) (by first | omega | assumption | (exact hx _ (getD_mem (by omega))) | (exact hx _ (by assumption)) | (exact Nat.le_trans (hx _ (by assumption)) (by omega)) | (simp only [List.length_append, List.length_take, List.length_drop, List.length_cons, List.length_nil]; omega) | (simp_all; done)) (by first | omega | assumption | (exact hx _ (getD_mem (by omega))) | (exact hx _ (by assumption)) | (exact Nat.le_trans (hx _ (by assumption)) (by omega)) | (simp only [List.length_append, List.length_take, List.length_drop, List.length_cons, List.length_nil]; omega) | (simp_all; done))) (.skip _ _ (.skip _ _ .nil)) rfl) rfl rfl ?_
    refine Ch.step (v := (.d (.int .i64 (iheldR (xs.getD m default) (k + lenTo xs m))))) rfl (.pure (.assign _ rfl rfl)) rfl rfl ?_
    refine Ch.nil ?_
    refine T_seq ?_
    refine T_region hc ?_
    refine Ch.step (v := (.d (.int .i64 (iheldR (xs.getD m default) (k + lenTo xs m))))) rfl (.pure (.move _ rfl rfl)) rfl rfl ?_
    refine Ch.step (v := (.d (.bool (decide ((iheldR (xs.getD m default) (k + lenTo xs m)) < 0))))) rfl (.pure (.int _ _ _ _ _ rfl rfl rfl rfl)) rfl rfl ?_
    refine Ch.nil ?_
    refine T_cond (b := (decide ((iheldR (xs.getD m default) (k + lenTo xs m)) < 0))) rfl (fun h2 => ?_) (fun h2 => ?_)
    · replace h2 := of_decide_eq_true h2
      refine T_seq ?_
      refine T_region hc ?_
      refine Ch.step (v := (.d (.int .i64 (-1)))) rfl (.pure (.assign _ rfl rfl)) rfl rfl ?_
      refine Ch.nil ?_
      refine T_ret ?_
      refine And.intro (.inr rfl) ?_
      exact Exists.intro [(.d (.int .i64 (-1)))] (Exists.intro [] (Exists.intro [] (And.intro (.cons (.tmp 4 rfl) .nil) (And.intro (.cons (.any _) (.cons (.any _) .nil)) (And.intro (Exp.of (congrArg (D.int .i64) (by first | (rw [hssR, hssB, allB_no m (by omega) (by exact iheld_no (by assumption))]; rfl) | (rw [hssR, hssB, allB_of (fun j hj => hp0.2 j (by omega)), if_pos rfl, lenTo_all (m := m) (by omega)]; done))) (.d _)) (And.intro rfl rfl))))))
    · replace h2 := of_decide_eq_false h2
      refine T_skip ?_
      refine T_region hc ?_
      refine Ch.step (v := (.d (.int .i64 ((m : Nat) : Int)))) rfl (.pure (.move _ rfl rfl)) rfl rfl ?_
      refine Ch.step (v := (.d (.int .i64 (((m : Nat) : Int) + 1)))) rfl (.pure (.int _ _ _ _ _ rfl rfl rfl (intV_add (by first | omega | (simp only [List.length_map, List.length_append, List.length_take, List.length_drop, List.length_cons, List.length_nil]; omega) | (simp; omega) | (simp; done)) (by first | omega | (simp only [List.length_map, List.length_append, List.length_take, List.length_drop, List.length_cons, List.length_nil]; omega) | (simp; omega) | (simp; done))))) rfl rfl ?_
      refine Ch.step (v := (.d (.int .i64 (((m : Nat) : Int) + 1)))) rfl (.pure (.assign _ rfl rfl)) rfl rfl ?_
      refine Ch.nil ?_
      refine Exists.intro (m + 1) (And.intro ⟨by omega, upto_succ hp0.2 (iheld_yes (by omega)).1⟩ (And.intro (by first | omega | (dsimp only; omega)) (Wk.of rfl rfl (And.intro rfl (And.intro (vI (by first | rfl | (rw [(iheld_yes (by assumption)).2, lenTo_succ (by omega)]; omega) | (rw [(iheld_yes (by omega)).2, lenTo_succ (by omega)]; omega))) (And.intro (vI (by first | rfl | omega | (simp; done) | (simp; omega))) trivial))) trivial)))
  · replace h1 := of_decide_eq_false h1
    try have hls := lenTo_succ (xs := xs) (m := m) (by omega)
    refine T_exit ?_
    refine T_seq ?_
    refine T_region hc ?_
    refine Ch.step (v := (.d (.int .i64 ((k + lenTo xs m : Nat) : Int)))) rfl (.pure (.move _ rfl rfl)) rfl rfl ?_
    refine Ch.step (v := (.d (.int .i64 ((k + lenTo xs m : Nat) : Int)))) rfl (.pure (.assign _ rfl rfl)) rfl rfl ?_
    refine Ch.nil ?_
    refine T_ret ?_
    refine And.intro (.inr rfl) ?_
    exact Exists.intro [(.d (.int .i64 ((k + lenTo xs m : Nat) : Int)))] (Exists.intro [] (Exists.intro [] (And.intro (.cons (.tmp 4 rfl) .nil) (And.intro (.cons (.any _) (.cons (.any _) .nil)) (And.intro (Exp.of (congrArg (D.int .i64) (by first | (rw [hssR, hssB, allB_no m (by omega) (by exact iheld_no (by assumption))]; rfl) | (rw [hssR, hssB, allB_of (fun j hj => hp0.2 j (by omega)), if_pos rfl, lenTo_all (m := m) (by omega)]; done))) (.d _)) (And.intro rfl rfl))))))

theorem sp_laws_eqIntSS (xs ys : List (List Int)) (hn : xs.length ≤ 1048576) (hx : ∀ x ∈ xs, x.length ≤ 1048576) : Sp Try.prog 12 [(.slice false 1 (xs.map intsD)), (.slice false 1 (ys.map intsD))] [.any, .any] (.bool (decide (xs = ys))) := by
  refine Sp_intro (lend := true) Try.func12 rfl rfl rfl (fun _ => rfl) (fun c hc hX => ?_)
  refine T_seq ?_
  refine T_region hc ?_
  refine Ch.step (v := (.d (.bool false))) rfl (.pure (.assign _ rfl rfl)) rfl rfl ?_
  refine Ch.nil ?_
  refine T_seq ?_
  refine T_seq ?_
  refine T_region hc ?_
  refine Ch.step (v := (.d (.slice false 1 (xs.map intsD)))) rfl (.pure (.move _ rfl rfl)) rfl rfl ?_
  refine Ch.step (v := (.d (.int .i64 ((xs.length : Nat) : Int)))) rfl (.pure (.len _ _ 43 rfl Try.underlying28 (.sh _ _) (by simp))) rfl rfl ?_
  refine Ch.step (v := (.d (.slice false 1 (ys.map intsD)))) rfl (.pure (.move _ rfl rfl)) rfl rfl ?_
  refine Ch.step (v := (.d (.int .i64 ((ys.length : Nat) : Int)))) rfl (.pure (.len _ _ 43 rfl Try.underlying28 (.sh _ _) (by simp))) rfl rfl ?_
  refine Ch.step (v := (.d (.bool (!(decide (((xs.length : Nat) : Int) = ((ys.length : Nat) : Int))))))) rfl (.pure (.int _ _ _ _ _ rfl rfl rfl rfl)) rfl rfl ?_
  refine Ch.nil ?_
  refine T_cond (b := (!(decide (((xs.length : Nat) : Int) = ((ys.length : Nat) : Int))))) rfl (fun h1 => ?_) (fun h1 => ?_)
  · replace h1 := nott h1
    replace h1 := of_decide_eq_false h1
    refine T_seq ?_
    refine T_region hc ?_
    refine Ch.step (v := (.d (.bool false))) rfl (.pure (.assign _ rfl rfl)) rfl rfl ?_
    refine Ch.nil ?_
    refine T_ret ?_
    refine And.intro (.inr rfl) ?_
    exact Exists.intro [(.d (.bool false))] (Exists.intro [] (Exists.intro [] (And.intro (.cons (.tmp 4 rfl) .nil) (And.intro (.cons (.any _) (.cons (.any _) .nil)) (And.intro (Exp.of (congrArg D.bool (by exact eqL_len (by omega))) (.d _)) (And.intro rfl rfl))))))
  · replace h1 := notf h1
    replace h1 := of_decide_eq_true h1
    refine T_skip ?_
    refine T_seq ?_
    refine T_seq ?_
    refine T_region hc ?_
    refine Ch.step (v := (.d (.int .i64 0))) rfl (.pure (.assign _ rfl rfl)) rfl rfl ?_
    refine Ch.nil ?_
    refine T_block ?_
    refine T_loop (ι := Nat) (fun k => { n := 27, sl := [(0, (.d (.slice false 1 (xs.map intsD)))), (1, (.d (.slice false 1 (ys.map intsD)))), (5, (.d (.int .i64 ((k : Nat) : Int))))], hp := [], pin := [] }) (fun k => k ≤ xs.length ∧ ∀ j, j < k → xs.getD j default = ys.getD j default) (fun k => xs.length - k) ⟨0, ⟨by omega, fun j hj => by omega⟩, (Wk.of rfl rfl (And.intro rfl (And.intro rfl (And.intro (vI (by first | rfl | omega | (simp; done) | (simp; omega))) trivial))) trivial)⟩ (fun k hp0 => ?_)
    refine T_seq ?_
    refine T_seq ?_
    refine T_region hc ?_
    refine Ch.step (v := (.d (.int .i64 ((k : Nat) : Int)))) rfl (.pure (.move _ rfl rfl)) rfl rfl ?_
    refine Ch.step (v := (.d (.slice false 1 (xs.map intsD)))) rfl (.pure (.move _ rfl rfl)) rfl rfl ?_
    refine Ch.step (v := (.d (.int .i64 ((xs.length : Nat) : Int)))) rfl (.pure (.len _ _ 43 rfl Try.underlying28 (.sh _ _) (by simp))) rfl rfl ?_
    refine Ch.step (v := (.d (.bool (decide (((k : Nat) : Int) < ((xs.length : Nat) : Int)))))) rfl (.pure (.int _ _ _ _ _ rfl rfl rfl rfl)) rfl rfl ?_
    refine Ch.nil ?_
    refine T_cond (b := (decide (((k : Nat) : Int) < ((xs.length : Nat) : Int)))) rfl (fun h2 => ?_) (fun h2 => ?_)
    · replace h2 := of_decide_eq_true h2
      try have hxk := hx _ (getD_mem (l := xs) (j := k) (d := default) (by omega))
      refine T_skip ?_
      refine T_seq ?_
      refine T_block ?_
      refine T_seq ?_
      refine T_regionD hc (by kernel_rfl) ?_
      refine ChD.step (v := (.d (.slice false 1 (xs.map intsD)))) [] rfl (.pure (.move _ rfl rfl)) rfl rfl ?_
      refine ChD.step (v := (.d (.int .i64 ((k : Nat) : Int)))) [] rfl (.pure (.move _ rfl rfl)) rfl rfl ?_
      refine ChD.step (v := (.d (.ref (.slice false 1 ((xs.getD k default).map (fun n : Int => D.int .i64 n)))))) [] rfl (.pure (.idx _ _ _ 43 (k) rfl Try.underlying28 sz43 rfl rfl rfl (get_map _ (by first | omega | (simp only [List.length_map, List.length_append, List.length_take, List.length_drop, List.length_cons, List.length_nil]; omega) | (simp; omega) | (simp; done))))) rfl rfl ?_
      refine ChD.step (v := (.d (.slice false 1 ((xs.getD k default).map (fun n : Int => D.int .i64 n))))) [] rfl (.pure (.loadRef1 _ _ rfl ag43 rfl rfl)) rfl rfl ?_
      refine ChD.step (v := (.d (.slice false 1 (ys.map intsD)))) [] rfl (.pure (.move _ rfl rfl)) rfl rfl ?_
      refine ChD.step (v := (.d (.int .i64 ((k : Nat) : Int)))) [] rfl (.pure (.move _ rfl rfl)) rfl rfl ?_
      refine ChD.step (v := (.d (.ref (.slice false 1 ((ys.getD k default).map (fun n : Int => D.int .i64 n)))))) [] rfl (.pure (.idx _ _ _ 43 (k) rfl Try.underlying28 sz43 rfl rfl rfl (get_map _ (by first | omega | (simp only [List.length_map, List.length_append, List.length_take, List.length_drop, List.length_cons, List.length_nil]; omega) | (simp; omega) | (simp; done))))) rfl rfl ?_
      refine ChD.step (v := (.d (.slice false 1 ((ys.getD k default).map (fun n : Int => D.int .i64 n))))) [] rfl (.pure (.loadRef1 _ _ rfl ag43 rfl rfl)) rfl rfl ?_
      refine ChD.step (v := (.d (.bool (decide ((xs.getD k default) = (ys.getD k default)))))) [] rfl (.call 25000 20 _ _ _ en20 rfl (.inl rfl) (.cons (.d _) (.cons (.d _) .nil)) rfl rfl (sp_laws_eqIntS (xs.getD k default) (ys.getD k default) (by first | omega | assumption | (exact hx _ (getD_mem (by omega))) | (exact hx _ (by assumption)) | (exact Nat.le_trans (hx _ (by assumption)) (by omega)) | (simp only [List.length_append, List.length_take, List.length_drop, List.length_cons, List.length_nil]; omega) | (simp_all; done))) (.skip _ _ (.skip _ _ .nil)) rfl) rfl rfl ?_
      refine ChD.step (v := (.d (.bool (!(decide ((xs.getD k default) = (ys.getD k default))))))) [] rfl (.pure (.not _ _ rfl rfl)) rfl rfl ?_
      refine ChD.nil (And.intro ?_ (by kernel_rfl))
      refine T_cond (b := (!(decide ((xs.getD k default) = (ys.getD k default))))) rfl (fun h3 => ?_) (fun h3 => ?_)
      · replace h3 := nott h3
        replace h3 := of_decide_eq_false h3
        refine T_seq ?_
        refine T_region hc ?_
        refine Ch.step (v := (.d (.bool false))) rfl (.pure (.assign _ rfl rfl)) rfl rfl ?_
        refine Ch.nil ?_
        refine T_ret ?_
        refine And.intro (.inr rfl) ?_
        exact Exists.intro [(.d (.bool false))] (Exists.intro [] (Exists.intro [] (And.intro (.cons (.tmp 4 rfl) .nil) (And.intro (.cons (.any _) (.cons (.any _) .nil)) (And.intro (Exp.of (congrArg D.bool (by exact eqL_at default k (by assumption))) (.d _)) (And.intro rfl rfl))))))
      · replace h3 := notf h3
        replace h3 := of_decide_eq_true h3
        refine T_skip ?_
        refine T_region hc ?_
        refine Ch.step (v := (.d (.int .i64 ((k : Nat) : Int)))) rfl (.pure (.move _ rfl rfl)) rfl rfl ?_
        refine Ch.step (v := (.d (.int .i64 (((k : Nat) : Int) + 1)))) rfl (.pure (.int _ _ _ _ _ rfl rfl rfl (intV_add (by first | omega | (simp only [List.length_map, List.length_append, List.length_take, List.length_drop, List.length_cons, List.length_nil]; omega) | (simp; omega) | (simp; done)) (by first | omega | (simp only [List.length_map, List.length_append, List.length_take, List.length_drop, List.length_cons, List.length_nil]; omega) | (simp; omega) | (simp; done))))) rfl rfl ?_
        refine Ch.step (v := (.d (.int .i64 (((k : Nat) : Int) + 1)))) rfl (.pure (.assign _ rfl rfl)) rfl rfl ?_
        refine Ch.nil ?_
        refine Exists.intro (k + 1) (And.intro ⟨by omega, upto_succ hp0.2 (by assumption)⟩ (And.intro (by first | omega | (dsimp only; omega)) (Wk.of rfl rfl (And.intro rfl (And.intro rfl (And.intro (vI (by first | rfl | omega | (simp; done) | (simp; omega))) trivial))) trivial)))
    · replace h2 := of_decide_eq_false h2
      try have hxk := hx _ (getD_mem (l := xs) (j := k) (d := default) (by omega))
      refine T_exit ?_
      refine T_seq ?_
      refine T_region hc ?_
      refine Ch.step (v := (.d (.bool true))) rfl (.pure (.assign _ rfl rfl)) rfl rfl ?_
      refine Ch.nil ?_
      refine T_ret ?_
      refine And.intro (.inr rfl) ?_
      exact Exists.intro [(.d (.bool true))] (Exists.intro [] (Exists.intro [] (And.intro (.cons (.tmp 4 rfl) .nil) (And.intro (.cons (.any _) (.cons (.any _) .nil)) (And.intro (Exp.of (congrArg D.bool (by exact eqL_all default (by omega) (fun j hj => hp0.2 j (by omega)))) (.d _)) (And.intro rfl rfl))))))

theorem ccV_small (x : Sgr) : (ccV x).length ≤ 90000 := by
  unfold ccV; split
  · rename_i h
    have hx := sg_has h
    have h1 := prTo_le (cfP x) (n := x.codes.length) hx.len.2 x.codes.length
    have h2 := hx.len
    unfold cfL
    omega
  · exact Nat.zero_le _

set_option maxHeartbeats 1000000 in
theorem sp_laws_FnExactCodingConflicts (x : Sgr) (hwx : x.wide) : Sp Try.prog 3 [(.agg [(.slice false 2 (x.sigs.map Sgn.d)), (.slice false 1 (x.codes.map D.str)), (.slice false 4 (x.arcs.map Arc.d))])] [.any] (.bool true) := by
  refine Sp_intro (lend := true) Try.func3 rfl rfl rfl (fun _ => rfl) (fun c hc hX => ?_)
  refine T_seq ?_
  refine T_region hc ?_
  refine Ch.step (v := (.ptr 1000 0)) rfl (.box 1000 _ _ rfl (.aggD _)) rfl rfl ?_
  refine Ch.step (v := (.d (.bool false))) rfl (.pure (.assign _ rfl rfl)) rfl rfl ?_
  refine Ch.nil ?_
  refine T_seq ?_
  refine T_region hc ?_
  refine Ch.step (v := (.d (.int .i64 1048576))) rfl (.pure (.assign _ rfl rfl)) rfl rfl ?_
  refine Ch.nil ?_
  refine T_seq ?_
  refine T_region hc ?_
  refine Ch.step (v := (.agg [(.d (.slice false 2 (x.sigs.map Sgn.d))), (.d (.slice false 1 (x.codes.map D.str))), (.d (.slice false 4 (x.arcs.map Arc.d)))])) rfl (.pure (.loadPtrA _ _ rfl ag26 sz26 rfl rfl (Nat.le_of_ble_eq_true rfl) rfl)) rfl rfl ?_
  refine Ch.step (v := (.d (.int .i64 1048576))) rfl (.pure (.move _ rfl rfl)) rfl rfl ?_
  refine Ch.step (v := (.d (.int .i64 (szR x.bulk 1048576)))) rfl (.call 16000 8 _ _ _ en8 rfl (.inl rfl) (.cons (.lend (.agg (.cons (.d _) (.cons (.d _) (.cons (.d _) .nil))) rfl)) (.cons (.d _) .nil)) rfl rfl (sp_laws_szStateGraph x 1048576 (by first | omega | assumption | (exact hx _ (getD_mem (by omega))) | (exact hx _ (by assumption)) | (exact Nat.le_trans (hx _ (by assumption)) (by omega)) | (simp only [List.length_append, List.length_take, List.length_drop, List.length_cons, List.length_nil]; omega) | (simp_all; done)) (by first | omega | assumption | (exact hx _ (getD_mem (by omega))) | (exact hx _ (by assumption)) | (exact Nat.le_trans (hx _ (by assumption)) (by omega)) | (simp only [List.length_append, List.length_take, List.length_drop, List.length_cons, List.length_nil]; omega) | (simp_all; done)) (by first | assumption | omega | trivial | (simp_all; done) | (exact fun _ _ => trivial) | (exact hx _ (by assumption)) | (refine ⟨?_, ?_⟩ <;> first | assumption | omega))) (.skip _ _ (.skip _ _ .nil)) rfl) rfl rfl ?_
  refine Ch.step (v := (.d (.int .i64 (szR x.bulk 1048576)))) rfl (.pure (.assign _ rfl rfl)) rfl rfl ?_
  refine Ch.nil ?_
  refine T_seq ?_
  refine T_seq ?_
  refine T_region hc ?_
  refine Ch.step (v := (.d (.int .i64 (szR x.bulk 1048576)))) rfl (.pure (.move _ rfl rfl)) rfl rfl ?_
  refine Ch.step (v := (.d (.bool (decide ((szR x.bulk 1048576) < 0))))) rfl (.pure (.int _ _ _ _ _ rfl rfl rfl rfl)) rfl rfl ?_
  refine Ch.nil ?_
  refine T_cond (b := (decide ((szR x.bulk 1048576) < 0))) rfl (fun h1 => ?_) (fun h1 => ?_)
  · replace h1 := of_decide_eq_true h1
    try have hz := szR_ok (t := x.bulk) (left := 1048576) h1 (by omega)
    try have hb : x.bulk ≤ 1048576 := by omega
    try have hl := hz.2
    try have hcl := ccV_le x
    try have h2l := ccV_two x
    try have hss : ∀ pr ∈ ccV x, pr.length ≤ 1048576 := fun pr hpr => by (rw [ccV_two x pr hpr]; decide)
    try have hlt := lenTo_two h2l (ccV x).length (Nat.le_refl _)
    try have hcs := ccV_small x
    try have hhm := hss_marks 1 (ccV x)
    try have hmn := mss_len 1 (ccV x)
    try have hml := mss_total 1 (ccV x)
    refine T_seq ?_
    refine T_region hc ?_
    refine Ch.step (v := (.d (.bool true))) rfl (.pure (.assign _ rfl rfl)) rfl rfl ?_
    refine Ch.nil ?_
    refine T_ret ?_
    refine And.intro (.inr rfl) ?_
    exact Exists.intro [(.d (.bool true))] (Exists.intro [] (Exists.intro [] (And.intro (.cons (.tmp 2 rfl) .nil) (And.intro (.cons (.any _) .nil) (And.intro (.d _) (And.intro rfl rfl))))))
  · replace h1 := of_decide_eq_false h1
    try have hz := szR_ok (t := x.bulk) (left := 1048576) h1 (by omega)
    try have hb : x.bulk ≤ 1048576 := by omega
    try have hl := hz.2
    try have hcl := ccV_le x
    try have h2l := ccV_two x
    try have hss : ∀ pr ∈ ccV x, pr.length ≤ 1048576 := fun pr hpr => by (rw [ccV_two x pr hpr]; decide)
    try have hlt := lenTo_two h2l (ccV x).length (Nat.le_refl _)
    try have hcs := ccV_small x
    try have hhm := hss_marks 1 (ccV x)
    try have hmn := mss_len 1 (ccV x)
    try have hml := mss_total 1 (ccV x)
    refine T_skip ?_
    refine T_seq ?_
    refine T_region hc ?_
    refine Ch.step (v := (.agg [(.d (.slice false 2 (x.sigs.map Sgn.d))), (.d (.slice false 1 (x.codes.map D.str))), (.d (.slice false 4 (x.arcs.map Arc.d)))])) rfl (.pure (.loadPtrA _ _ rfl ag26 sz26 rfl rfl (Nat.le_of_ble_eq_true rfl) rfl)) rfl rfl ?_
    refine Ch.step (v := (.agg [(.row 21000), (.row 21001), (.row 21002)])) rfl (.call 21000 10 _ _ _ en10 rfl (.inl rfl) (.cons (.lend (.agg (.cons (.d _) (.cons (.d _) (.cons (.d _) .nil))) rfl)) .nil) rfl (sol (Sgr.sol _) rfl) (sp_laws_toStateGraph x (by first | assumption | omega | (rw [List.length_take]; omega) | (have := bulkF_mem hb _ (getD_mem (d := default) (by omega)); assumption) | (unfold bulkS at *; omega) | (simp_all; done))) (.skip _ _ .nil) rfl) rfl rfl ?_
    refine Ch.step (v := (.tup [(.row 22000), (.d (.bool (sgB x)))])) rfl (.call 22000 9 _ _ _ en9 rfl (.inl rfl) (.cons (.lend (.agg (.cons (.row rfl (frozs_map (fun _ => rfl) _)) (.cons (.row rfl (frozs_map (fun _ => rfl) _)) (.cons (.row rfl (frozs_map (fun _ => rfl) _)) .nil))) rfl)) .nil) rfl (sol (by rw [D.solid]; exact solids_c (solid_row intsU_sol _) rfl) rfl) (sp_spec_CodingConflicts x (by first | assumption | omega | (rw [List.length_take]; omega) | (have := bulkF_mem hb _ (getD_mem (d := default) (by omega)); assumption) | (unfold bulkS at *; omega) | (simp_all; done))) (.skip _ _ .nil) rfl) rfl rfl ?_
    refine Ch.step (v := (.tup [(.row 22000), (.d (.bool (sgB x)))])) rfl (.pure (.move _ rfl rfl)) rfl rfl ?_
    refine Ch.step (v := (.row 22000)) rfl (.pure (.extract _ rfl rfl rfl)) rfl rfl ?_
    refine Ch.step (v := (.d (.bool (sgB x)))) rfl (.pure (.extract _ rfl rfl rfl)) rfl rfl ?_
    refine Ch.step (v := (.row 22000)) rfl (.pure (.assign _ rfl rfl)) rfl rfl ?_
    refine Ch.step (v := (.d (.bool (sgB x)))) rfl (.pure (.assign _ rfl rfl)) rfl rfl ?_
    refine Ch.nil ?_
    refine T_seq ?_
    refine T_region hc ?_
    refine Ch.step (v := (.agg [(.d (.slice false 2 (x.sigs.map Sgn.d))), (.d (.slice false 1 (x.codes.map D.str))), (.d (.slice false 4 (x.arcs.map Arc.d)))])) rfl (.pure (.loadPtrA _ _ rfl ag26 sz26 rfl rfl (Nat.le_of_ble_eq_true rfl) rfl)) rfl rfl ?_
    refine Ch.step (v := (.agg [(.row 26000), (.row 26001), (.row 26002)])) rfl (.call 26000 10 _ _ _ en10 rfl (.inl rfl) (.cons (.lend (.agg (.cons (.d _) (.cons (.d _) (.cons (.d _) .nil))) rfl)) .nil) rfl (sol (Sgr.sol _) rfl) (sp_laws_toStateGraph x (by first | assumption | omega | (rw [List.length_take]; omega) | (have := bulkF_mem hb _ (getD_mem (d := default) (by omega)); assumption) | (unfold bulkS at *; omega) | (simp_all; done))) (.skip _ _ .nil) rfl) rfl rfl ?_
    refine Ch.step (v := (.ptr 6000 0)) rfl (.alloc 6000 _ rfl zer34) rfl rfl ?_
    refine Ch.step (v := .junk) rfl (.storePtr _ _ _ rfl rfl rfl (.agg _ rfl) sz34 (Nat.le_of_ble_eq_true rfl)) rfl rfl ?_
    refine Ch.nil ?_
    refine T_seq ?_
    refine T_region hc ?_
    refine Ch.step (v := (.agg [(.row 26000), (.row 26001), (.row 26002)])) rfl (.pure (.loadPtrA _ _ rfl ag34 sz34 rfl rfl (Nat.le_of_ble_eq_true rfl) rfl)) rfl rfl ?_
    refine Ch.step (v := (.tup [(.row 29000), (.d (.bool (sgB x)))])) rfl (.call 29000 11 _ _ _ en11 rfl (.inl rfl) (.cons (.lend (.agg (.cons (.row rfl (frozs_map (fun _ => rfl) _)) (.cons (.row rfl (frozs_map (fun _ => rfl) _)) (.cons (.row rfl (frozs_map (fun _ => rfl) _)) .nil))) rfl)) .nil) rfl (sol (by rw [D.solid]; exact solids_c (solid_row intsU_sol _) rfl) rfl) (sp_impl_CodingConflicts x (by first | assumption | omega | (rw [List.length_take]; omega) | (have := bulkF_mem hb _ (getD_mem (d := default) (by omega)); assumption) | (unfold bulkS at *; omega) | (simp_all; done))) (.skip _ _ .nil) rfl) rfl rfl ?_
    refine Ch.step (v := (.tup [(.row 29000), (.d (.bool (sgB x)))])) rfl (.pure (.move _ rfl rfl)) rfl rfl ?_
    refine Ch.step (v := (.row 29000)) rfl (.pure (.extract _ rfl rfl rfl)) rfl rfl ?_
    refine Ch.step (v := (.d (.bool (sgB x)))) rfl (.pure (.extract _ rfl rfl rfl)) rfl rfl ?_
    refine Ch.step (v := (.row 29000)) rfl (.pure (.assign _ rfl rfl)) rfl rfl ?_
    refine Ch.step (v := (.d (.bool (sgB x)))) rfl (.pure (.assign _ rfl rfl)) rfl rfl ?_
    refine Ch.nil ?_
    refine T_seq ?_
    refine T_seq ?_
    refine T_region hc ?_
    refine Ch.step (v := (.row 29000)) rfl (.pure (.move _ rfl rfl)) rfl rfl ?_
    refine Ch.step (v := (.row 22000)) rfl (.pure (.move _ rfl rfl)) rfl rfl ?_
    refine Ch.step (v := (.d (.bool (decide ((ccV x) = (ccV x)))))) rfl (.call 34000 12 _ _ _ en12 rfl (.inl rfl) (.cons (.lend (.row rfl (frozs_to intsU_fz _))) (.cons (.lend (.row rfl (frozs_to intsU_fz _))) .nil)) rfl rfl (sp_laws_eqIntSS (ccV x) (ccV x) (by first | assumption | omega | (rw [List.length_take]; omega) | (have := bulkF_mem hb _ (getD_mem (d := default) (by omega)); assumption) | (unfold bulkS at *; omega) | (simp_all; done)) (by first | assumption | (exact fun x hx => by have := hss x hx; omega))) (.skip _ _ (.skip _ _ .nil)) rfl) rfl rfl ?_
    refine Ch.step (v := (.d (.bool (!(decide ((ccV x) = (ccV x))))))) rfl (.pure (.not _ _ rfl rfl)) rfl rfl ?_
    refine Ch.step (v := (.d (.bool (!(decide ((ccV x) = (ccV x))))))) rfl (.pure (.move _ rfl rfl)) rfl rfl ?_
    cases h2 : (decide ((ccV x) = (ccV x))) with
    | true =>
      replace h2 := of_decide_eq_true h2
      refine Ch.step (v := (.d (.bool (sgB x)))) rfl (.pure (.move _ rfl rfl)) rfl rfl ?_
      refine Ch.step (v := (.d (.bool (sgB x)))) rfl (.pure (.move _ rfl rfl)) rfl rfl ?_
      refine Ch.step (v := (.d (.bool (!(decide ((sgB x) = (sgB x))))))) rfl (.pure (.neB _ _ _ _ rfl Try.underlying4 rfl rfl)) rfl rfl ?_
      refine Ch.step (v := (.d (.bool (!(decide ((sgB x) = (sgB x))))))) rfl (.pure (.pickF _ _ _ rfl rfl rfl)) rfl rfl ?_
      refine Ch.nil ?_
      refine T_cond (b := (!(decide ((sgB x) = (sgB x))))) rfl (fun h3 => ?_) (fun h3 => ?_)
      · replace h3 := nott h3
        replace h3 := of_decide_eq_false h3
        refine T_seq ?_
        refine T_region hc ?_
        refine Ch.step (v := (.d (.bool false))) rfl (.pure (.assign _ rfl rfl)) rfl rfl ?_
        refine Ch.nil ?_
        refine T_ret ?_
        refine And.intro (.inr rfl) ?_
        exact Exists.intro [(.d (.bool false))] (Exists.intro [] (Exists.intro [] (And.intro (.cons (.tmp 2 rfl) .nil) (And.intro (.cons (.any _) .nil) (And.intro (Exp.of (congrArg D.bool (by first | rfl | contradiction | (exfalso; omega) | (simp_all; done) | (exfalso; simp_all; omega))) (.d _)) (And.intro rfl rfl))))))
      · replace h3 := notf h3
        replace h3 := of_decide_eq_true h3
        refine T_skip ?_
        refine T_seq ?_
        refine T_seq ?_
        refine T_regionD hc (by kernel_rfl) ?_
        refine ChD.step (v := (.agg [(.row 26000), (.row 26001), (.row 26002)])) [6000, 26000, 26001, 26002] rfl (.pure (.loadPtrA _ _ rfl ag34 sz34 rfl rfl (Nat.le_of_ble_eq_true rfl) rfl)) rfl rfl ?_
        refine ChD.step (v := (.agg [(.d (.slice false 2 (x.sigs.map Sgn.d))), (.d (.slice false 1 (x.codes.map D.str))), (.d (.slice false 4 (x.arcs.map Arc.d)))])) [1000] rfl (.pure (.loadPtrA _ _ rfl ag26 sz26 rfl rfl (Nat.le_of_ble_eq_true rfl) rfl)) rfl rfl ?_
        refine ChD.step (v := (.agg [(.row 43000), (.row 43001), (.row 43002)])) [] rfl (.call 43000 10 _ _ _ en10 rfl (.inl rfl) (.cons (.lend (.agg (.cons (.d _) (.cons (.d _) (.cons (.d _) .nil))) rfl)) .nil) rfl (sol (Sgr.sol _) rfl) (sp_laws_toStateGraph x (by first | assumption | omega | (rw [List.length_take]; omega) | (have := bulkF_mem hb _ (getD_mem (d := default) (by omega)); assumption) | (unfold bulkS at *; omega) | (simp_all; done))) (.skip _ _ .nil) rfl) rfl rfl ?_
        refine ChD.step (v := (.d (.bool (decide (x = x))))) [26000, 26001, 26002, 43000, 43001, 43002] rfl (.call 44000 13 _ _ _ en13 rfl (.inl rfl) (.cons (.lend (.agg (.cons (.row rfl (frozs_map (fun _ => rfl) _)) (.cons (.row rfl (frozs_map (fun _ => rfl) _)) (.cons (.row rfl (frozs_map (fun _ => rfl) _)) .nil))) rfl)) (.cons (.lend (.agg (.cons (.row rfl (frozs_map (fun _ => rfl) _)) (.cons (.row rfl (frozs_map (fun _ => rfl) _)) (.cons (.row rfl (frozs_map (fun _ => rfl) _)) .nil))) rfl)) .nil)) rfl rfl (sp_laws_eqStateGraph x x (by first | assumption | omega | (rw [List.length_take]; omega) | (have := bulkF_mem hb _ (getD_mem (d := default) (by omega)); assumption) | (unfold bulkS at *; omega) | (simp_all; done))) (.skip _ _ (.skip _ _ .nil)) rfl) rfl rfl ?_
        refine ChD.step (v := (.d (.bool (!(decide (x = x)))))) [] rfl (.pure (.not _ _ rfl rfl)) rfl rfl ?_
        refine ChD.nil (And.intro ?_ (by kernel_rfl))
        refine T_cond (b := (!(decide (x = x)))) rfl (fun h4 => ?_) (fun h4 => ?_)
        · replace h4 := nott h4
          replace h4 := of_decide_eq_false h4
          refine T_seq ?_
          refine T_region hc ?_
          refine Ch.step (v := (.d (.bool false))) rfl (.pure (.assign _ rfl rfl)) rfl rfl ?_
          refine Ch.nil ?_
          refine T_ret ?_
          refine And.intro (.inr rfl) ?_
          exact Exists.intro [(.d (.bool false))] (Exists.intro [] (Exists.intro [] (And.intro (.cons (.tmp 2 rfl) .nil) (And.intro (.cons (.any _) .nil) (And.intro (Exp.of (congrArg D.bool (by first | rfl | contradiction | (exfalso; omega) | (simp_all; done) | (exfalso; simp_all; omega))) (.d _)) (And.intro rfl rfl))))))
        · replace h4 := notf h4
          replace h4 := of_decide_eq_true h4
          refine T_skip ?_
          refine T_seq ?_
          refine T_region hc ?_
          refine Ch.step (v := (.d (.int .i64 1))) rfl (.pure (.assign _ rfl rfl)) rfl rfl ?_
          refine Ch.nil ?_
          refine T_seq ?_
          refine T_region hc ?_
          refine Ch.step (v := (.agg [(.row 26000), (.row 26001), (.row 26002)])) rfl (.pure (.loadPtrA _ _ rfl ag34 sz34 rfl rfl (Nat.le_of_ble_eq_true rfl) rfl)) rfl rfl ?_
          refine Ch.step (v := (.d (.int .i64 1))) rfl (.pure (.move _ rfl rfl)) rfl rfl ?_
          refine Ch.step (v := (.d (.int .i64 ((1 + 2 * x.sigs.length + x.codes.length + 4 * x.arcs.length : Nat) : Int)))) rfl (.call 48000 14 _ _ _ en14 rfl (.inl rfl) (.cons (.agg (.cons (.row rfl) (.cons (.row rfl) (.cons (.row rfl) .nil))) rfl) (.cons (.d _) .nil)) rfl rfl (sp_laws_markStateGraph x 1 (by first | assumption | omega | (rw [List.length_take]; omega) | (have := bulkF_mem hb _ (getD_mem (d := default) (by omega)); assumption) | (unfold bulkS at *; omega) | (simp_all; done)) (by first | assumption | omega | (rw [List.length_take]; omega) | (have := bulkF_mem hb _ (getD_mem (d := default) (by omega)); assumption) | (unfold bulkS at *; omega) | (simp_all; done))) (.skip _ _ (.skip _ _ .nil)) rfl) rfl rfl ?_
          refine Ch.step (v := (.d (.int .i64 ((1 + 2 * x.sigs.length + x.codes.length + 4 * x.arcs.length : Nat) : Int)))) rfl (.pure (.assign _ rfl rfl)) rfl rfl ?_
          refine Ch.nil ?_
          refine T_seq ?_
          refine T_seq ?_
          refine T_region hc ?_
          refine Ch.step (v := (.d (.int .i64 ((1 + 2 * x.sigs.length + x.codes.length + 4 * x.arcs.length : Nat) : Int)))) rfl (.pure (.move _ rfl rfl)) rfl rfl ?_
          refine Ch.step (v := (.d (.bool (decide (((1 + 2 * x.sigs.length + x.codes.length + 4 * x.arcs.length : Nat) : Int) < 0))))) rfl (.pure (.int _ _ _ _ _ rfl rfl rfl rfl)) rfl rfl ?_
          refine Ch.step (v := (.d (.bool (decide (((1 + 2 * x.sigs.length + x.codes.length + 4 * x.arcs.length : Nat) : Int) < 0))))) rfl (.pure (.move _ rfl rfl)) rfl rfl ?_
          cases h5 : (decide (((1 + 2 * x.sigs.length + x.codes.length + 4 * x.arcs.length : Nat) : Int) < 0)) with
          | true =>
            replace h5 := of_decide_eq_true h5
            refine Ch.skip rfl rfl ?_
            refine Ch.skip rfl rfl ?_
            refine Ch.skip rfl rfl ?_
            refine Ch.skip rfl rfl ?_
            refine Ch.step (v := (.d (.bool true))) rfl (.pure (.pickT _ _ _ rfl rfl rfl)) rfl rfl ?_
            refine Ch.step (v := (.d (.bool true))) rfl (.pure (.move _ rfl rfl)) rfl rfl ?_
            refine Ch.skip rfl rfl ?_
            refine Ch.skip rfl rfl ?_
            refine Ch.skip rfl rfl ?_
            refine Ch.step (v := (.d (.bool true))) rfl (.pure (.pickT _ _ _ rfl rfl rfl)) rfl rfl ?_
            refine Ch.nil ?_
            refine T_cond (b := true) rfl (fun _ => ?_) (fun h => nomatch h)
            refine T_seq ?_
            refine T_region hc ?_
            refine Ch.step (v := (.d (.bool false))) rfl (.pure (.assign _ rfl rfl)) rfl rfl ?_
            refine Ch.nil ?_
            refine T_ret ?_
            refine And.intro (.inr rfl) ?_
            exact Exists.intro [(.d (.bool false))] (Exists.intro [] (Exists.intro [] (And.intro (.cons (.tmp 2 rfl) .nil) (And.intro (.cons (.any _) .nil) (And.intro (Exp.of (congrArg D.bool (by first | rfl | contradiction | (exfalso; omega) | (simp_all; done) | (exfalso; simp_all; omega))) (.d _)) (And.intro rfl rfl))))))
          | false =>
            replace h5 := of_decide_eq_false h5
            refine Ch.step (v := (.row 29000)) rfl (.pure (.move _ rfl rfl)) rfl rfl ?_
            refine Ch.step (v := (.row 22000)) rfl (.pure (.move _ rfl rfl)) rfl rfl ?_
            refine Ch.step (v := (.d (.bool (decide ((ccV x) = (ccV x)))))) rfl (.call 54000 12 _ _ _ en12 rfl (.inl rfl) (.cons (.lend (.row rfl (frozs_to intsU_fz _))) (.cons (.lend (.row rfl (frozs_to intsU_fz _))) .nil)) rfl rfl (sp_laws_eqIntSS (ccV x) (ccV x) (by first | assumption | omega | (rw [List.length_take]; omega) | (have := bulkF_mem hb _ (getD_mem (d := default) (by omega)); assumption) | (unfold bulkS at *; omega) | (simp_all; done)) (by first | assumption | (exact fun x hx => by have := hss x hx; omega))) (.skip _ _ (.skip _ _ .nil)) rfl) rfl rfl ?_
            refine Ch.step (v := (.d (.bool (!(decide ((ccV x) = (ccV x))))))) rfl (.pure (.not _ _ rfl rfl)) rfl rfl ?_
            refine Ch.step (v := (.d (.bool (!(decide ((ccV x) = (ccV x))))))) rfl (.pure (.pickF _ _ _ rfl rfl rfl)) rfl rfl ?_
            refine Ch.step (v := (.d (.bool (!(decide ((ccV x) = (ccV x))))))) rfl (.pure (.move _ rfl rfl)) rfl rfl ?_
            cases h6 : (decide ((ccV x) = (ccV x))) with
            | true =>
              replace h6 := of_decide_eq_true h6
              refine Ch.step (v := (.d (.bool (sgB x)))) rfl (.pure (.move _ rfl rfl)) rfl rfl ?_
              refine Ch.step (v := (.d (.bool (sgB x)))) rfl (.pure (.move _ rfl rfl)) rfl rfl ?_
              refine Ch.step (v := (.d (.bool (!(decide ((sgB x) = (sgB x))))))) rfl (.pure (.neB _ _ _ _ rfl Try.underlying4 rfl rfl)) rfl rfl ?_
              refine Ch.step (v := (.d (.bool (!(decide ((sgB x) = (sgB x))))))) rfl (.pure (.pickF _ _ _ rfl rfl rfl)) rfl rfl ?_
              refine Ch.nil ?_
              refine T_cond (b := (!(decide ((sgB x) = (sgB x))))) rfl (fun h7 => ?_) (fun h7 => ?_)
              · replace h7 := nott h7
                replace h7 := of_decide_eq_false h7
                refine T_seq ?_
                refine T_region hc ?_
                refine Ch.step (v := (.d (.bool false))) rfl (.pure (.assign _ rfl rfl)) rfl rfl ?_
                refine Ch.nil ?_
                refine T_ret ?_
                refine And.intro (.inr rfl) ?_
                exact Exists.intro [(.d (.bool false))] (Exists.intro [] (Exists.intro [] (And.intro (.cons (.tmp 2 rfl) .nil) (And.intro (.cons (.any _) .nil) (And.intro (Exp.of (congrArg D.bool (by first | rfl | contradiction | (exfalso; omega) | (simp_all; done) | (exfalso; simp_all; omega))) (.d _)) (And.intro rfl rfl))))))
              · replace h7 := notf h7
                replace h7 := of_decide_eq_true h7
                refine T_skip ?_
                refine T_seq ?_
                refine T_region hc ?_
                refine Ch.step (v := (.d (.int .i64 1))) rfl (.pure (.assign _ rfl rfl)) rfl rfl ?_
                refine Ch.nil ?_
                refine T_seq ?_
                refine T_region hc ?_
                refine Ch.step (v := (.row 29000)) rfl (.pure (.move _ rfl rfl)) rfl rfl ?_
                refine Ch.step (v := (.d (.int .i64 1))) rfl (.pure (.move _ rfl rfl)) rfl rfl ?_
                refine Ch.step (v := (.d (.int .i64 ((1 + lenTo (ccV x) (ccV x).length : Nat) : Int)))) rfl (.call 64000 15 _ _ _ en15 rfl (.inl rfl) (.cons (.row rfl) (.cons (.d _) .nil)) rfl (sol rfl (solids_c (solid_row intsU_sol _) rfl)) (sp_laws_markIntSS (ccV x) 1 (by first | assumption | omega | (rw [List.length_take]; omega) | (have := bulkF_mem hb _ (getD_mem (d := default) (by omega)); assumption) | (unfold bulkS at *; omega) | (simp_all; done)) (by first | assumption | omega | (rw [List.length_take]; omega) | (have := bulkF_mem hb _ (getD_mem (d := default) (by omega)); assumption) | (unfold bulkS at *; omega) | (simp_all; done)) (by first | assumption | omega | (rw [List.length_take]; omega) | (have := bulkF_mem hb _ (getD_mem (d := default) (by omega)); assumption) | (unfold bulkS at *; omega) | (simp_all; done))) (.row _ _ _ (.skip _ _ .nil)) rfl) rfl rfl ?_
                refine Ch.step (v := (.d (.int .i64 ((1 + lenTo (ccV x) (ccV x).length : Nat) : Int)))) rfl (.pure (.assign _ rfl rfl)) rfl rfl ?_
                refine Ch.nil ?_
                refine T_seq ?_
                refine T_region hc ?_
                refine Ch.step (v := (.d (.int .i64 1))) rfl (.pure (.assign _ rfl rfl)) rfl rfl ?_
                refine Ch.nil ?_
                refine T_seq ?_
                refine T_region hc ?_
                refine Ch.step (v := (.row 29000)) rfl (.pure (.move _ rfl rfl)) rfl rfl ?_
                refine Ch.step (v := (.d (.int .i64 1))) rfl (.pure (.move _ rfl rfl)) rfl rfl ?_
                refine Ch.step (v := (.d (.int .i64 (hssR (mss 1 (ccV x)) 1)))) rfl (.call 67000 16 _ _ _ en16 rfl (.inl rfl) (.cons (.lend (.row rfl (frozs_to intsU_fz _))) (.cons (.d _) .nil)) rfl rfl (sp_laws_heldIntSS (mss 1 (ccV x)) 1 (by first | assumption | omega | (rw [List.length_take]; omega) | (have := bulkF_mem hb _ (getD_mem (d := default) (by omega)); assumption) | (unfold bulkS at *; omega) | (simp_all; done)) (by first | assumption | omega | (rw [List.length_take]; omega) | (have := bulkF_mem hb _ (getD_mem (d := default) (by omega)); assumption) | (unfold bulkS at *; omega) | (simp_all; done)) (by first | assumption | omega | (rw [List.length_take]; omega) | (have := bulkF_mem hb _ (getD_mem (d := default) (by omega)); assumption) | (unfold bulkS at *; omega) | (simp_all; done))) (.skip _ _ (.skip _ _ .nil)) rfl) rfl rfl ?_
                refine Ch.step (v := (.d (.int .i64 (hssR (mss 1 (ccV x)) 1)))) rfl (.pure (.assign _ rfl rfl)) rfl rfl ?_
                refine Ch.nil ?_
                refine T_seq ?_
                refine T_seq ?_
                refine T_region hc ?_
                refine Ch.step (v := (.d (.int .i64 (hssR (mss 1 (ccV x)) 1)))) rfl (.pure (.move _ rfl rfl)) rfl rfl ?_
                refine Ch.step (v := (.d (.bool (decide ((hssR (mss 1 (ccV x)) 1) < 0))))) rfl (.pure (.int _ _ _ _ _ rfl rfl rfl rfl)) rfl rfl ?_
                refine Ch.nil ?_
                refine T_cond (b := (decide ((hssR (mss 1 (ccV x)) 1) < 0))) rfl (fun h8 => ?_) (fun h8 => ?_)
                · replace h8 := of_decide_eq_true h8
                  refine T_seq ?_
                  refine T_region hc ?_
                  refine Ch.step (v := (.d (.bool false))) rfl (.pure (.assign _ rfl rfl)) rfl rfl ?_
                  refine Ch.nil ?_
                  refine T_ret ?_
                  refine And.intro (.inr rfl) ?_
                  exact Exists.intro [(.d (.bool false))] (Exists.intro [] (Exists.intro [] (And.intro (.cons (.tmp 2 rfl) .nil) (And.intro (.cons (.any _) .nil) (And.intro (Exp.of (congrArg D.bool (by first | rfl | contradiction | (exfalso; omega) | (simp_all; done) | (exfalso; simp_all; omega))) (.d _)) (And.intro rfl rfl))))))
                · replace h8 := of_decide_eq_false h8
                  refine T_skip ?_
                  refine T_seq ?_
                  refine T_seq ?_
                  refine T_region hc ?_
                  refine Ch.step (v := (.d (.int .i64 (hssR (mss 1 (ccV x)) 1)))) rfl (.pure (.move _ rfl rfl)) rfl rfl ?_
                  refine Ch.step (v := (.d (.int .i64 ((1 + lenTo (ccV x) (ccV x).length : Nat) : Int)))) rfl (.pure (.move _ rfl rfl)) rfl rfl ?_
                  refine Ch.step (v := (.d (.bool (!(decide ((hssR (mss 1 (ccV x)) 1) = ((1 + lenTo (ccV x) (ccV x).length : Nat) : Int))))))) rfl (.pure (.int _ _ _ _ _ rfl rfl rfl rfl)) rfl rfl ?_
                  refine Ch.nil ?_
                  refine T_cond (b := (!(decide ((hssR (mss 1 (ccV x)) 1) = ((1 + lenTo (ccV x) (ccV x).length : Nat) : Int))))) rfl (fun h9 => ?_) (fun h9 => ?_)
                  · replace h9 := nott h9
                    replace h9 := of_decide_eq_false h9
                    refine T_seq ?_
                    refine T_region hc ?_
                    refine Ch.step (v := (.d (.bool false))) rfl (.pure (.assign _ rfl rfl)) rfl rfl ?_
                    refine Ch.nil ?_
                    refine T_ret ?_
                    refine And.intro (.inr rfl) ?_
                    exact Exists.intro [(.d (.bool false))] (Exists.intro [] (Exists.intro [] (And.intro (.cons (.tmp 2 rfl) .nil) (And.intro (.cons (.any _) .nil) (And.intro (Exp.of (congrArg D.bool (by first | rfl | contradiction | (exfalso; omega) | (simp_all; done) | (exfalso; simp_all; omega))) (.d _)) (And.intro rfl rfl))))))
                  · replace h9 := notf h9
                    replace h9 := of_decide_eq_true h9
                    refine T_skip ?_
                    refine T_seq ?_
                    refine T_region hc ?_
                    refine Ch.step (v := (.agg [(.d (.slice false 2 (x.sigs.map Sgn.d))), (.d (.slice false 1 (x.codes.map D.str))), (.d (.slice false 4 (x.arcs.map Arc.d)))])) rfl (.pure (.loadPtrA _ _ rfl ag26 sz26 rfl rfl (Nat.le_of_ble_eq_true rfl) rfl)) rfl rfl ?_
                    refine Ch.step (v := (.agg [(.row 75000), (.row 75001), (.row 75002)])) rfl (.call 75000 10 _ _ _ en10 rfl (.inl rfl) (.cons (.lend (.agg (.cons (.d _) (.cons (.d _) (.cons (.d _) .nil))) rfl)) .nil) rfl (sol (Sgr.sol _) rfl) (sp_laws_toStateGraph x (by first | assumption | omega | (rw [List.length_take]; omega) | (have := bulkF_mem hb _ (getD_mem (d := default) (by omega)); assumption) | (unfold bulkS at *; omega) | (simp_all; done))) (.skip _ _ .nil) rfl) rfl rfl ?_
                    refine Ch.step (v := (.tup [(.row 76000), (.d (.bool (sgB x)))])) rfl (.call 76000 11 _ _ _ en11 rfl (.inl rfl) (.cons (.lend (.agg (.cons (.row rfl (frozs_map (fun _ => rfl) _)) (.cons (.row rfl (frozs_map (fun _ => rfl) _)) (.cons (.row rfl (frozs_map (fun _ => rfl) _)) .nil))) rfl)) .nil) rfl (sol (by rw [D.solid]; exact solids_c (solid_row intsU_sol _) rfl) rfl) (sp_impl_CodingConflicts x (by first | assumption | omega | (rw [List.length_take]; omega) | (have := bulkF_mem hb _ (getD_mem (d := default) (by omega)); assumption) | (unfold bulkS at *; omega) | (simp_all; done))) (.skip _ _ .nil) rfl) rfl rfl ?_
                    refine Ch.step (v := (.tup [(.row 76000), (.d (.bool (sgB x)))])) rfl (.pure (.move _ rfl rfl)) rfl rfl ?_
                    refine Ch.step (v := (.row 76000)) rfl (.pure (.extract _ rfl rfl rfl)) rfl rfl ?_
                    refine Ch.step (v := (.d (.bool (sgB x)))) rfl (.pure (.extract _ rfl rfl rfl)) rfl rfl ?_
                    refine Ch.step (v := (.row 76000)) rfl (.pure (.assign _ rfl rfl)) rfl rfl ?_
                    refine Ch.step (v := (.d (.bool (sgB x)))) rfl (.pure (.assign _ rfl rfl)) rfl rfl ?_
                    refine Ch.nil ?_
                    refine T_seq ?_
                    refine T_seq ?_
                    refine T_region hc ?_
                    refine Ch.step (v := (.row 76000)) rfl (.pure (.move _ rfl rfl)) rfl rfl ?_
                    refine Ch.step (v := (.row 22000)) rfl (.pure (.move _ rfl rfl)) rfl rfl ?_
                    refine Ch.step (v := (.d (.bool (decide ((ccV x) = (ccV x)))))) rfl (.call 81000 12 _ _ _ en12 rfl (.inl rfl) (.cons (.lend (.row rfl (frozs_to intsU_fz _))) (.cons (.lend (.row rfl (frozs_to intsU_fz _))) .nil)) rfl rfl (sp_laws_eqIntSS (ccV x) (ccV x) (by first | assumption | omega | (rw [List.length_take]; omega) | (have := bulkF_mem hb _ (getD_mem (d := default) (by omega)); assumption) | (unfold bulkS at *; omega) | (simp_all; done)) (by first | assumption | (exact fun x hx => by have := hss x hx; omega))) (.skip _ _ (.skip _ _ .nil)) rfl) rfl rfl ?_
                    refine Ch.step (v := (.d (.bool (!(decide ((ccV x) = (ccV x))))))) rfl (.pure (.not _ _ rfl rfl)) rfl rfl ?_
                    refine Ch.step (v := (.d (.bool (!(decide ((ccV x) = (ccV x))))))) rfl (.pure (.move _ rfl rfl)) rfl rfl ?_
                    cases h10 : (decide ((ccV x) = (ccV x))) with
                    | true =>
                      replace h10 := of_decide_eq_true h10
                      refine Ch.step (v := (.d (.bool (sgB x)))) rfl (.pure (.move _ rfl rfl)) rfl rfl ?_
                      refine Ch.step (v := (.d (.bool (sgB x)))) rfl (.pure (.move _ rfl rfl)) rfl rfl ?_
                      refine Ch.step (v := (.d (.bool (!(decide ((sgB x) = (sgB x))))))) rfl (.pure (.neB _ _ _ _ rfl Try.underlying4 rfl rfl)) rfl rfl ?_
                      refine Ch.step (v := (.d (.bool (!(decide ((sgB x) = (sgB x))))))) rfl (.pure (.pickF _ _ _ rfl rfl rfl)) rfl rfl ?_
                      refine Ch.nil ?_
                      refine T_cond (b := (!(decide ((sgB x) = (sgB x))))) rfl (fun h11 => ?_) (fun h11 => ?_)
                      · replace h11 := nott h11
                        replace h11 := of_decide_eq_false h11
                        refine T_seq ?_
                        refine T_region hc ?_
                        refine Ch.step (v := (.d (.bool false))) rfl (.pure (.assign _ rfl rfl)) rfl rfl ?_
                        refine Ch.nil ?_
                        refine T_ret ?_
                        refine And.intro (.inr rfl) ?_
                        exact Exists.intro [(.d (.bool false))] (Exists.intro [] (Exists.intro [] (And.intro (.cons (.tmp 2 rfl) .nil) (And.intro (.cons (.any _) .nil) (And.intro (Exp.of (congrArg D.bool (by first | rfl | contradiction | (exfalso; omega) | (simp_all; done) | (exfalso; simp_all; omega))) (.d _)) (And.intro rfl rfl))))))
                      · replace h11 := notf h11
                        replace h11 := of_decide_eq_true h11
                        refine T_skip ?_
                        refine T_seq ?_
                        refine T_region hc ?_
                        refine Ch.step (v := (.d (.int .i64 1))) rfl (.pure (.assign _ rfl rfl)) rfl rfl ?_
                        refine Ch.nil ?_
                        refine T_seq ?_
                        refine T_region hc ?_
                        refine Ch.step (v := (.row 29000)) rfl (.pure (.move _ rfl rfl)) rfl rfl ?_
                        refine Ch.step (v := (.d (.int .i64 1))) rfl (.pure (.move _ rfl rfl)) rfl rfl ?_
                        refine Ch.step (v := (.d (.int .i64 (hssR (mss 1 (ccV x)) 1)))) rfl (.call 90000 16 _ _ _ en16 rfl (.inl rfl) (.cons (.lend (.row rfl (frozs_to intsU_fz _))) (.cons (.d _) .nil)) rfl rfl (sp_laws_heldIntSS (mss 1 (ccV x)) 1 (by first | assumption | omega | (rw [List.length_take]; omega) | (have := bulkF_mem hb _ (getD_mem (d := default) (by omega)); assumption) | (unfold bulkS at *; omega) | (simp_all; done)) (by first | assumption | omega | (rw [List.length_take]; omega) | (have := bulkF_mem hb _ (getD_mem (d := default) (by omega)); assumption) | (unfold bulkS at *; omega) | (simp_all; done)) (by first | assumption | omega | (rw [List.length_take]; omega) | (have := bulkF_mem hb _ (getD_mem (d := default) (by omega)); assumption) | (unfold bulkS at *; omega) | (simp_all; done))) (.skip _ _ (.skip _ _ .nil)) rfl) rfl rfl ?_
                        refine Ch.step (v := (.d (.int .i64 (hssR (mss 1 (ccV x)) 1)))) rfl (.pure (.assign _ rfl rfl)) rfl rfl ?_
                        refine Ch.nil ?_
                        refine T_seq ?_
                        refine T_seq ?_
                        refine T_region hc ?_
                        refine Ch.step (v := (.d (.int .i64 (hssR (mss 1 (ccV x)) 1)))) rfl (.pure (.move _ rfl rfl)) rfl rfl ?_
                        refine Ch.step (v := (.d (.bool (decide ((hssR (mss 1 (ccV x)) 1) < 0))))) rfl (.pure (.int _ _ _ _ _ rfl rfl rfl rfl)) rfl rfl ?_
                        refine Ch.nil ?_
                        refine T_cond (b := (decide ((hssR (mss 1 (ccV x)) 1) < 0))) rfl (fun h12 => ?_) (fun h12 => ?_)
                        · replace h12 := of_decide_eq_true h12
                          refine T_seq ?_
                          refine T_region hc ?_
                          refine Ch.step (v := (.d (.bool false))) rfl (.pure (.assign _ rfl rfl)) rfl rfl ?_
                          refine Ch.nil ?_
                          refine T_ret ?_
                          refine And.intro (.inr rfl) ?_
                          exact Exists.intro [(.d (.bool false))] (Exists.intro [] (Exists.intro [] (And.intro (.cons (.tmp 2 rfl) .nil) (And.intro (.cons (.any _) .nil) (And.intro (Exp.of (congrArg D.bool (by first | rfl | contradiction | (exfalso; omega) | (simp_all; done) | (exfalso; simp_all; omega))) (.d _)) (And.intro rfl rfl))))))
                        · replace h12 := of_decide_eq_false h12
                          refine T_skip ?_
                          refine T_seq ?_
                          refine T_seq ?_
                          refine T_region hc ?_
                          refine Ch.step (v := (.d (.int .i64 (hssR (mss 1 (ccV x)) 1)))) rfl (.pure (.move _ rfl rfl)) rfl rfl ?_
                          refine Ch.step (v := (.d (.int .i64 ((1 + lenTo (ccV x) (ccV x).length : Nat) : Int)))) rfl (.pure (.move _ rfl rfl)) rfl rfl ?_
                          refine Ch.step (v := (.d (.bool (!(decide ((hssR (mss 1 (ccV x)) 1) = ((1 + lenTo (ccV x) (ccV x).length : Nat) : Int))))))) rfl (.pure (.int _ _ _ _ _ rfl rfl rfl rfl)) rfl rfl ?_
                          refine Ch.nil ?_
                          refine T_cond (b := (!(decide ((hssR (mss 1 (ccV x)) 1) = ((1 + lenTo (ccV x) (ccV x).length : Nat) : Int))))) rfl (fun h13 => ?_) (fun h13 => ?_)
                          · replace h13 := nott h13
                            replace h13 := of_decide_eq_false h13
                            refine T_seq ?_
                            refine T_region hc ?_
                            refine Ch.step (v := (.d (.bool false))) rfl (.pure (.assign _ rfl rfl)) rfl rfl ?_
                            refine Ch.nil ?_
                            refine T_ret ?_
                            refine And.intro (.inr rfl) ?_
                            exact Exists.intro [(.d (.bool false))] (Exists.intro [] (Exists.intro [] (And.intro (.cons (.tmp 2 rfl) .nil) (And.intro (.cons (.any _) .nil) (And.intro (Exp.of (congrArg D.bool (by first | rfl | contradiction | (exfalso; omega) | (simp_all; done) | (exfalso; simp_all; omega))) (.d _)) (And.intro rfl rfl))))))
                          · replace h13 := notf h13
                            replace h13 := of_decide_eq_true h13
                            refine T_skip ?_
                            refine T_seq ?_
                            refine T_region hc ?_
                            refine Ch.step (v := (.d (.bool true))) rfl (.pure (.assign _ rfl rfl)) rfl rfl ?_
                            refine Ch.nil ?_
                            refine T_ret ?_
                            refine And.intro (.inr rfl) ?_
                            exact Exists.intro [(.d (.bool true))] (Exists.intro [] (Exists.intro [] (And.intro (.cons (.tmp 2 rfl) .nil) (And.intro (.cons (.any _) .nil) (And.intro (.d _) (And.intro rfl rfl))))))
                    | false =>
                      replace h10 := of_decide_eq_false h10
                      refine Ch.skip rfl rfl ?_
                      refine Ch.skip rfl rfl ?_
                      refine Ch.skip rfl rfl ?_
                      refine Ch.step (v := (.d (.bool true))) rfl (.pure (.pickT _ _ _ rfl rfl rfl)) rfl rfl ?_
                      refine Ch.nil ?_
                      refine T_cond (b := true) rfl (fun _ => ?_) (fun h => nomatch h)
                      refine T_seq ?_
                      refine T_region hc ?_
                      refine Ch.step (v := (.d (.bool false))) rfl (.pure (.assign _ rfl rfl)) rfl rfl ?_
                      refine Ch.nil ?_
                      refine T_ret ?_
                      refine And.intro (.inr rfl) ?_
                      exact Exists.intro [(.d (.bool false))] (Exists.intro [] (Exists.intro [] (And.intro (.cons (.tmp 2 rfl) .nil) (And.intro (.cons (.any _) .nil) (And.intro (Exp.of (congrArg D.bool (by first | rfl | contradiction | (exfalso; omega) | (simp_all; done) | (exfalso; simp_all; omega))) (.d _)) (And.intro rfl rfl))))))
            | false =>
              replace h6 := of_decide_eq_false h6
              refine Ch.skip rfl rfl ?_
              refine Ch.skip rfl rfl ?_
              refine Ch.skip rfl rfl ?_
              refine Ch.step (v := (.d (.bool true))) rfl (.pure (.pickT _ _ _ rfl rfl rfl)) rfl rfl ?_
              refine Ch.nil ?_
              refine T_cond (b := true) rfl (fun _ => ?_) (fun h => nomatch h)
              refine T_seq ?_
              refine T_region hc ?_
              refine Ch.step (v := (.d (.bool false))) rfl (.pure (.assign _ rfl rfl)) rfl rfl ?_
              refine Ch.nil ?_
              refine T_ret ?_
              refine And.intro (.inr rfl) ?_
              exact Exists.intro [(.d (.bool false))] (Exists.intro [] (Exists.intro [] (And.intro (.cons (.tmp 2 rfl) .nil) (And.intro (.cons (.any _) .nil) (And.intro (Exp.of (congrArg D.bool (by first | rfl | contradiction | (exfalso; omega) | (simp_all; done) | (exfalso; simp_all; omega))) (.d _)) (And.intro rfl rfl))))))
    | false =>
      replace h2 := of_decide_eq_false h2
      refine Ch.skip rfl rfl ?_
      refine Ch.skip rfl rfl ?_
      refine Ch.skip rfl rfl ?_
      refine Ch.step (v := (.d (.bool true))) rfl (.pure (.pickT _ _ _ rfl rfl rfl)) rfl rfl ?_
      refine Ch.nil ?_
      refine T_cond (b := true) rfl (fun _ => ?_) (fun h => nomatch h)
      refine T_seq ?_
      refine T_region hc ?_
      refine Ch.step (v := (.d (.bool false))) rfl (.pure (.assign _ rfl rfl)) rfl rfl ?_
      refine Ch.nil ?_
      refine T_ret ?_
      refine And.intro (.inr rfl) ?_
      exact Exists.intro [(.d (.bool false))] (Exists.intro [] (Exists.intro [] (And.intro (.cons (.tmp 2 rfl) .nil) (And.intro (.cons (.any _) .nil) (And.intro (Exp.of (congrArg D.bool (by first | rfl | contradiction | (exfalso; omega) | (simp_all; done) | (exfalso; simp_all; omega))) (.d _)) (And.intro rfl rfl))))))

end Go.AM
