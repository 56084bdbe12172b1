/-
  The contracts that the law FnExactExcitationRegions needs.
-/
import Derived.Test.YtnmlcebejnlikaaGreatZExcitationRegions3
import Derived.Test.YtnmlcebejnlikaaGreatSh
namespace Go.AM
open Go.Proofs
set_option linter.unusedVariables false
set_option linter.unusedSimpArgs false

theorem sp_spec_l6Why (x : Sgr) (hb : x.bulk ≤ 1048576) (hx : SgOk x) : Sp Tryz.prog 94 [(.agg [(.slice false 2 (x.sigs.map Sgn.d)), (.slice false 1 (x.codes.map D.str)), (.slice false 4 (x.arcs.map Arc.d))])] [.any] (.str (whyW x)) := by
 refine Sp_intro (lend := true) Tryz.func94 rfl rfl rfl (fun _ => rfl) (fun c hc hX => ?_)
 obtain ⟨hp0, hp1, hp2⟩ := Sgr.parts hb
 have hn0 := bulkF_len hp0
 have hn1 := bulk_len hp1
 have hx1 := bulk_mem hp1
 have hn2 := bulkF_len hp2; have hx8 := hx.eight; have hxl := hx.len; have hxf := hx.few; have hen := hx.ends
 refine T_seq (T_region hc (Ch.s (.ptr 1000 0) (.box 1000 _ _ rfl (.aggD _)) (Ch.s (.d (.str [])) pa (Ch.nil (T_seq (T_block (T_seq ?_)))))))
 refine T_region hc (Ch.s (.agg [(.d (.slice false 2 (x.sigs.map Sgn.d))), (.d (.slice false 1 (x.codes.map D.str))), (.d (.slice false 4 (x.arcs.map Arc.d)))]) (.pure (.loadPtrA _ _ rfl ag35 sz35 rfl rfl (Nat.le_of_ble_eq_true rfl) rfl)) (Ch.s (.d (.bool (hidB x))) (.call 5000 166 _ _ _ en166 rfl (.inl rfl) (.cons (.lend (.agg (.cons (.d _) (.cons (.d _) (.cons (.d _) .nil))) rfl)) .nil) rfl rfl (sp_spec_l6Hidden x (by first | assumption | omega | (rw [List.length_take]; omega) | (have := bulkF_mem hb _ (getD_mem (d := default) (by omega)); assumption) | (unfold bulkS at *; omega) | (simp_all; done)) (by assumption)) (.skip _ _ .nil) rfl) (Ch.s (.d (.bool (hidB x))) pa (Ch.nil ?_))))
 refine T_cond (b := (hidB x)) rfl (fun h1 => ?_) (fun h1 => ?_)
 ·
  refine T_seq (T_region hc (Ch.s (.d (.str [104, 105, 100, 100, 101, 110])) pa (Ch.nil (T_ret ?_))))
  exact endR [(.d (.str [104, 105, 100, 100, 101, 110]))] [] [] (.cons (.tmp 2 rfl) .nil) (.cons (.any _) .nil) (Exp.of (congrArg D.str (by first | (rw [why_hid h1]; done) | (rw [why_two h1 h2]; done) | (rw [why_brk h1 h2 h3]; done) | (rw [why_cf h1 h2 h3 h4]; done) | (rw [why_made h1 h2 h3 h4]; done))) (.d _)) rfl rfl
 ·
  refine T_seq (T_region hc (Ch.s (.agg [(.d (.slice false 2 (x.sigs.map Sgn.d))), (.d (.slice false 1 (x.codes.map D.str))), (.d (.slice false 4 (x.arcs.map Arc.d)))]) (.pure (.loadPtrA _ _ rfl ag35 sz35 rfl rfl (Nat.le_of_ble_eq_true rfl) rfl)) ?_))
  refine Ch.step (v := (.row 8000)) rfl (.call 8000 167 _ _ _ en167 rfl (.inl rfl) (.cons (.lend (.agg (.cons (.d _) (.cons (.d _) (.cons (.d _) .nil))) rfl)) .nil) rfl (sol (solid_row intsU_sol _) rfl) (sp_spec_l6Ways x (by first | assumption | omega | (rw [List.length_take]; omega) | (have := bulkF_mem hb _ (getD_mem (d := default) (by omega)); assumption) | (unfold bulkS at *; omega) | (simp_all; done)) (by assumption)) (.skip _ _ .nil) rfl) rfl rfl ?_
  refine Ch.s (.d (.int .i64 (((twL x).length : Nat) : Int))) (.pure (.len _ _ 55 rfl Tryz.underlying49 (.row rfl) (by simp))) (Ch.s (.d (.bool (decide (0 < (((twL x).length : Nat) : Int))))) (.pure (.int _ _ _ _ _ rfl rfl rfl rfl)) (Ch.s (.d (.bool (decide (0 < (((twL x).length : Nat) : Int))))) pa (Ch.nil ?_)))
  refine T_cond (b := (decide (0 < (((twL x).length : Nat) : Int)))) rfl (fun h2 => ?_) (fun h2 => ?_)
  ·
   replace h2 := of_decide_eq_true h2
   refine T_seq (T_region hc (Ch.s (.d (.str [116, 119, 111, 32, 119, 97, 121, 115])) pa (Ch.nil (T_ret ?_))))
   exact endR [(.d (.str [116, 119, 111, 32, 119, 97, 121, 115]))] [] [] (.cons (.tmp 2 rfl) .nil) (.cons (.any _) .nil) (Exp.of (congrArg D.str (by first | (rw [why_hid h1]; done) | (rw [why_two h1 h2]; done) | (rw [why_brk h1 h2 h3]; done) | (rw [why_cf h1 h2 h3 h4]; done) | (rw [why_made h1 h2 h3 h4]; done))) (.d _)) rfl rfl
  ·
   replace h2 := of_decide_eq_false h2
   refine T_seq (T_region hc (Ch.s (.agg [(.d (.slice false 2 (x.sigs.map Sgn.d))), (.d (.slice false 1 (x.codes.map D.str))), (.d (.slice false 4 (x.arcs.map Arc.d)))]) (.pure (.loadPtrA _ _ rfl ag35 sz35 rfl rfl (Nat.le_of_ble_eq_true rfl) rfl)) ?_))
   refine Ch.step (v := (.row 13000)) rfl (.call 13000 168 _ _ _ en168 rfl (.inl rfl) (.cons (.lend (.agg (.cons (.d _) (.cons (.d _) (.cons (.d _) .nil))) rfl)) .nil) rfl (sol (solid_row (fun _ => rfl) _) rfl) (sp_spec_l6Breaks x (by first | assumption | omega | (rw [List.length_take]; omega) | (have := bulkF_mem hb _ (getD_mem (d := default) (by omega)); assumption) | (unfold bulkS at *; omega) | (simp_all; done)) (by assumption)) (.skip _ _ .nil) rfl) rfl rfl ?_
   refine Ch.s (.d (.int .i64 (((pvL x).length : Nat) : Int))) (.pure (.len _ _ 216 rfl Tryz.underlying175 (.row rfl) (by simp))) (Ch.s (.d (.bool (decide (0 < (((pvL x).length : Nat) : Int))))) (.pure (.int _ _ _ _ _ rfl rfl rfl rfl)) (Ch.s (.d (.bool (decide (0 < (((pvL x).length : Nat) : Int))))) pa (Ch.nil ?_)))
   refine T_cond (b := (decide (0 < (((pvL x).length : Nat) : Int)))) rfl (fun h3 => ?_) (fun h3 => ?_)
   ·
    replace h3 := of_decide_eq_true h3
    refine T_seq (T_region hc (Ch.s (.d (.str [98, 114, 101, 97, 107])) pa (Ch.nil (T_ret ?_))))
    exact endR [(.d (.str [98, 114, 101, 97, 107]))] [] [] (.cons (.tmp 2 rfl) .nil) (.cons (.any _) .nil) (Exp.of (congrArg D.str (by first | (rw [why_hid h1]; done) | (rw [why_two h1 h2]; done) | (rw [why_brk h1 h2 h3]; done) | (rw [why_cf h1 h2 h3 h4]; done) | (rw [why_made h1 h2 h3 h4]; done))) (.d _)) rfl rfl
   ·
    replace h3 := of_decide_eq_false h3
    refine T_seq (T_region hc (Ch.s (.agg [(.d (.slice false 2 (x.sigs.map Sgn.d))), (.d (.slice false 1 (x.codes.map D.str))), (.d (.slice false 4 (x.arcs.map Arc.d)))]) (.pure (.loadPtrA _ _ rfl ag35 sz35 rfl rfl (Nat.le_of_ble_eq_true rfl) rfl)) ?_))
    refine Ch.step (v := (.row 18000)) rfl (.call 18000 169 _ _ _ en169 rfl (.inl rfl) (.cons (.lend (.agg (.cons (.d _) (.cons (.d _) (.cons (.d _) .nil))) rfl)) .nil) rfl (sol (solid_row intsU_sol _) rfl) (sp_spec_l6Conflicts x (by first | assumption | omega | (rw [List.length_take]; omega) | (have := bulkF_mem hb _ (getD_mem (d := default) (by omega)); assumption) | (unfold bulkS at *; omega) | (simp_all; done)) (by assumption)) (.skip _ _ .nil) rfl) rfl rfl ?_
    refine Ch.s (.d (.int .i64 (((cfL x).length : Nat) : Int))) (.pure (.len _ _ 55 rfl Tryz.underlying49 (.row rfl) (by simp))) (Ch.s (.d (.bool (decide (0 < (((cfL x).length : Nat) : Int))))) (.pure (.int _ _ _ _ _ rfl rfl rfl rfl)) (Ch.s (.d (.bool (decide (0 < (((cfL x).length : Nat) : Int))))) pa (Ch.nil ?_)))
    refine T_cond (b := (decide (0 < (((cfL x).length : Nat) : Int)))) rfl (fun h4 => ?_) (fun h4 => ?_)
    ·
     replace h4 := of_decide_eq_true h4
     refine T_seq (T_region hc (Ch.s (.d (.str [99, 111, 110, 102, 108, 105, 99, 116])) pa (Ch.nil (T_ret ?_))))
     exact endR [(.d (.str [99, 111, 110, 102, 108, 105, 99, 116]))] [] [] (.cons (.tmp 2 rfl) .nil) (.cons (.any _) .nil) (Exp.of (congrArg D.str (by first | (rw [why_hid h1]; done) | (rw [why_two h1 h2]; done) | (rw [why_brk h1 h2 h3]; done) | (rw [why_cf h1 h2 h3 h4]; done) | (rw [why_made h1 h2 h3 h4]; done))) (.d _)) rfl rfl
    ·
     replace h4 := of_decide_eq_false h4
     refine T_skip (T_seq (T_region hc (Ch.s (.d (.str [109, 97, 100, 101])) pa (Ch.nil (T_ret ?_)))))
     exact endR [(.d (.str [109, 97, 100, 101]))] [] [] (.cons (.tmp 2 rfl) .nil) (.cons (.any _) .nil) (Exp.of (congrArg D.str (by first | (rw [why_hid h1]; done) | (rw [why_two h1 h2]; done) | (rw [why_brk h1 h2 h3]; done) | (rw [why_cf h1 h2 h3 h4]; done) | (rw [why_made h1 h2 h3 h4]; done))) (.d _)) rfl rfl

def whyV (x : Sgr) : List UInt8 := if sgB x then whyW x else []

theorem whyV_made (x : Sgr) : decide (whyV x = [109, 97, 100, 101]) = madeB x := by
  unfold whyV madeB
  cases sgB x
  · rfl
  · rw [if_pos rfl, Bool.true_and]

theorem made_ok {x : Sgr} (h : madeB x = true) : SgOk x := by
 unfold madeB at h; rw [Bool.and_eq_true] at h; exact sg_has h.1

theorem sp_impl_Diagnose (x : Sgr) (hb : x.bulk ≤ 1048576) : Sp Tryz.prog 222 [(.agg [(.slice false 2 (x.sigs.map Sgn.d)), (.slice false 1 (x.codes.map D.str)), (.slice false 4 (x.arcs.map Arc.d))])] [.any] (.tup [(.str (whyV x)), (.bool (sgB x))]) := by
 refine Sp_intro (lend := true) Tryz.func222 rfl rfl rfl (fun _ => rfl) (fun c hc hX => ?_)
 obtain ⟨hp0, hp1, hp2⟩ := Sgr.parts hb
 have hn0 := bulkF_len hp0
 have hn1 := bulk_len hp1
 have hx1 := bulk_mem hp1
 have hn2 := bulkF_len hp2
 refine T_seq (T_region hc (Ch.s (.ptr 1000 0) (.box 1000 _ _ rfl (.aggD _)) (Ch.s (.d (.str [])) pa (Ch.s (.d (.bool false)) pa (Ch.nil (T_seq (T_seq ?_)))))))
 refine T_region hc (Ch.s (.agg [(.d (.slice false 2 (x.sigs.map Sgn.d))), (.d (.slice false 1 (x.codes.map D.str))), (.d (.slice false 4 (x.arcs.map Arc.d)))]) (.pure (.loadPtrA _ _ rfl ag35 sz35 rfl rfl (Nat.le_of_ble_eq_true rfl) rfl)) (Ch.s (.d (.bool (sgB x))) (.call 5000 120 _ _ _ en120 rfl (.inl rfl) (.cons (.lend (.agg (.cons (.d _) (.cons (.d _) (.cons (.d _) .nil))) rfl)) .nil) rfl rfl (sp_impl_IsValidStateGraph x (by first | assumption | omega | (rw [List.length_take]; omega) | (have := bulkF_mem hb _ (getD_mem (d := default) (by omega)); assumption) | (unfold bulkS at *; omega) | (simp_all; done))) (.skip _ _ .nil) rfl) (Ch.s (.d (.bool (!(sgB x)))) (.pure (.not _ _ rfl rfl)) (Ch.nil ?_))))
 refine T_cond (b := (!(sgB x))) rfl (fun h1 => ?_) (fun h1 => ?_)
 ·
  replace h1 := nott h1
  try have hx := sg_has h1
  refine T_seq (T_region hc (Ch.s (.d (.str [])) pa (Ch.s (.d (.bool false)) pa (Ch.nil (T_ret ?_)))))
  exact endR [(.d (.str [])), (.d (.bool false))] [] [] (.cons (.tmp 2 rfl) (.cons (.tmp 3 rfl) .nil)) (.cons (.any _) .nil) (.tup (.cons (Exp.of (congrArg D.str (by first | (rw [whyV, h1]; rfl) | (rw [h1]; done))) (.d _)) (.cons (Exp.of (congrArg D.bool (by first | (rw [whyV, h1]; rfl) | (rw [h1]; done))) (.d _)) .nil))) rfl rfl
 ·
  replace h1 := notf h1
  try have hx := sg_has h1
  refine T_skip (T_seq (T_region hc (Ch.s (.agg [(.d (.slice false 2 (x.sigs.map Sgn.d))), (.d (.slice false 1 (x.codes.map D.str))), (.d (.slice false 4 (x.arcs.map Arc.d)))]) (.pure (.loadPtrA _ _ rfl ag35 sz35 rfl rfl (Nat.le_of_ble_eq_true rfl) rfl)) (Ch.s (.d (.str (whyW x))) (.call 8000 258 _ _ _ en258 rfl (.inl rfl) (.cons (.lend (.agg (.cons (.d _) (.cons (.d _) (.cons (.d _) .nil))) rfl)) .nil) rfl rfl (sp_impl_diagnosis x (by first | assumption | omega | (rw [List.length_take]; omega) | (have := bulkF_mem hb _ (getD_mem (d := default) (by omega)); assumption) | (unfold bulkS at *; omega) | (simp_all; done)) (by assumption)) (.skip _ _ .nil) rfl) (Ch.s (.d (.str (whyW x))) pa (Ch.s (.d (.bool true)) pa (Ch.nil ?_)))))))
  refine T_ret ?_
  exact endR [(.d (.str (whyW x))), (.d (.bool true))] [] [] (.cons (.tmp 2 rfl) (.cons (.tmp 3 rfl) .nil)) (.cons (.any _) .nil) (.tup (.cons (Exp.of (congrArg D.str (by first | (rw [whyV, h1]; rfl) | (rw [h1]; done))) (.d _)) (.cons (Exp.of (congrArg D.bool (by first | (rw [whyV, h1]; rfl) | (rw [h1]; done))) (.d _)) .nil))) rfl rfl

theorem sp_impl_IsImplementable (x : Sgr) (hb : x.bulk ≤ 1048576) : Sp Tryz.prog 171 [(.agg [(.slice false 2 (x.sigs.map Sgn.d)), (.slice false 1 (x.codes.map D.str)), (.slice false 4 (x.arcs.map Arc.d))])] [.any] (.tup [(.bool (madeB x)), (.bool (sgB x))]) := by
 refine Sp_intro (lend := true) Tryz.func171 rfl rfl rfl (fun _ => rfl) (fun c hc hX => ?_)
 obtain ⟨hp0, hp1, hp2⟩ := Sgr.parts hb
 have hn0 := bulkF_len hp0
 have hn1 := bulk_len hp1
 have hx1 := bulk_mem hp1
 have hn2 := bulkF_len hp2
 refine T_seq (T_region hc (Ch.s (.ptr 1000 0) (.box 1000 _ _ rfl (.aggD _)) (Ch.s (.d (.bool false)) pa (Ch.s (.d (.bool false)) pa (Ch.nil (T_seq (T_region hc ?_)))))))
 refine Ch.s (.agg [(.d (.slice false 2 (x.sigs.map Sgn.d))), (.d (.slice false 1 (x.codes.map D.str))), (.d (.slice false 4 (x.arcs.map Arc.d)))]) (.pure (.loadPtrA _ _ rfl ag35 sz35 rfl rfl (Nat.le_of_ble_eq_true rfl) rfl)) (Ch.s (.tup [(.d (.str (whyV x))), (.d (.bool (sgB x)))]) (.call 8000 222 _ _ _ en222 rfl (.inl rfl) (.cons (.lend (.agg (.cons (.d _) (.cons (.d _) (.cons (.d _) .nil))) rfl)) .nil) rfl rfl (sp_impl_Diagnose x (by first | assumption | omega | (rw [List.length_take]; omega) | (have := bulkF_mem hb _ (getD_mem (d := default) (by omega)); assumption) | (unfold bulkS at *; omega) | (simp_all; done))) (.skip _ _ .nil) rfl) (Ch.s (.tup [(.d (.str (whyV x))), (.d (.bool (sgB x)))]) pm (Ch.s (.d (.str (whyV x))) (.pure (.extract _ rfl rfl rfl)) (Ch.s (.d (.bool (sgB x))) (.pure (.extract _ rfl rfl rfl)) (Ch.s (.d (.str (whyV x))) pa (Ch.s (.d (.bool (sgB x))) pa (Ch.nil ?_)))))))
 refine T_seq (T_region hc (Ch.s (.d (.str (whyV x))) pm (Ch.s (.d (.bool (decide ((whyV x) = [109, 97, 100, 101])))) (.pure (.str _ _ _ _ _ rfl rfl rfl rfl)) (Ch.s (.d (.bool (sgB x))) pm (Ch.s (.d (.bool (decide ((whyV x) = [109, 97, 100, 101])))) pa (Ch.s (.d (.bool (sgB x))) pa (Ch.nil ?_)))))))
 refine T_ret ?_
 exact endR [(.d (.bool (decide ((whyV x) = [109, 97, 100, 101])))), (.d (.bool (sgB x)))] [] [] (.cons (.tmp 2 rfl) (.cons (.tmp 3 rfl) .nil)) (.cons (.any _) .nil) (.tup (.cons (Exp.of (congrArg D.bool (by first | rfl | (rw [whyV_made]; done) | (exact whyV_made x))) (.d _)) (.cons (.d _) .nil))) rfl rfl

theorem sp_impl_isMade (x : Sgr) (hb : x.bulk ≤ 1048576) : Sp Tryz.prog 111 [(.agg [(.slice false 2 (x.sigs.map Sgn.d)), (.slice false 1 (x.codes.map D.str)), (.slice false 4 (x.arcs.map Arc.d))])] [.any] (.bool (madeB x)) := by
 refine Sp_intro (lend := true) Tryz.func111 rfl rfl rfl (fun _ => rfl) (fun c hc hX => ?_)
 obtain ⟨hp0, hp1, hp2⟩ := Sgr.parts hb
 have hn0 := bulkF_len hp0
 have hn1 := bulk_len hp1
 have hx1 := bulk_mem hp1
 have hn2 := bulkF_len hp2
 refine T_seq (T_region hc (Ch.s (.ptr 1000 0) (.box 1000 _ _ rfl (.aggD _)) (Ch.s (.d (.bool false)) pa (Ch.nil (T_seq (T_region hc (Ch.s (.agg [(.d (.slice false 2 (x.sigs.map Sgn.d))), (.d (.slice false 1 (x.codes.map D.str))), (.d (.slice false 4 (x.arcs.map Arc.d)))]) (.pure (.loadPtrA _ _ rfl ag35 sz35 rfl rfl (Nat.le_of_ble_eq_true rfl) rfl)) ?_)))))))
 refine Ch.s (.tup [(.d (.bool (madeB x))), (.d (.bool (sgB x)))]) (.call 7000 171 _ _ _ en171 rfl (.inl rfl) (.cons (.lend (.agg (.cons (.d _) (.cons (.d _) (.cons (.d _) .nil))) rfl)) .nil) rfl rfl (sp_impl_IsImplementable x (by first | assumption | omega | (rw [List.length_take]; omega) | (have := bulkF_mem hb _ (getD_mem (d := default) (by omega)); assumption) | (unfold bulkS at *; omega) | (simp_all; done))) (.skip _ _ .nil) rfl) (Ch.s (.tup [(.d (.bool (madeB x))), (.d (.bool (sgB x)))]) pm (Ch.s (.d (.bool (madeB x))) (.pure (.extract _ rfl rfl rfl)) (Ch.s (.d (.bool (sgB x))) (.pure (.extract _ rfl rfl rfl)) (Ch.s (.d (.bool (madeB x))) pa (Ch.s (.d (.bool (sgB x))) pa (Ch.nil (T_seq ?_)))))))
 refine T_region hc (Ch.s (.d (.bool (sgB x))) pm (Ch.s (.d (.bool (sgB x))) pm ?_))
 cases h1 : (sgB x) with
 | true =>
  refine Ch.s (.d (.bool (madeB x))) pm (Ch.s (.d (.bool (madeB x))) (.pure (.pickT _ _ _ rfl rfl rfl)) (Ch.s (.d (.bool (madeB x))) pa (Ch.nil (T_ret ?_))))
  exact endR [(.d (.bool (madeB x)))] [] [] (.cons (.tmp 2 rfl) .nil) (.cons (.any _) .nil) (.d _) rfl rfl
 | false =>
  refine Ch.skip rfl rfl (Ch.s (.d (.bool false)) (.pure (.pickF _ _ _ rfl rfl rfl)) (Ch.s (.d (.bool false)) pa (Ch.nil (T_ret ?_))))
  exact endR [(.d (.bool false))] [] [] (.cons (.tmp 2 rfl) .nil) (.cons (.any _) .nil) (Exp.of (congrArg D.bool (by first | (unfold madeB; rw [h1]; rfl) | (simp_all [madeB]; done))) (.d _)) rfl rfl

theorem en111 : Enters Tryz.prog 111 := ⟨_, Tryz.func111, by kernel_rfl, rfl⟩

theorem en94 : Enters Tryz.prog 94 := ⟨_, Tryz.func94, by kernel_rfl, rfl⟩

theorem en153 : Enters Tryz.prog 153 := ⟨_, Tryz.func153, by kernel_rfl, rfl⟩

theorem en154 : Enters Tryz.prog 154 := ⟨_, Tryz.func154, by kernel_rfl, rfl⟩

theorem en192 : Enters Tryz.prog 192 := ⟨_, Tryz.func192, by kernel_rfl, rfl⟩

theorem en216 : Enters Tryz.prog 216 := ⟨_, Tryz.func216, by kernel_rfl, rfl⟩

theorem en215 : Enters Tryz.prog 215 := ⟨_, Tryz.func215, by kernel_rfl, rfl⟩

theorem en156 : Enters Tryz.prog 156 := ⟨_, Tryz.func156, by kernel_rfl, rfl⟩

theorem en155 : Enters Tryz.prog 155 := ⟨_, Tryz.func155, by kernel_rfl, rfl⟩

theorem en87 : Enters Tryz.prog 87 := ⟨_, Tryz.func87, by kernel_rfl, rfl⟩

theorem en88 : Enters Tryz.prog 88 := ⟨_, Tryz.func88, by kernel_rfl, rfl⟩

theorem en85 : Enters Tryz.prog 85 := ⟨_, Tryz.func85, by kernel_rfl, rfl⟩

theorem en86 : Enters Tryz.prog 86 := ⟨_, Tryz.func86, by kernel_rfl, rfl⟩

theorem en32 : Enters Tryz.prog 32 := ⟨_, Tryz.func32, by kernel_rfl, rfl⟩

theorem en33 : Enters Tryz.prog 33 := ⟨_, Tryz.func33, by kernel_rfl, rfl⟩

theorem en34 : Enters Tryz.prog 34 := ⟨_, Tryz.func34, by kernel_rfl, rfl⟩

theorem en35 : Enters Tryz.prog 35 := ⟨_, Tryz.func35, by kernel_rfl, rfl⟩

theorem en36 : Enters Tryz.prog 36 := ⟨_, Tryz.func36, by kernel_rfl, rfl⟩

def revA (a : Arc) : Arc := { a with src := a.dst, dst := a.src }

def two2 (l : List Arc) : List Arc := l.flatMap fun a => [a, revA a]

theorem two2_mem {l : List Arc} {e : Arc} : e ∈ two2 l ↔ ∃ a ∈ l, e = a ∨ e = revA a := by
 unfold two2
 rw [List.mem_flatMap]
 simp

theorem two2_ends {n : Nat} {l : List Arc} (h : ends n l) : ends n (two2 l) := by
  intro e he
  obtain ⟨a, ha, rfl | rfl⟩ := two2_mem.1 he
  · exact h _ ha
  · exact ⟨(h _ ha).2, (h _ ha).1⟩

def inb (S : List Int) (a : Arc) : Bool := hasI S a.src && hasI S a.dst

theorem inb_rev (S : List Int) (a : Arc) : inb S (revA a) = inb S a := Bool.and_comm _ _

def Cn (S : List Int) (l : List Arc) (a b : Int) : Prop := Rch (arcE (inb S) (two2 l)) (fun c => c = a) b

theorem Cn.refl {S : List Int} {l : List Arc} {a : Int} : Cn S l a a := .base rfl

theorem Cn.trans {S : List Int} {l : List Arc} {a b c : Int} (h : Cn S l a b) (k : Cn S l b c) : Cn S l a c := Rch.ind (fun c => Cn S l a c) (fun c e => by rw [e]; exact h) (fun _ _ h e => .step h e) k

theorem cn_edge {S : List Int} {l : List Arc} {a b : Int} (h : arcE (inb S) (two2 l) a b) : arcE (inb S) (two2 l) b a := by
  obtain ⟨e, he, rfl, rfl, hp⟩ := h
  refine ⟨revA e, ?_, rfl, rfl, by rw [inb_rev]; exact hp⟩
  obtain ⟨a, ha, rfl | rfl⟩ := two2_mem.1 he
  · exact two2_mem.2 ⟨_, ha, .inr rfl⟩
  · exact two2_mem.2 ⟨_, ha, .inl rfl⟩

theorem Cn.symm {S : List Int} {l : List Arc} {a b : Int} (h : Cn S l a b) : Cn S l b a :=
 Rch.ind (fun b => Cn S l b a) (fun b e => by rw [e]; exact Cn.refl) (fun _ _ h e => Cn.trans (Rch.step Cn.refl (cn_edge e)) h) h

theorem Cn.inS {S : List Int} {l : List Arc} {a b : Int} (h : Cn S l a b) : a ∈ S ↔ b ∈ S :=
 Rch.ind (fun b => a ∈ S ↔ b ∈ S) (fun b e => by rw [e]) (fun c d h e => by
  obtain ⟨e, _, rfl, rfl, hp⟩ := e
  unfold inb at hp
  rw [Bool.and_eq_true, hasI_mem, hasI_mem] at hp
  exact ⟨fun _ => hp.2, fun _ => h.2 hp.1⟩) h

theorem Cn.bnd {S : List Int} {n : Nat} {l : List Arc} (hl : ends n l) {a b : Int} (h : Cn S l a b) (ha : 0 ≤ a ∧ a.toNat < n) : 0 ≤ b ∧ b.toNat < n :=
 Rch.ind (fun b => 0 ≤ b ∧ b.toNat < n) (fun b e => by rw [e]; exact ha) (fun c d _ e => by
  obtain ⟨e, he, rfl, rfl, _⟩ := e
  exact (two2_ends hl e he).2) h

def lst (b : Arc → Bool) (P : List Nat) (a : Arc) : List Nat :=
 if b a then (P.set a.src.toNat (min (P.getD a.src.toNat default) (P.getD a.dst.toNat default))).set a.dst.toNat (min (P.getD a.src.toNat default) (P.getD a.dst.toNat default)) else P

theorem lst_len (b : Arc → Bool) (P : List Nat) (a : Arc) : (lst b P a).length = P.length := by
  unfold lst; split
  · rw [List.length_set, List.length_set]
  · rfl

theorem lsts_len (b : Arc → Bool) : ∀ (l : List Arc) (P : List Nat), (l.foldl (lst b) P).length = P.length
 | [], _ => rfl
 | a :: l, P => by rw [List.foldl_cons, lsts_len b l, lst_len]

theorem markC_true {p : Arc → Bool} {t : List Bool} {a : Arc} {j : Nat} (h : (markC p t a).getD j default = true) : t.getD j default = true ∨ (t.getD a.src.toNat default = true ∧ j = a.dst.toNat ∧ p a = true) := by
  unfold markC at h
  split at h
  · rename_i hc
    rw [Bool.and_eq_true] at hc
    rw [getD_set] at h
    split at h
    · rename_i hh
      exact .inr ⟨hc.1, hh.1.symm, hc.2⟩
    · exact .inl h
  · exact .inl h

structure Sim (S : List Int) (l : List Arc) (n k : Nat) (P : List Nat) (t : List Bool) : Prop where
 len : P.length = n
 hit : ∀ j : Nat, t.getD j default = true → Cn S l (k : Int) (j : Int) ∧ P.getD j default = k
 low : ∀ j : Nat, Cn S l (k : Int) (j : Int) → k ≤ P.getD j default

theorem Sim.step {S : List Int} {l : List Arc} {n k : Nat} {P : List Nat} {t : List Bool} (hl : ends n l) (h : Sim S l n k P t) {a : Arc} (ha : a ∈ l) : Sim S l n k (lst (inb S) P a) (markC (inb S) (markC (inb S) t a) (revA a)) := by
  have he := hl a ha
  refine ⟨by rw [lst_len]; exact h.len, ?_, ?_⟩
  · intro j hj
    cases hb : inb S a with
    | false =>
      have e1 : lst (inb S) P a = P := by rw [lst, hb]; rfl
      have hj2 : t.getD j default = true := by
        rcases markC_true hj with h1 | h1
        · rcases markC_true h1 with h2 | h2
          · exact h2
          · rw [hb] at h2; cases h2.2.2
        · rw [inb_rev, hb] at h1; cases h1.2.2
      rw [e1]; exact h.hit j hj2
    | true =>
      have edge : arcE (inb S) (two2 l) a.src a.dst := ⟨a, two2_mem.2 ⟨a, ha, .inl rfl⟩, rfl, rfl, hb⟩
      have es : ((a.src.toNat : Nat) : Int) = a.src := by omega
      have ed : ((a.dst.toNat : Nat) : Int) = a.dst := by omega
      have key : (t.getD a.src.toNat default = true ∨ t.getD a.dst.toNat default = true) → Cn S l (k : Int) a.src ∧ Cn S l (k : Int) a.dst ∧ min (P.getD a.src.toNat default) (P.getD a.dst.toNat default) = k := by
        rintro (h1 | h1)
        · have h2 := h.hit _ h1
          have c1 : Cn S l (k : Int) a.src := by rw [← es]; exact h2.1
          have c2 : Cn S l (k : Int) a.dst := .step c1 edge
          have := h.low a.dst.toNat (by rw [ed]; exact c2)
          exact ⟨c1, c2, by rw [h2.2]; omega⟩
        · have h2 := h.hit _ h1
          have c2 : Cn S l (k : Int) a.dst := by rw [← ed]; exact h2.1
          have c1 : Cn S l (k : Int) a.src := .step c2 (cn_edge edge)
          have := h.low a.src.toNat (by rw [es]; exact c1)
          exact ⟨c1, c2, by rw [h2.2]; omega⟩
      have hcase : t.getD j default = true ∨ ((t.getD a.src.toNat default = true ∨ t.getD a.dst.toNat default = true) ∧ (j = a.src.toNat ∨ j = a.dst.toNat)) := by
        rcases markC_true hj with h1 | ⟨h1, h2, _⟩
        · rcases markC_true h1 with h3 | ⟨h3, h4, _⟩
          · exact .inl h3
          · exact .inr ⟨.inl h3, .inr h4⟩
        · rcases markC_true h1 with h3 | ⟨h3, h4, _⟩
          · exact .inr ⟨.inr h3, .inl h2⟩
          · exact .inr ⟨.inl h3, .inl h2⟩
      have hset : ∀ i, (lst (inb S) P a).getD i default = if i = a.src.toNat ∨ i = a.dst.toNat then min (P.getD a.src.toNat default) (P.getD a.dst.toNat default) else P.getD i default := by
        intro i
        unfold lst
        rw [if_pos hb, getD_set, getD_set, List.length_set, h.len]
        by_cases e1 : a.dst.toNat = i
        · rw [if_pos ⟨e1, he.2.2⟩, if_pos (.inr e1.symm)]
        · rw [if_neg (fun q => e1 q.1)]
          by_cases e2 : a.src.toNat = i
          · rw [if_pos ⟨e2, he.1.2⟩, if_pos (.inl e2.symm)]
          · rw [if_neg (fun q => e2 q.1), if_neg (fun q => q.elim (fun q => e2 q.symm) (fun q => e1 q.symm))]
      rw [hset]
      by_cases hsd : j = a.src.toNat ∨ j = a.dst.toNat
      · rw [if_pos hsd]
        have hor : t.getD a.src.toNat default = true ∨ t.getD a.dst.toNat default = true := by
          rcases hcase with h1 | h1
          · rcases hsd with e | e
            · rw [e] at h1; exact .inl h1
            · rw [e] at h1; exact .inr h1
          · exact h1.1
        obtain ⟨k1, k2, k3⟩ := key hor
        refine ⟨?_, k3⟩
        rcases hsd with e | e
        · rw [e, es]; exact k1
        · rw [e, ed]; exact k2
      · rw [if_neg hsd]
        rcases hcase with h1 | h1
        · exact h.hit j h1
        · exact absurd h1.2 hsd
  · intro j hj
    cases hb : inb S a with
    | false =>
      have e1 : lst (inb S) P a = P := by rw [lst, hb]; rfl
      rw [e1]; exact h.low j hj
    | true =>
      have edge : arcE (inb S) (two2 l) a.src a.dst := ⟨a, two2_mem.2 ⟨a, ha, .inl rfl⟩, rfl, rfl, hb⟩
      have es : ((a.src.toNat : Nat) : Int) = a.src := by omega
      have ed : ((a.dst.toNat : Nat) : Int) = a.dst := by omega
      unfold lst
      rw [if_pos hb, getD_set, getD_set, List.length_set, h.len]
      have both : (Cn S l (k : Int) a.src ∨ Cn S l (k : Int) a.dst) → k ≤ min (P.getD a.src.toNat default) (P.getD a.dst.toNat default) := by
        intro hor
        have c1 : Cn S l (k : Int) a.src := hor.elim id fun c => .step c (cn_edge edge)
        have c2 : Cn S l (k : Int) a.dst := hor.elim (fun c => .step c edge) id
        have l1 := h.low a.src.toNat (by rw [es]; exact c1)
        have l2 := h.low a.dst.toNat (by rw [ed]; exact c2)
        omega
      split
      · rename_i hh; exact both (.inr (by rw [← ed, hh.1]; exact hj))
      · split
        · rename_i hh; exact both (.inl (by rw [← es, hh.1]; exact hj))
        · exact h.low j hj

theorem Sim.fold {S : List Int} {l : List Arc} {n k : Nat} (hl : ends n l) : ∀ (q : List Arc), (∀ a ∈ q, a ∈ l) → ∀ {P t}, Sim S l n k P t → Sim S l n k (q.foldl (lst (inb S)) P) ((two2 q).foldl (markC (inb S)) t)
 | [], _, _, _, h => h
 | a :: q, hq, P, t, h => by
  have h1 := h.step hl (hq a List.mem_cons_self)
  have h2 := Sim.fold hl q (fun b hb => hq b (List.mem_cons_of_mem _ hb)) h1
  have e : two2 (a :: q) = a :: revA a :: two2 q := rfl
  rw [e]
  exact h2

theorem Sim.it {S : List Int} {l : List Arc} {n k : Nat} (hl : ends n l) {P t} (h : Sim S l n k P t) : ∀ r, Sim S l n k (itN (l.foldl (lst (inb S))) r P) (itN ((two2 l).foldl (markC (inb S))) r t)
 | 0 => h
 | r + 1 => Sim.fold hl l (fun _ h => h) (Sim.it hl h r)

def labF (S : List Int) (l : List Arc) (n : Nat) : List Nat := itN (l.foldl (lst (inb S))) n (List.range n)

def labAt (S : List Int) (l : List Arc) (n i : Nat) : Nat := (labF S l n).getD i default

theorem its_len (b : Arc → Bool) (l : List Arc) (P : List Nat) : ∀ r, (itN (l.foldl (lst b)) r P).length = P.length
 | 0 => rfl
 | r + 1 => by rw [itN, lsts_len, its_len b l P r]

theorem lab_of {S : List Int} {l : List Arc} {n k i : Nat} (hl : ends n l) (hk : k < n) (hc : Cn S l (k : Int) (i : Int)) (hm : ∀ j : Nat, Cn S l (k : Int) (j : Int) → k ≤ j) : labAt S l n i = k := by
  have h0 : Sim S l n k (List.range n) ((List.replicate n false).set k true) := by
    refine ⟨List.length_range, fun j hj => ?_, fun j hj => ?_⟩
    · rw [getD_set, List.length_replicate] at hj
      split at hj
      · rename_i hh
        rw [← hh.1]
        refine ⟨.refl, ?_⟩
        simp [hk]
      · rw [List.getD_eq_getElem?_getD, List.getElem?_replicate] at hj
        split at hj <;> cases hj
    · have hb := Cn.bnd hl hj ⟨by omega, by omega⟩
      have : (List.range n).getD j default = j := by
        have : j < n := by omega
        simp [this]
      rw [this]; exact hm j hj
  have h1 := (h0.it hl n).hit i ((markC_reach (inb S) (two2_ends hl) (m0 := (List.replicate n false).set k true) (by simp) i).2 (Rch.mono (fun _ _ h => h) (fun a e => by
    rw [e]
    refine ⟨by omega, ?_⟩
    rw [getD_set, if_pos ⟨by omega, by rw [List.length_replicate]; exact hk⟩]) hc))
  exact h1.2

theorem least_of {p : Nat → Prop} : ∀ N, (∃ k, k ≤ N ∧ p k) → ∃ m, p m ∧ m ≤ N ∧ ∀ j, p j → m ≤ j
  | 0, ⟨k, hk, hp⟩ => ⟨k, hp, hk, fun j _ => by omega⟩
  | N + 1, ⟨k, hk, hp⟩ => by
    by_cases h : ∃ k, k ≤ N ∧ p k
    · obtain ⟨m, h1, h2, h3⟩ := least_of N h
      exact ⟨m, h1, by omega, h3⟩
    · have e : k = N + 1 := by
        apply Classical.byContradiction
        intro hne
        exact h ⟨k, by omega, hp⟩
      subst e
      refine ⟨N + 1, hp, Nat.le_refl _, fun j hj => ?_⟩
      apply Classical.byContradiction
      intro hlt
      exact h ⟨j, by omega, hj⟩

theorem lab_spec {S : List Int} {l : List Arc} {n i : Nat} (hl : ends n l) (hi : i < n) : Cn S l (labAt S l n i : Int) (i : Int) ∧ labAt S l n i ≤ i ∧ ∀ j : Nat, Cn S l (i : Int) (j : Int) → labAt S l n j = labAt S l n i := by
 obtain ⟨k, h1, h2, h3⟩ := least_of (p := fun k => Cn S l (k : Int) (i : Int)) i ⟨i, Nat.le_refl _, .refl⟩
 have hm : ∀ j : Nat, Cn S l (k : Int) (j : Int) → k ≤ j := fun j hj => h3 j (hj.symm.trans h1)
 have e := lab_of hl (by omega : k < n) h1 hm
 rw [e]
 exact ⟨h1, h2, fun j hj => lab_of hl (by omega : k < n) (h1.trans hj) hm⟩

def clsL (S : List Int) (l : List Arc) (n k : Nat) : List Int := setL n fun i => hasI S (i : Int) && decide (labAt S l n i = k)

def regTo (S : List Int) (l : List Arc) (n k : Nat) : List (List Int) := selTo k (fun k => decide (0 < (clsL S l n k).length)) (clsL S l n)

def regL (S : List Int) (l : List Arc) (n : Nat) : List (List Int) := regTo S l n n

theorem regTo_le (S : List Int) (l : List Arc) (n k : Nat) : (regTo S l n k).length ≤ k := selTo_le _ _ _

theorem cls_le (S : List Int) (l : List Arc) (n k : Nat) : (clsL S l n k).length ≤ n := setL_le _ _

theorem regL_in {S : List Int} {l : List Arc} {n k : Nat} : ∀ r ∈ regTo S l n k, r.length ≤ n ∧ Rising r ∧ ∀ a ∈ r, (0 ≤ a ∧ a.toNat < n) ∧ a ∈ S := by
 intro r hr
 obtain ⟨j, hj, rfl⟩ := List.mem_map.1 hr
 refine ⟨cls_le _ _ _ _, setL_rising _ _, fun a ha => ?_⟩
 have h := setL_mem.1 ha
 have h2 := (Bool.and_eq_true_iff.1 h.2).1
 rw [hasI_mem, show ((a.toNat : Nat) : Int) = a by omega] at h2
 exact ⟨h.1, h2⟩

theorem cls_mem {S : List Int} {l : List Arc} {n k : Nat} {a : Int} : a ∈ clsL S l n k ↔ (0 ≤ a ∧ a.toNat < n) ∧ a ∈ S ∧ labAt S l n a.toNat = k := by
  unfold clsL
  rw [setL_mem, Bool.and_eq_true, hasI_mem, decide_eq_true_iff]
  constructor
  · rintro ⟨h1, h2, h3⟩
    rw [show ((a.toNat : Nat) : Int) = a by omega] at h2
    exact ⟨h1, h2, h3⟩
  · rintro ⟨h1, h2, h3⟩
    exact ⟨h1, by rw [show ((a.toNat : Nat) : Int) = a by omega]; exact h2, h3⟩

theorem selTo_skip {τ : Type} {p : Nat → Bool} {f : Nat → τ} {B : Nat} : ∀ k, B ≤ k → (∀ j, B ≤ j → j < k → p j = false) → selTo k p f = selTo B p f
  | 0, h, _ => by rw [show B = 0 by omega]
  | k + 1, h, hp => by
    by_cases e : B = k + 1
    · rw [e]
    · rw [← selTo_no (hp k (by omega) (by omega)), selTo_skip k (by omega) (fun j h1 h2 => hp j h1 (by omega))]

def leftF (S : List Int) (l : List Arc) (n B : Nat) : List Int := S.filter fun i => decide (B ≤ labAt S l n i.toNat)

theorem leftF_zero (S : List Int) (l : List Arc) (n : Nat) : leftF S l n 0 = S := by
 unfold leftF
 rw [List.filter_eq_self]
 intro a _
 exact decide_eq_true (Nat.zero_le _)

theorem leftF_le (S : List Int) (l : List Arc) (n B : Nat) : (leftF S l n B).length ≤ S.length := List.length_filter_le _ _

theorem leftF_mem {S : List Int} {l : List Arc} {n B : Nat} {a : Int} : a ∈ leftF S l n B ↔ a ∈ S ∧ B ≤ labAt S l n a.toNat := by
 unfold leftF; rw [List.mem_filter, decide_eq_true_iff]

theorem head_least {l : List Int} (h : Rising l) (hl : 0 < l.length) : l.getD 0 default ∈ l ∧ ∀ a ∈ l, l.getD 0 default ≤ a := by
  cases l with
  | nil => simp at hl
  | cons b l =>
    refine ⟨List.mem_cons_self, fun a ha => ?_⟩
    rcases List.mem_cons.1 ha with rfl | ha
    · exact Int.le_refl _
    · have := (List.pairwise_cons.1 h).1 a ha
      show b ≤ a; omega

structure SetOk (S : List Int) (l : List Arc) (n : Nat) : Prop where
 ends : ends n l
 ris : Rising S
 inn : ∀ a ∈ S, 0 ≤ a ∧ a.toNat < n

theorem rep_left {S : List Int} {l : List Arc} {n B : Nat} (h : SetOk S l n) {a : Int} (ha : a ∈ leftF S l n B) : (labAt S l n a.toNat : Int) ∈ leftF S l n B ∧ labAt S l n (labAt S l n a.toNat) = labAt S l n a.toNat := by
 obtain ⟨h1, h2⟩ := leftF_mem.1 ha
 have hb := h.inn a h1
 obtain ⟨c1, c2, c3⟩ := lab_spec (S := S) h.ends hb.2
 have e : ((a.toNat : Nat) : Int) = a := by omega
 rw [e] at c1
 have hin := c1.inS.2 h1
 have hl : labAt S l n (labAt S l n a.toNat) = labAt S l n a.toNat := c3 _ (by rw [e]; exact c1.symm)
 refine ⟨leftF_mem.2 ⟨hin, ?_⟩, hl⟩
 rw [Int.toNat_natCast, hl]; exact h2

theorem left_head {S : List Int} {l : List Arc} {n B : Nat} (h : SetOk S l n) (hl : 0 < (leftF S l n B).length) :
    (0 ≤ (leftF S l n B).getD 0 default ∧ ((leftF S l n B).getD 0 default).toNat < n) ∧ (leftF S l n B).getD 0 default ∈ S ∧ labAt S l n ((leftF S l n B).getD 0 default).toNat = ((leftF S l n B).getD 0 default).toNat ∧ B ≤ ((leftF S l n B).getD 0 default).toNat ∧
    regTo S l n (((leftF S l n B).getD 0 default).toNat + 1) = regTo S l n B ++ [clsL S l n ((leftF S l n B).getD 0 default).toNat] ∧
    leftF S l n (((leftF S l n B).getD 0 default).toNat + 1) = (leftF S l n B).filter fun u => !hasI (clsL S l n ((leftF S l n B).getD 0 default).toNat) u := by
  have hris : Rising (leftF S l n B) := h.ris.filter _
  obtain ⟨hm, hle⟩ := head_least hris hl
  generalize (leftF S l n B).getD 0 default = a at hm hle
  obtain ⟨m1, m2⟩ := leftF_mem.1 hm
  have hb := h.inn a m1
  obtain ⟨r1, r2⟩ := rep_left h hm
  have c2 := (lab_spec (S := S) h.ends hb.2).2.1
  have e := hle _ r1
  have hlab : labAt S l n a.toNat = a.toNat := by omega
  have hB : B ≤ a.toNat := by omega
  refine ⟨hb, m1, hlab, hB, ?_, ?_⟩
  · have hpos : decide (0 < (clsL S l n a.toNat).length) = true := by
      refine decide_eq_true (List.length_pos_iff_exists_mem.2 ⟨a, cls_mem.2 ⟨hb, m1, hlab⟩⟩)
    unfold regTo
    rw [← selTo_yes (f := clsL S l n) hpos]
    congr 1
    refine selTo_skip _ hB fun j h1 h2 => decide_eq_false fun hlen => ?_
    obtain ⟨b, hbm⟩ := List.length_pos_iff_exists_mem.1 hlen
    obtain ⟨b1, b2, b3⟩ := cls_mem.1 hbm
    have := hle _ (rep_left h (leftF_mem.2 ⟨b2, by omega⟩ : b ∈ leftF S l n B)).1
    omega
  · unfold leftF
    rw [List.filter_filter]
    apply List.filter_congr
    intro b hbS
    have hbb := h.inn b hbS
    rw [Bool.eq_iff_iff, decide_eq_true_iff, Bool.and_eq_true, decide_eq_true_iff, Bool.not_eq_true', ← Bool.not_eq_true, hasI_mem, cls_mem]
    constructor
    · intro h1
      exact ⟨fun h2 => by have := h2.2.2; omega, by omega⟩
    · rintro ⟨h1, h2⟩
      have h3 := hle _ (rep_left h (leftF_mem.2 ⟨hbS, h2⟩ : b ∈ leftF S l n B)).1
      have h4 : ¬ labAt S l n b.toNat = a.toNat := fun e => h1 ⟨hbb, hbS, e⟩
      omega

theorem left_end {S : List Int} {l : List Arc} {n B : Nat} (h : SetOk S l n) (hB : B ≤ n) (hl : (leftF S l n B).length = 0) : regTo S l n B = regL S l n := by
 unfold regL regTo
 refine (selTo_skip n hB fun j h1 h2 => decide_eq_false fun hlen => ?_).symm
 obtain ⟨b, hbm⟩ := List.length_pos_iff_exists_mem.1 hlen
 obtain ⟨b1, b2, b3⟩ := cls_mem.1 hbm
 have : b ∈ leftF S l n B := leftF_mem.2 ⟨b2, by omega⟩
 rw [List.eq_nil_of_length_eq_zero hl] at this
 cases this

def cStep (S : List Int) (c : Int) (o : List Int) (e : Stp) : List Int := if decide (e.src = c) && (hasI S e.dst && !hasI o e.dst) then o ++ [e.dst] else o

def steps2 (a : Arc) : List Stp := [Stp.mk a.src a.dst, Stp.mk a.dst a.src]

def cIn (S : List Int) (c : Int) (o : List Int) (a : Arc) (q : Nat) : List Int := ((steps2 a).take q).foldl (cStep S c) o

def cTo (x : Sgr) (S : List Int) (c : Int) (o : List Int) (m : Nat) : List Int := (x.arcs.take m).foldl (fun o a => cIn S c o a 2) o

theorem cTo_next {x : Sgr} {S : List Int} {c : Int} {o : List Int} {m q : Nat} (hm : m < x.arcs.length) (hq : 2 ≤ q) : cIn S c (cTo x S c o m) (x.arcs.getD m default) q = cTo x S c o (m + 1) := by
 have hg : x.arcs.getD m default = x.arcs[m] := by simp [hm]
 have e : cIn S c (cTo x S c o m) (x.arcs.getD m default) q = cIn S c (cTo x S c o m) (x.arcs.getD m default) 2 := by
  unfold cIn
  rw [List.take_of_length_le (by exact hq), List.take_of_length_le (by exact Nat.le_refl 2)]
 rw [e, hg]
 unfold cTo
 rw [List.take_succ_eq_append_getElem hm, List.foldl_append]; rfl

theorem cIn_succ {S : List Int} {c : Int} {o : List Int} {a : Arc} {q : Nat} (hq : q < 2) : cIn S c o a (q + 1) = cStep S c (cIn S c o a q) ((steps2 a).getD q default) := by
 have h2 : q < (steps2 a).length := hq
 have hg : (steps2 a).getD q default = (steps2 a)[q] := by simp [h2]
 unfold cIn
 rw [hg, List.take_succ_eq_append_getElem h2, List.foldl_append]; rfl

theorem cIn_yes {S : List Int} {c : Int} {o : List Int} {a : Arc} {q : Nat} (hq : q < 2) (h1 : ((steps2 a).getD q default).src = c) (h2 : hasI S ((steps2 a).getD q default).dst = true) (h3 : hasI (cIn S c o a q) ((steps2 a).getD q default).dst = false) : cIn S c o a q ++ [((steps2 a).getD q default).dst] = cIn S c o a (q + 1) := by
 rw [cIn_succ hq, cStep, decide_eq_true h1, h2, h3]; rfl

theorem cIn_no1 {S : List Int} {c : Int} {o : List Int} {a : Arc} {q : Nat} (hq : q < 2) (h1 : ¬ ((steps2 a).getD q default).src = c) : cIn S c o a q = cIn S c o a (q + 1) := by
 rw [cIn_succ hq, cStep, decide_eq_false h1]; rfl

theorem cIn_no2 {S : List Int} {c : Int} {o : List Int} {a : Arc} {q : Nat} (hq : q < 2) (h2 : hasI S ((steps2 a).getD q default).dst = false) : cIn S c o a q = cIn S c o a (q + 1) := by
 rw [cIn_succ hq, cStep, h2]; simp

theorem cIn_no3 {S : List Int} {c : Int} {o : List Int} {a : Arc} {q : Nat} (hq : q < 2) (h3 : hasI (cIn S c o a q) ((steps2 a).getD q default).dst = true) : cIn S c o a q = cIn S c o a (q + 1) := by
 rw [cIn_succ hq, cStep, h3]; simp

def toS (S : List Int) (a : Arc) : Bool := hasI S a.dst

structure CInv (x : Sgr) (S : List Int) (a0 : Int) (o : List Int) : Prop where
 wl : Wl x.codes.length (arcE (toS S) (two2 x.arcs)) (fun a => a = a0) o
 inS : ∀ a ∈ o, a ∈ S

theorem CInv.step {x : Sgr} {S : List Int} {a0 c : Int} {o : List Int} (hen : ends x.codes.length x.arcs) (h : CInv x S a0 o) (hc : c ∈ o) {a : Arc} (ha : a ∈ x.arcs) {e : Stp} (he : e ∈ steps2 a) :
    CInv x S a0 (cStep S c o e) ∧ (∃ r, cStep S c o e = o ++ r) ∧ (e.src = c → hasI S e.dst = true → e.dst ∈ cStep S c o e) := by
  have harc : ∃ e' ∈ two2 x.arcs, e'.src = e.src ∧ e'.dst = e.dst := by
    unfold steps2 at he
    simp only [List.mem_cons, List.not_mem_nil, or_false] at he
    rcases he with rfl | rfl
    · exact ⟨a, two2_mem.2 ⟨a, ha, .inl rfl⟩, rfl, rfl⟩
    · exact ⟨revA a, two2_mem.2 ⟨a, ha, .inr rfl⟩, rfl, rfl⟩
  obtain ⟨e', h1, h2, h3⟩ := harc
  have hee := two2_ends hen e' h1
  unfold cStep
  split
  · rename_i hcond
    rw [Bool.and_eq_true, Bool.and_eq_true, decide_eq_true_iff, Bool.not_eq_true', ← Bool.not_eq_true, hasI_mem, hasI_mem] at hcond
    obtain ⟨q1, q2, q3⟩ := hcond
    refine ⟨⟨h.wl.add hc ⟨e', h1, by rw [h2, q1], h3, by unfold toS; rw [hasI_mem, h3]; exact q2⟩ q3 (by rw [← h3]; exact hee.2), fun b hb => ?_⟩, ⟨_, rfl⟩, fun _ _ => List.mem_append_right _ (List.mem_singleton.2 rfl)⟩
    rcases List.mem_append.1 hb with hb | hb
    · exact h.inS b hb
    · rw [List.mem_singleton] at hb; rw [hb]; exact q2
  · rename_i hcond
    refine ⟨h, ⟨[], by simp⟩, fun e1 e2 => ?_⟩
    rw [decide_eq_true e1, e2, Bool.true_and, Bool.true_and, Bool.not_eq_true', Bool.not_eq_false, hasI_mem] at hcond
    exact hcond

theorem CInv.ins {x : Sgr} {S : List Int} {a0 c : Int} {o : List Int} (hen : ends x.codes.length x.arcs) (h : CInv x S a0 o) (hc : c ∈ o) {a : Arc} (ha : a ∈ x.arcs) : ∀ q, q ≤ 2 →
    CInv x S a0 (cIn S c o a q) ∧ (∃ r, cIn S c o a q = o ++ r) ∧ ∀ j, j < q → ((steps2 a).getD j default).src = c → hasI S ((steps2 a).getD j default).dst = true → ((steps2 a).getD j default).dst ∈ cIn S c o a q
  | 0, _ => ⟨h, ⟨[], by simp [cIn]⟩, fun j hj => absurd hj (Nat.not_lt_zero _)⟩
  | q + 1, hq => by
    obtain ⟨h1, ⟨r, h2⟩, h3⟩ := h.ins hen hc ha q (by omega)
    obtain ⟨a1, ⟨r2, b1⟩, c1⟩ := h1.step hen (c := c) (by rw [h2]; exact List.mem_append_left _ hc) ha (e := (steps2 a).getD q default) (getD_mem (by exact hq))
    rw [cIn_succ (by omega)]
    refine ⟨a1, ⟨r ++ r2, by rw [b1, h2, List.append_assoc]⟩, fun j hj e1 e2 => ?_⟩
    by_cases hlt : j < q
    · rw [b1]; exact List.mem_append_left _ (h3 j hlt e1 e2)
    · rw [show j = q by omega] at e1 e2 ⊢; exact c1 e1 e2

theorem CInv.tos {x : Sgr} {S : List Int} {a0 c : Int} {o : List Int} (hen : ends x.codes.length x.arcs) (h : CInv x S a0 o) (hc : c ∈ o) : ∀ m, m ≤ x.arcs.length →
    CInv x S a0 (cTo x S c o m) ∧ (∃ r, cTo x S c o m = o ++ r) ∧ ∀ j, j < m → ∀ e ∈ steps2 (x.arcs.getD j default), e.src = c → hasI S e.dst = true → e.dst ∈ cTo x S c o m
  | 0, _ => ⟨h, ⟨[], by simp [cTo]⟩, fun j hj => absurd hj (Nat.not_lt_zero _)⟩
  | m + 1, hm => by
    obtain ⟨h1, ⟨r, h2⟩, h3⟩ := h.tos hen hc m (by omega)
    obtain ⟨a1, ⟨r2, b1⟩, c1⟩ := h1.ins hen (c := c) (by rw [h2]; exact List.mem_append_left _ hc) (getD_mem (l := x.arcs) (j := m) (d := default) (by omega)) 2 (Nat.le_refl _)
    rw [← cTo_next (q := 2) (by omega) (Nat.le_refl _)]
    refine ⟨a1, ⟨r ++ r2, by rw [b1, h2, List.append_assoc]⟩, fun j hj e he e1 e2 => ?_⟩
    by_cases hlt : j < m
    · rw [b1]; exact List.mem_append_left _ (h3 j hlt e he e1 e2)
    · rw [show j = m by omega] at he
      obtain ⟨i, hi, rfl⟩ := List.mem_iff_getElem.1 he
      have hg : (steps2 (x.arcs.getD m default)).getD i default = (steps2 (x.arcs.getD m default))[i] := by rw [List.getD_eq_getElem?_getD (i := i), List.getElem?_eq_getElem hi, Option.getD_some]
      have := c1 i hi (by rw [hg]; exact e1) (by rw [hg]; exact e2)
      rwa [hg] at this

structure CLoop (x : Sgr) (S : List Int) (a0 : Int) (q : List Int × Nat) : Prop where
 inv : CInv x S a0 q.1
 done : ∀ i, i < q.2 → i < q.1.length → ∀ b, arcE (toS S) (two2 x.arcs) (q.1.getD i default) b → b ∈ q.1

theorem CLoop.zero {x : Sgr} {S : List Int} {a0 : Int} (h : a0 ∈ S) (hb : 0 ≤ a0 ∧ a0.toNat < x.codes.length) : CLoop x S a0 ([a0], 0) :=
 ⟨⟨⟨fun a ha => by rw [List.mem_singleton] at ha; rw [ha]; exact hb, by simp, fun a ha => .base (List.mem_singleton.1 ha), fun a ha => List.mem_singleton.2 ha⟩, fun a ha => by rw [List.mem_singleton] at ha; rw [ha]; exact h⟩, fun i h => absurd h (Nat.not_lt_zero _)⟩

theorem CLoop.step {x : Sgr} {S : List Int} {a0 : Int} {q : List Int × Nat} (hen : ends x.codes.length x.arcs) (h : CLoop x S a0 q) (hq : q.2 < q.1.length) : CLoop x S a0 (cTo x S (q.1.getD q.2 default) q.1 x.arcs.length, q.2 + 1) := by
  obtain ⟨h1, ⟨r, h2⟩, h3⟩ := h.inv.tos hen (getD_mem (l := q.1) (j := q.2) (d := default) hq) _ (Nat.le_refl _)
  refine ⟨h1, fun i hi hl b hb => ?_⟩
  dsimp only at hi hl hb ⊢
  rw [h2] at hb
  by_cases hlt : i < q.2
  · rw [getD_app (by omega)] at hb
    rw [h2]
    exact List.mem_append_left _ (h.done i hlt (by omega) b hb)
  · have e : i = q.2 := by omega
    subst e
    rw [getD_app hq] at hb
    obtain ⟨e', he', e1, rfl, hp⟩ := hb
    obtain ⟨a, ha, hor⟩ := two2_mem.1 he'
    obtain ⟨j, hj, rfl⟩ := List.mem_iff_getElem.1 ha
    have hg : x.arcs.getD j default = x.arcs[j] := by simp [hj]
    have hst : Stp.mk e'.src e'.dst ∈ steps2 (x.arcs.getD j default) := by
      rw [hg]
      rcases hor with rfl | rfl
      · exact List.mem_cons_self
      · exact List.mem_cons_of_mem _ List.mem_cons_self
    exact h3 j hj _ hst e1 hp

theorem CLoop.end {x : Sgr} {S : List Int} {a0 : Int} {q : List Int × Nat} (hs : SetOk S x.arcs x.codes.length) (h : CLoop x S a0 q) (ha : a0 ∈ S) (hlab : labAt S x.arcs x.codes.length a0.toNat = a0.toNat) (hq : ¬ q.2 < q.1.length) : tidI q.1 = clsL S x.arcs x.codes.length a0.toNat := by
  have hb := hs.inn a0 ha
  have e0 : ((a0.toNat : Nat) : Int) = a0 := by omega
  refine rising_ext (rise_int.1 (tid_rise linI q.1)) (setL_rising _ _) fun a => ?_
  rw [tidI, tid_mem linI, h.inv.wl.done (fun b hbm c hc => by
    obtain ⟨i, hi, rfl⟩ := List.mem_iff_getElem.1 hbm
    refine h.done i (by omega) hi c ?_
    rwa [show q.1.getD i default = q.1[i] by simp [hi]])]
  have hspec := lab_spec (S := S) hs.ends hb.2
  rw [e0] at hspec
  constructor
  · intro hr
    have hcn : Cn S x.arcs a0 a ∧ a ∈ S := Rch.ind (fun a => Cn S x.arcs a0 a ∧ a ∈ S) (fun b e => by rw [e]; exact ⟨.refl, ha⟩) (fun b c hbc e => by
      obtain ⟨e', he', rfl, rfl, hp⟩ := e
      unfold toS at hp
      refine ⟨.step hbc.1 ⟨e', he', rfl, rfl, ?_⟩, hasI_mem.1 hp⟩
      unfold inb
      rw [hasI_mem.2 hbc.2, hp]; rfl) hr
    have hbn := hs.inn a hcn.2
    refine cls_mem.2 ⟨hbn, hcn.2, ?_⟩
    have := hspec.2.2 a.toNat (by rw [show ((a.toNat : Nat) : Int) = a by omega]; exact hcn.1)
    rw [this, hlab]
  · intro hc
    obtain ⟨hbn, hin, hl⟩ := cls_mem.1 hc
    have h1 := (lab_spec (S := S) hs.ends hbn.2).1
    rw [hl, e0, show ((a.toNat : Nat) : Int) = a by omega] at h1
    exact Rch.mono (fun b c hbc => by
      obtain ⟨e', he', h2, h3, hp⟩ := hbc
      refine ⟨e', he', h2, h3, ?_⟩
      unfold inb at hp
      exact (Bool.and_eq_true_iff.1 hp).2) (fun b hb => hb) h1

theorem CLoop.nod {x : Sgr} {S : List Int} {a0 : Int} {q : List Int × Nat} (h : CLoop x S a0 q) : q.1.Nodup := h.inv.wl.nod

theorem nodup_mem_compact {o : List Int} (h : o.Nodup) : tidI o = o.mergeSort leI := by
 have h1 : (o.mergeSort leI).Pairwise (fun a b => leI a b = true) := List.pairwise_mergeSort (fun a b c h1 h2 => linI.trans a b c h1 h2) (fun a b => linI.total a b) o
 have h2 : (o.mergeSort leI).Nodup := (List.mergeSort_perm o leI).nodup_iff.2 h
 have h3 : Rising (o.mergeSort leI) := by
  rw [← rise_int]
  unfold Rise
  exact List.Pairwise.and h1 h2
 refine rising_ext (rise_int.1 (tid_rise linI o)) h3 fun a => ?_
 rw [tidI, tid_mem linI, List.mem_mergeSort]

theorem arc_bit {x : Sgr} (hx : SgOk x) {a : Arc} (ha : a ∈ x.arcs) (h0 : 0 ≤ a.sig) : decide ((x.codes.getD a.src.toNat default).getD a.sig.toNat 0 = 49) = !a.up := by
  obtain ⟨j, hj, rfl⟩ := List.mem_iff_getElem.1 ha
  have h1 := allB_true.1 hx.arcs j hj
  have hg : x.arcs.getD j default = x.arcs[j] := by simp [hj]
  rw [hg] at h1
  have hs := (hx.sig _ ha).1
  have he := hx.ends _ ha
  unfold arcB at h1
  simp only [Bool.and_eq_true] at h1
  have h2 := h1.2.2.2
  have hl : (codeAt x (x.arcs[j]).src).length = x.sigs.length := (codes_at hx.codes (x.arcs[j]).src he.1.1 (by omega)).2
  have h3 := allB_true.1 h2 (x.arcs[j]).sig.toNat (by omega)
  unfold fitCh at h3
  rw [if_pos (by omega), Bool.and_eq_true, Bool.not_eq_true'] at h3
  have h4 := of_decide_eq_false h3.1
  show decide ((codeAt x (x.arcs[j]).src).getD (x.arcs[j]).sig.toNat 0 = 49) = _
  cases hd : decide ((codeAt x (x.arcs[j]).src).getD (x.arcs[j]).sig.toNat 0 = 49) <;> cases hu : (x.arcs[j]).up <;> rw [hd, hu] at h4 <;> first | rfl | exact absurd rfl h4

theorem lab_bit {x : Sgr} (hx : SgOk x) {k : Nat} {sig : Int} {up : Bool} (h0 : 0 ≤ sig) : labB x (k : Int) sig up = (excB x (k : Int) sig && decide (decide ((x.codes.getD k default).getD sig.toNat 0 = 49) = !up)) := by
  rw [Bool.eq_iff_iff, Bool.and_eq_true, decide_eq_true_iff]
  unfold labB excB
  rw [List.any_eq_true, List.any_eq_true]
  constructor
  · rintro ⟨a, ha, h⟩
    unfold isLab isEd at h
    simp only [Bool.and_eq_true, decide_eq_true_iff] at h
    obtain ⟨h1, h2, h3⟩ := h
    refine ⟨⟨a, ha, by unfold isArc; rw [decide_eq_true h1, decide_eq_true h2]; rfl⟩, ?_⟩
    have := arc_bit hx ha (by omega)
    rw [h1, h2, h3, Int.toNat_natCast] at this
    exact this
  · rintro ⟨⟨a, ha, h⟩, hb⟩
    unfold isArc at h
    simp only [Bool.and_eq_true, decide_eq_true_iff] at h
    refine ⟨a, ha, ?_⟩
    have := arc_bit hx ha (by omega)
    rw [h.1, h.2, Int.toNat_natCast, hb] at this
    unfold isLab isEd
    rw [decide_eq_true h.1, decide_eq_true h.2, decide_eq_true (show a.up = up from by cases hu : a.up <;> cases up <;> rw [hu] at this <;> first | rfl | cases this)]; rfl

theorem exc_bit {x : Sgr} (hx : SgOk x) {k : Nat} (hk : k < x.codes.length) {sig : Int} {up : Bool} (h0 : 0 ≤ sig) : hasI (excS x sig up) (k : Int) = (excB x (k : Int) sig && decide (decide ((x.codes.getD k default).getD sig.toNat 0 = 49) = !up)) := by
 rw [exc_has ⟨by omega, by omega⟩, lab_bit hx h0]

theorem bit_cmp {c : UInt8} (hc : c = 48 ∨ c = 49) (b : Bool) : decide ([c] = [bitN b]) = decide (decide (c = 49) = b) := by
  rcases hc with rfl | rfl <;> cases b <;> rfl

def addQ (x : Sgr) (sig : Int) (o : List Int) (k : Int) : List Int := if !excB x k sig && !hasI o k then o ++ [k] else o

def q1 (x : Sgr) (sig c : Int) (o : List Int) (a : Arc) : List Int := if decide (a.src = c) then addQ x sig o a.dst else o

def inL (x : Sgr) (sig : Int) (up : Bool) : List Bool := (List.range x.codes.length).map fun k : Nat => hasI (excS x sig up) (k : Int)

theorem inL_len (x : Sgr) (sig : Int) (up : Bool) : (inL x sig up).length = x.codes.length := by simp [inL]

theorem inL_at {x : Sgr} {sig : Int} {up : Bool} {k : Nat} (hk : k < x.codes.length) : (inL x sig up).getD k default = hasI (excS x sig up) (k : Int) := by simp [inL, hk]

theorem inL_set {x : Sgr} {sig : Int} {up : Bool} {k : Nat} {b : Bool} (hk : k < x.codes.length) (h : hasI (excS x sig up) (k : Int) = b) : (fill (inL x sig up) default k).set k b = fill (inL x sig up) default (k + 1) := by
 rw [← fill_set (inL x sig up) default default (k := k) (by rw [inL_len]; exact hk), inL_at hk, h]

theorem inL_yes {x : Sgr} (hx : SgOk x) {sig : Int} {up : Bool} {k : Nat} (hk : k < x.codes.length) (hs : 0 ≤ sig ∧ sig.toNat < x.sigs.length) (h : excB x (k : Int) sig = true) : (fill (inL x sig up) default k).set k (decide ([(x.codes.getD k default).getD sig.toNat 0] = [bitN (!up)])) = fill (inL x sig up) default (k + 1) := by
 refine inL_set hk ?_
 rw [exc_bit hx hk hs.1, h, Bool.true_and, bit_cmp (code_bit hx hk hs)]

theorem inL_no {x : Sgr} (hx : SgOk x) {sig : Int} {up : Bool} {k : Nat} (hk : k < x.codes.length) (h0 : 0 ≤ sig) (h : excB x (k : Int) sig = false) : (fill (inL x sig up) default k).set k false = fill (inL x sig up) default (k + 1) := by
 refine inL_set hk ?_
 rw [exc_bit hx hk h0, h]; rfl

theorem fill_setV {τ : Type} {l : List τ} {d : τ} {k : Nat} {v : τ} [Inhabited τ] (hk : k < l.length) (hv : l.getD k default = v) : (fill l d k).set k v = fill l d (k + 1) := by
 rw [← fill_set l d default hk, hv]

theorem range_at {n k : Nat} (h : k < n) : (List.range n).getD k default = k := by simp [h]

def pTo (x : Sgr) (S : List Int) (k m : Nat) : List Nat := (x.arcs.take m).foldl (lst (inb S)) (itN (x.arcs.foldl (lst (inb S))) k (List.range x.codes.length))

theorem pTo_len (x : Sgr) (S : List Int) (k m : Nat) : (pTo x S k m).length = x.codes.length := by rw [pTo, lsts_len, its_len, List.length_range]

theorem pTo_next {x : Sgr} {S : List Int} {k m : Nat} (h : x.arcs.length ≤ m) : pTo x S k m = pTo x S (k + 1) 0 := by
 unfold pTo; rw [List.take_of_length_le h]; rfl

theorem pTo_succ {x : Sgr} {S : List Int} {k m : Nat} (h : m < x.arcs.length) : pTo x S k (m + 1) = lst (inb S) (pTo x S k m) (x.arcs.getD m default) := by
 have hg : x.arcs.getD m default = x.arcs[m] := by simp [h]
 unfold pTo
 rw [List.take_succ_eq_append_getElem h, List.foldl_append, hg]; rfl

theorem pTo_yes {x : Sgr} {sig : Int} {up : Bool} {k m : Nat} (hen : ends x.codes.length x.arcs) (h : m < x.arcs.length) (h1 : (inL x sig up).getD (x.arcs.getD m default).src.toNat default = true) (h2 : (inL x sig up).getD (x.arcs.getD m default).dst.toNat default = true) :
  ((pTo x (excS x sig up) k m).set (x.arcs.getD m default).src.toNat (min ((pTo x (excS x sig up) k m).getD (x.arcs.getD m default).src.toNat default) ((pTo x (excS x sig up) k m).getD (x.arcs.getD m default).dst.toNat default))).set (x.arcs.getD m default).dst.toNat (min ((pTo x (excS x sig up) k m).getD (x.arcs.getD m default).src.toNat default) ((pTo x (excS x sig up) k m).getD (x.arcs.getD m default).dst.toNat default)) = pTo x (excS x sig up) k (m + 1) := by
 have he := hen _ (getD_mem (l := x.arcs) (j := m) (d := default) h)
 rw [inL_at he.1.2, show (((x.arcs.getD m default).src.toNat : Nat) : Int) = (x.arcs.getD m default).src by omega] at h1
 rw [inL_at he.2.2, show (((x.arcs.getD m default).dst.toNat : Nat) : Int) = (x.arcs.getD m default).dst by omega] at h2
 rw [pTo_succ h, lst, inb, h1, h2]; rfl

theorem pTo_no1 {x : Sgr} {sig : Int} {up : Bool} {k m : Nat} (hen : ends x.codes.length x.arcs) (h : m < x.arcs.length) (h1 : (inL x sig up).getD (x.arcs.getD m default).src.toNat default = false) : pTo x (excS x sig up) k m = pTo x (excS x sig up) k (m + 1) := by
 have he := hen _ (getD_mem (l := x.arcs) (j := m) (d := default) h)
 rw [inL_at he.1.2, show (((x.arcs.getD m default).src.toNat : Nat) : Int) = (x.arcs.getD m default).src by omega] at h1
 rw [pTo_succ h, lst, inb, h1]; rfl

theorem pTo_no2 {x : Sgr} {sig : Int} {up : Bool} {k m : Nat} (hen : ends x.codes.length x.arcs) (h : m < x.arcs.length) (h2 : (inL x sig up).getD (x.arcs.getD m default).dst.toNat default = false) : pTo x (excS x sig up) k m = pTo x (excS x sig up) k (m + 1) := by
 have he := hen _ (getD_mem (l := x.arcs) (j := m) (d := default) h)
 rw [inL_at he.2.2, show (((x.arcs.getD m default).dst.toNat : Nat) : Int) = (x.arcs.getD m default).dst by omega] at h2
 rw [pTo_succ h, lst, inb, h2]; simp

theorem pTo_end {x : Sgr} {S : List Int} {k : Nat} (h : x.codes.length = k) : pTo x S k 0 = labF S x.arcs x.codes.length := by subst h; rfl

def clsK (x : Sgr) (S : List Int) (k i : Nat) : List Int := selTo i (fun i => hasI S (i : Int) && decide (labAt S x.arcs x.codes.length i = k)) fun i => (i : Int)

theorem clsK_le (x : Sgr) (S : List Int) (k i : Nat) : (clsK x S k i).length ≤ i := selTo_le _ _ _

theorem clsK_all {x : Sgr} {S : List Int} {k i : Nat} (h : x.codes.length = i) : clsK x S k i = clsL S x.arcs x.codes.length k := by subst h; rfl

theorem clsK_yes {x : Sgr} {sig : Int} {up : Bool} {k i : Nat} (hi : i < x.codes.length) (h1 : (inL x sig up).getD i default = true) (h2 : (((labF (excS x sig up) x.arcs x.codes.length).getD i default : Nat) : Int) = (k : Int)) : clsK x (excS x sig up) k i ++ [(i : Int)] = clsK x (excS x sig up) k (i + 1) := by
 refine selTo_yes (f := fun i : Nat => (i : Int)) ?_
 rw [← inL_at hi, h1, Bool.true_and]
 refine decide_eq_true ?_
 unfold labAt; omega

theorem clsK_no1 {x : Sgr} {sig : Int} {up : Bool} {k i : Nat} (hi : i < x.codes.length) (h1 : (inL x sig up).getD i default = false) : clsK x (excS x sig up) k i = clsK x (excS x sig up) k (i + 1) := by
 refine selTo_no ?_
 rw [← inL_at hi, h1]; rfl

theorem clsK_no2 {x : Sgr} {sig : Int} {up : Bool} {k i : Nat} (h2 : ¬ (((labF (excS x sig up) x.arcs x.codes.length).getD i default : Nat) : Int) = (k : Int)) : clsK x (excS x sig up) k i = clsK x (excS x sig up) k (i + 1) := by
 refine selTo_no ?_
 rw [decide_eq_false, Bool.and_false]
 unfold labAt; omega

theorem reg_yes {S : List Int} {l : List Arc} {n k : Nat} (h : 0 < (clsL S l n k).length) : regTo S l n k ++ [clsL S l n k] = regTo S l n (k + 1) := selTo_yes (f := clsL S l n) (decide_eq_true h)

theorem reg_no {S : List Int} {l : List Arc} {n k : Nat} (h : ¬ 0 < (clsL S l n k).length) : regTo S l n k = regTo S l n (k + 1) := selTo_no (decide_eq_false h)

def exB (x : Sgr) (sig : Int) : Bool := outSig x sig && madeB x

def exR (x : Sgr) (sig : Int) (up : Bool) : List (List Int) := regL (excS x sig up) x.arcs x.codes.length

def exV (x : Sgr) (sig : Int) (up : Bool) : List (List Int) := if exB x sig then exR x sig up else []

theorem exB_has {x : Sgr} {sig : Int} (h : exB x sig = true) : SgOk x ∧ 0 ≤ sig ∧ sig.toNat < x.sigs.length := by
 unfold exB at h
 rw [Bool.and_eq_true] at h
 exact ⟨made_ok h.2, (outSig_has h.1).2⟩

theorem exR_le (x : Sgr) (sig : Int) (up : Bool) : (exR x sig up).length ≤ x.codes.length := regTo_le _ _ _ _

theorem exR_in {x : Sgr} {sig : Int} {up : Bool} : ∀ r ∈ exR x sig up, r.length ≤ x.codes.length ∧ Rising r ∧ ∀ a ∈ r, (0 ≤ a ∧ a.toNat < x.codes.length) ∧ a ∈ excS x sig up := regL_in

theorem exV_yes {x : Sgr} {sig : Int} {up : Bool} (h : exB x sig = true) : exV x sig up = exR x sig up := by rw [exV, h]; rfl

theorem exV_no {x : Sgr} {sig : Int} {up : Bool} (h : exB x sig = false) : exV x sig up = [] := by rw [exV, h]; rfl

theorem setok {x : Sgr} (hx : SgOk x) (sig : Int) (up : Bool) : SetOk (excS x sig up) x.arcs x.codes.length := ⟨hx.ends, excTo_rising x sig up _, fun a ha => (setL_mem.1 ha).1⟩

theorem lenTo_bd {xs : List (List Int)} {B : Nat} (h : ∀ r ∈ xs, r.length ≤ B) : ∀ m, lenTo xs m ≤ m * B
  | 0 => Nat.le_of_eq (by rw [lenTo_zero, Nat.zero_mul])
  | m + 1 => by
    have ih := lenTo_bd h m
    by_cases hm : m < xs.length
    · rw [lenTo_succ hm]
      have := h _ (getD_mem (l := xs) (j := m) (d := default) hm)
      rw [Nat.succ_mul]; omega
    · have e1 := lenTo_all (xs := xs) (m := m) (by omega)
      have e2 := lenTo_all (xs := xs) (m := m + 1) (by omega)
      rw [e2, ← e1, Nat.succ_mul]; omega

theorem exV_small {x : Sgr} {sig : Int} {up : Bool} : (exV x sig up).length ≤ 300 ∧ (∀ r ∈ exV x sig up, r.length ≤ 300) ∧ lenTo (exV x sig up) (exV x sig up).length ≤ 90000 := by
 have h2 : (exV x sig up).length ≤ 300 ∧ ∀ r ∈ exV x sig up, r.length ≤ 300 := by
  cases hb : exB x sig with
  | false => rw [exV_no hb]; exact ⟨Nat.zero_le _, fun r hr => by cases hr⟩
  | true =>
   have hx := (exB_has hb).1
   have hl := hx.len
   rw [exV_yes hb]
   exact ⟨Nat.le_trans (exR_le x sig up) hl.2, fun r hr => Nat.le_trans (exR_in r hr).1 hl.2⟩
 refine ⟨h2.1, h2.2, Nat.le_trans (lenTo_bd h2.2 _) ?_⟩
 have := h2.1
 omega

theorem sp_impl_hasOutput (x : Sgr) (sig : Int) (hb : x.bulk ≤ 1048576) : Sp Tryz.prog 87 [(.agg [(.slice false 2 (x.sigs.map Sgn.d)), (.slice false 1 (x.codes.map D.str)), (.slice false 4 (x.arcs.map Arc.d))]), (.int .i64 sig)] [.any, .any] (.bool (exB x sig)) := by
 refine Sp_intro (lend := true) Tryz.func87 rfl rfl rfl (fun _ => rfl) (fun c hc hX => ?_)
 obtain ⟨hp0, hp1, hp2⟩ := Sgr.parts hb
 have hn0 := bulkF_len hp0
 have hn1 := bulk_len hp1
 have hx1 := bulk_mem hp1
 have hn2 := bulkF_len hp2
 refine T_seq (T_region hc (Ch.s (.ptr 2000 0) (.box 2000 _ _ rfl (.aggD _)) (Ch.s (.d (.bool false)) pa (Ch.nil (T_seq (T_region hc (Ch.s (.d (.int .i64 sig)) pm ?_)))))))
 refine Ch.s (.ptr 2000 0) (.pure (.fldPtr _ _ _ rfl fld35_0 rfl)) (Ch.s (.d (.slice false 2 (x.sigs.map Sgn.d))) (.pure (.loadPtr1 _ _ rfl ag32 rfl rfl rfl)) (Ch.s (.d (.int .i64 ((x.sigs.length : Nat) : Int))) (.pure (.len _ _ 154 rfl Tryz.underlying32 (.sh _ _) (by simp))) (Ch.s (.d (.int .i64 (((x.sigs.length : Nat) : Int) - 1))) (.pure (.int _ _ _ _ _ rfl rfl rfl intV_subA)) (Ch.s (.d (.bool (withinB sig 0 (((x.sigs.length : Nat) : Int) - 1)))) (.call 10000 91 _ _ _ en91 rfl (.inl rfl) (.cons (.d _) (.cons (.d _) (.cons (.d _) .nil))) rfl rfl (sp_impl_within sig 0 (((x.sigs.length : Nat) : Int) - 1)) (.skip _ _ (.skip _ _ (.skip _ _ .nil))) rfl) (Ch.s (.d (.bool (withinB sig 0 (((x.sigs.length : Nat) : Int) - 1)))) pm ?_)))))
 cases h1 : (withinB sig 0 (((x.sigs.length : Nat) : Int) - 1)) with
 | true =>
  try have hw1 := within_two h1
  refine Ch.s (.ptr 2000 0) (.pure (.fldPtr _ _ _ rfl fld35_0 rfl)) (Ch.s (.d (.slice false 2 (x.sigs.map Sgn.d))) (.pure (.loadPtr1 _ _ rfl ag32 rfl rfl rfl)) (Ch.s (.d (.int .i64 sig)) pm (Ch.s (.d (.ref (.agg [(.str ((x.sigs.getD ((sig).toNat) default).name)), (.int .i64 ((x.sigs.getD ((sig).toNat) default).kind))]))) (.pure (.idx _ _ _ 154 ((sig).toNat) rfl Tryz.underlying32 sz154 rfl rfl (by omega) get_mapA)) (Ch.s (.d (.ref (.int .i64 ((x.sigs.getD ((sig).toNat) default).kind)))) (.pure (.fldRef _ _ _ rfl fld154_1 rfl rfl rfl)) (Ch.s (.d (.int .i64 ((x.sigs.getD ((sig).toNat) default).kind))) (.pure (.loadRef1 _ _ rfl ag3 rfl rfl)) (Ch.s (.d (.bool (!(decide (((x.sigs.getD ((sig).toNat) default).kind) = 1))))) (.pure (.int _ _ _ _ _ rfl rfl rfl rfl)) (Ch.s (.d (.bool (!(decide (((x.sigs.getD ((sig).toNat) default).kind) = 1))))) (.pure (.pickT _ _ _ rfl rfl rfl)) ?_)))))))
  refine Ch.s (.d (.bool (!(decide (((x.sigs.getD ((sig).toNat) default).kind) = 1))))) pm ?_
  cases h2 : (decide (((x.sigs.getD ((sig).toNat) default).kind) = 1)) with
  | true =>
   replace h2 := of_decide_eq_true h2
   refine Ch.skip rfl rfl (Ch.skip rfl rfl (Ch.s (.d (.bool false)) (.pure (.pickF _ _ _ rfl rfl rfl)) (Ch.s (.d (.bool false)) pa (Ch.nil (T_ret ?_)))))
   exact endR [(.d (.bool false))] [] [] (.cons (.tmp 4 rfl) .nil) (.cons (.any _) (.cons (.any _) .nil)) (Exp.of (congrArg D.bool (by first | (simp_all [exB, outSig, hasSigB, madeB]; done))) (.d _)) rfl rfl
  | false =>
   replace h2 := of_decide_eq_false h2
   refine Ch.s (.agg [(.d (.slice false 2 (x.sigs.map Sgn.d))), (.d (.slice false 1 (x.codes.map D.str))), (.d (.slice false 4 (x.arcs.map Arc.d)))]) (.pure (.loadPtrA _ _ rfl ag35 sz35 rfl rfl (Nat.le_of_ble_eq_true rfl) rfl)) (Ch.s (.d (.bool (madeB x))) (.call 22000 111 _ _ _ en111 rfl (.inl rfl) (.cons (.lend (.agg (.cons (.d _) (.cons (.d _) (.cons (.d _) .nil))) rfl)) .nil) rfl rfl (sp_impl_isMade x (by first | assumption | omega | (rw [List.length_take]; omega) | (have := bulkF_mem hb _ (getD_mem (d := default) (by omega)); assumption) | (unfold bulkS at *; omega) | (simp_all; done))) (.skip _ _ .nil) rfl) (Ch.s (.d (.bool (madeB x))) (.pure (.pickT _ _ _ rfl rfl rfl)) (Ch.s (.d (.bool (madeB x))) pa (Ch.nil (T_ret ?_)))))
   exact endR [(.d (.bool (madeB x)))] [] [] (.cons (.tmp 4 rfl) .nil) (.cons (.any _) (.cons (.any _) .nil)) (Exp.of (congrArg D.bool (by first | (simp_all [exB, outSig, hasSigB, madeB]; done))) (.d _)) rfl rfl
 | false =>
  try have hw1 := within_two h1
  refine Ch.skip rfl rfl (Ch.skip rfl rfl (Ch.skip rfl rfl (Ch.skip rfl rfl (Ch.skip rfl rfl (Ch.skip rfl rfl (Ch.skip rfl rfl (Ch.s (.d (.bool false)) (.pure (.pickF _ _ _ rfl rfl rfl)) ?_)))))))
  refine Ch.s (.d (.bool false)) pm (Ch.skip rfl rfl (Ch.skip rfl rfl (Ch.s (.d (.bool false)) (.pure (.pickF _ _ _ rfl rfl rfl)) (Ch.s (.d (.bool false)) pa (Ch.nil (T_ret ?_))))))
  exact endR [(.d (.bool false))] [] [] (.cons (.tmp 4 rfl) .nil) (.cons (.any _) (.cons (.any _) .nil)) (Exp.of (congrArg D.bool (by first | (simp_all [exB, outSig, hasSigB, madeB]; done))) (.d _)) rfl rfl

theorem sp_spec_l17Asked (x : Sgr) (sig : Int) (hb : x.bulk ≤ 1048576) : Sp Tryz.prog 85 [(.agg [(.slice false 2 (x.sigs.map Sgn.d)), (.slice false 1 (x.codes.map D.str)), (.slice false 4 (x.arcs.map Arc.d))]), (.int .i64 sig)] [.any, .any] (.bool (exB x sig)) := by
 refine Sp_intro (lend := true) Tryz.func85 rfl rfl rfl (fun _ => rfl) (fun c hc hX => ?_)
 obtain ⟨hp0, hp1, hp2⟩ := Sgr.parts hb
 have hn0 := bulkF_len hp0
 have hn1 := bulk_len hp1
 have hx1 := bulk_mem hp1
 have hn2 := bulkF_len hp2
 refine T_seq (T_region hc (Ch.s (.ptr 2000 0) (.box 2000 _ _ rfl (.aggD _)) (Ch.s (.d (.bool false)) pa (Ch.nil (T_seq (T_region hc (Ch.s (.agg [(.d (.slice false 2 (x.sigs.map Sgn.d))), (.d (.slice false 1 (x.codes.map D.str))), (.d (.slice false 4 (x.arcs.map Arc.d)))]) (.pure (.loadPtrA _ _ rfl ag35 sz35 rfl rfl (Nat.le_of_ble_eq_true rfl) rfl)) ?_)))))))
 refine Ch.s (.d (.int .i64 sig)) pm (Ch.s (.d (.bool (outSig x sig))) (.call 7000 134 _ _ _ en134 rfl (.inl rfl) (.cons (.lend (.agg (.cons (.d _) (.cons (.d _) (.cons (.d _) .nil))) rfl)) (.cons (.d _) .nil)) rfl rfl (sp_spec_l15Asked x sig (by first | assumption | omega | (rw [List.length_take]; omega) | (have := bulkF_mem hb _ (getD_mem (d := default) (by omega)); assumption) | (unfold bulkS at *; omega) | (simp_all; done))) (.skip _ _ (.skip _ _ .nil)) rfl) (Ch.s (.d (.bool (outSig x sig))) pm ?_))
 cases h1 : (outSig x sig) with
 | true =>
  try have hx := sg_has (outSig_has h1).1
  refine Ch.s (.agg [(.d (.slice false 2 (x.sigs.map Sgn.d))), (.d (.slice false 1 (x.codes.map D.str))), (.d (.slice false 4 (x.arcs.map Arc.d)))]) (.pure (.loadPtrA _ _ rfl ag35 sz35 rfl rfl (Nat.le_of_ble_eq_true rfl) rfl)) (Ch.s (.d (.str (whyW x))) (.call 10000 94 _ _ _ en94 rfl (.inl rfl) (.cons (.lend (.agg (.cons (.d _) (.cons (.d _) (.cons (.d _) .nil))) rfl)) .nil) rfl rfl (sp_spec_l6Why x (by first | assumption | omega | (rw [List.length_take]; omega) | (have := bulkF_mem hb _ (getD_mem (d := default) (by omega)); assumption) | (unfold bulkS at *; omega) | (simp_all; done)) (by assumption)) (.skip _ _ .nil) rfl) (Ch.s (.d (.bool (decide ((whyW x) = [109, 97, 100, 101])))) (.pure (.str _ _ _ _ _ rfl rfl rfl rfl)) (Ch.s (.d (.bool (decide ((whyW x) = [109, 97, 100, 101])))) (.pure (.pickT _ _ _ rfl rfl rfl)) (Ch.s (.d (.bool (decide ((whyW x) = [109, 97, 100, 101])))) pa (Ch.nil (T_ret ?_))))))
  exact endR [(.d (.bool (decide ((whyW x) = [109, 97, 100, 101]))))] [] [] (.cons (.tmp 4 rfl) .nil) (.cons (.any _) (.cons (.any _) .nil)) (Exp.of (congrArg D.bool (by first | (simp_all [exB, outSig, hasSigB, madeB]; done))) (.d _)) rfl rfl
 | false =>
  try have hx := sg_has (outSig_has h1).1
  refine Ch.skip rfl rfl (Ch.skip rfl rfl (Ch.skip rfl rfl (Ch.s (.d (.bool false)) (.pure (.pickF _ _ _ rfl rfl rfl)) (Ch.s (.d (.bool false)) pa (Ch.nil (T_ret ?_))))))
  exact endR [(.d (.bool false))] [] [] (.cons (.tmp 4 rfl) .nil) (.cons (.any _) (.cons (.any _) .nil)) (Exp.of (congrArg D.bool (by first | (simp_all [exB, outSig, hasSigB, madeB]; done))) (.d _)) rfl rfl

theorem sp_spec_l1Least (a b : Nat) : Sp Tryz.prog 154 [(.int .i64 ((a : Nat) : Int)), (.int .i64 ((b : Nat) : Int))] [.any, .any] (.int .i64 ((min a b : Nat) : Int)) := by
 refine Sp_intro (lend := true) Tryz.func154 rfl rfl rfl (fun _ => rfl) (fun c hc hX => ?_)
 refine T_seq (T_region hc (Ch.s (.d (.int .i64 0)) pa (Ch.nil (T_seq (T_seq (T_region hc (Ch.s (.d (.int .i64 ((a : Nat) : Int))) pm ?_)))))))
 refine Ch.s (.d (.int .i64 ((b : Nat) : Int))) pm (Ch.s (.d (.bool (decide (((a : Nat) : Int) < ((b : Nat) : Int))))) (.pure (.int _ _ _ _ _ rfl rfl rfl rfl)) (Ch.nil ?_))
 refine T_cond (b := (decide (((a : Nat) : Int) < ((b : Nat) : Int)))) rfl (fun h1 => ?_) (fun h1 => ?_)
 ·
  replace h1 := of_decide_eq_true h1
  refine T_seq (T_region hc (Ch.s (.d (.int .i64 ((a : Nat) : Int))) pm (Ch.s (.d (.int .i64 ((a : Nat) : Int))) pa (Ch.nil (T_ret ?_)))))
  exact endR [(.d (.int .i64 ((a : Nat) : Int)))] [] [] (.cons (.tmp 4 rfl) .nil) (.cons (.any _) (.cons (.any _) .nil)) (Exp.of (congrArg (D.int .i64) (by omega)) (.d _)) rfl rfl
 ·
  replace h1 := of_decide_eq_false h1
  refine T_skip (T_seq (T_region hc (Ch.s (.d (.int .i64 ((b : Nat) : Int))) pm (Ch.s (.d (.int .i64 ((b : Nat) : Int))) pa (Ch.nil (T_ret ?_))))))
  exact endR [(.d (.int .i64 ((b : Nat) : Int)))] [] [] (.cons (.tmp 4 rfl) .nil) (.cons (.any _) (.cons (.any _) .nil)) (Exp.of (congrArg (D.int .i64) (by omega)) (.d _)) rfl rfl

set_option maxHeartbeats 1000000 in
theorem sp_spec_l17In (x : Sgr) (sig : Int) (up : Bool) (hb : x.bulk ≤ 1048576) (hx : SgOk x) (hs : 0 ≤ sig ∧ sig.toNat < x.sigs.length) : Sp Tryz.prog 153 [(.agg [(.slice false 2 (x.sigs.map Sgn.d)), (.slice false 1 (x.codes.map D.str)), (.slice false 4 (x.arcs.map Arc.d))]), (.int .i64 sig), (.bool (up))] [.any, .any, .any] (.slice true 1 ((inL x sig up).map D.bool)) := by
 refine Sp_intro (lend := true) Tryz.func153 rfl rfl rfl (fun _ => rfl) (fun c hc hX => ?_)
 obtain ⟨hp0, hp1, hp2⟩ := Sgr.parts hb
 have hn0 := bulkF_len hp0
 have hn1 := bulk_len hp1
 have hx1 := bulk_mem hp1
 have hn2 := bulkF_len hp2; have hxl := hx.len; have hxf := hx.few; have hen := hx.ends; have hx8 := hx.eight; have hil := inL_len x sig up; have hck := codes_at hx.codes
 refine T_seq (T_region hc (Ch.s (.ptr 3000 0) (.box 3000 _ _ rfl (.aggD _)) (Ch.s (.c (.slice none 0 0)) pa (Ch.nil (T_seq (T_region hc (Ch.s (.ptr 3000 1) (.pure (.fldPtr _ _ _ rfl fld35_1 rfl)) ?_)))))))
 refine Ch.s (.d (.slice false 1 (x.codes.map D.str))) (.pure (.loadPtr1 _ _ rfl ag23 rfl rfl rfl)) (Ch.s (.d (.int .i64 ((x.codes.length : Nat) : Int))) (.pure (.len _ _ 9 rfl Tryz.underlying23 (.sh _ _) (by simp))) (Ch.s (.row 13000) (.make 13000 _ 4 _ _ (x.codes.length) (x.codes.length) rfl sty146 rfl rfl rfl rfl (by first | omega | (simp only [List.length_map, List.length_append, List.length_take, List.length_drop, List.length_cons, List.length_nil]; omega) | (simp; omega) | (simp; done)) (by first | omega | (simp only [List.length_map, List.length_append, List.length_take, List.length_drop, List.length_cons, List.length_nil]; omega) | (simp; omega) | (simp; done)) (by first | omega | (simp only [List.length_map, List.length_append, List.length_take, List.length_drop, List.length_cons, List.length_nil]; omega) | (simp; omega) | (simp; done)) (zeroD_mk (zd := (.bool false)) zr4 (by intro S w; rw [DR]; exact ⟨rfl, rfl⟩) rfl)) (Ch.s (.row 13000) pa (Ch.nil (T_seq (T_seq (T_region hc ?_)))))))
 refine Ch.s (.ptr 3000 1) (.pure (.fldPtr _ _ _ rfl fld35_1 rfl)) (Ch.s (.d (.slice false 1 (x.codes.map D.str))) (.pure (.loadPtr1 _ _ rfl ag23 rfl rfl rfl)) (Ch.s (.d (.int .i64 ((x.codes.length : Nat) : Int))) (.pure (.len _ _ 9 rfl Tryz.underlying23 (.sh _ _) (by simp))) (Ch.s (.d (.int .i64 0)) pm (Ch.nil (T_block ?_)))))
 refine T_loop (ι := Nat) (fun k => { n := 42, sl := [(1, (.d (.int .i64 sig))), (2, (.d (.bool (up)))), (3, (.ptr 3000 0)), (7, (.row 7)), (15, (.d (.slice false 1 (x.codes.map D.str)))), (16, (.d (.int .i64 ((x.codes.length : Nat) : Int)))), (17, (.d (.int .i64 ((k : Nat) : Int))))], hp := [(7, (some (.row 1 ((fill (inL x sig up) default k).map D.bool)))), (3000, (some (.box [(.d (.slice false 2 (x.sigs.map Sgn.d))), (.d (.slice false 1 (x.codes.map D.str))), (.d (.slice false 4 (x.arcs.map Arc.d)))])))], pin := [] }) (fun k => k ≤ x.codes.length) (fun k => x.codes.length - k) ⟨0, (by omega), (Wk.ren [(7, 13000)] rfl rfl rfl rfl (ai rfl (ai rfl (ai rfl (ai rfl (ai rfl (ai rfl (ai (vI (by first | rfl | omega | (simp; done) | (simp; omega))) trivial))))))) (ai (oR (by first | (rw [fill_zero, List.map_replicate, hil]; rfl) | (rw [← inL_yes hx (by omega) hs (by assumption), List.map_set]; done) | (rw [← inL_no hx (by omega) hs.1 (by assumption), List.map_set]; done))) (ai rfl trivial)))⟩ (fun k hp0 => ?_)
 refine T_seq (T_region hc (Ch.s (.d (.bool (decide (((k : Nat) : Int) < ((x.codes.length : Nat) : Int))))) (.pure (.int _ _ _ _ _ rfl rfl rfl rfl)) (Ch.nil (T_seq ?_))))
 refine T_cond (b := (decide (((k : Nat) : Int) < ((x.codes.length : Nat) : Int)))) rfl (fun h1 => ?_) (fun h1 => ?_)
 ·
  replace h1 := of_decide_eq_true h1
  try have hlk : (x.codes.getD k default).length = x.sigs.length := (hck (k : Int) (by omega) (by omega)).2
  refine T_skip (T_seq (T_block (T_seq (T_region hc (Ch.s (.d (.int .i64 ((k : Nat) : Int))) pm (Ch.s (.d (.ref (.str (x.codes.getD k default)))) (.pure (.idx _ _ _ 9 (k) rfl Tryz.underlying23 sz9 rfl rfl rfl get_mapA)) (Ch.s (.d (.str (x.codes.getD k default))) (.pure (.loadRef1 _ _ rfl ag9 rfl rfl)) ?_)))))))
  refine Ch.s (.d (.int .i64 ((k : Nat) : Int))) pa (Ch.s (.d (.str (x.codes.getD k default))) pa (Ch.nil ?_))
  refine T_regionD hc (by kernel_rfl) ?_
  refine ChD.s (.row 7) [] pm (ChD.s (.d (.int .i64 ((k : Nat) : Int))) [] pm (ChD.s (.agg [(.d (.slice false 2 (x.sigs.map Sgn.d))), (.d (.slice false 1 (x.codes.map D.str))), (.d (.slice false 4 (x.arcs.map Arc.d)))]) [3000] (.pure (.loadPtrA _ _ rfl ag35 sz35 rfl rfl (Nat.le_of_ble_eq_true rfl) rfl)) (ChD.s (.d (.int .i64 ((k : Nat) : Int))) [] pm (ChD.s (.d (.int .i64 sig)) [] pm (ChD.s (.d (.bool (excB x ((k : Nat) : Int) sig))) [] (.call 27000 158 _ _ _ en158 rfl (.inl rfl) (.cons (.lend (.agg (.cons (.d _) (.cons (.d _) (.cons (.d _) .nil))) rfl)) (.cons (.d _) (.cons (.d _) .nil))) rfl rfl (sp_spec_l5Excited x ((k : Nat) : Int) sig (by first | assumption | omega | (rw [List.length_take]; omega) | (have := bulkF_mem hb _ (getD_mem (d := default) (by omega)); assumption) | (unfold bulkS at *; omega) | (simp_all; done))) (.skip _ _ (.skip _ _ (.skip _ _ .nil))) rfl) (ChD.s (.d (.bool (excB x ((k : Nat) : Int) sig))) [] pm ?_))))))
  cases h2 : (excB x ((k : Nat) : Int) sig) with
  | true =>
   try have hlk : (x.codes.getD k default).length = x.sigs.length := (hck (k : Int) (by omega) (by omega)).2
   refine ChD.s (.d (.str (x.codes.getD k default))) [] pm (ChD.s (.d (.int .i64 sig)) [] pm (ChD.s (.d (.int .i64 sig)) [] pm (ChD.s (.d (.int .i64 (sig + 1))) [] (.pure (.int _ _ _ _ _ rfl rfl rfl intV_addA)) (ChD.s (.d (.str [(x.codes.getD k default).getD ((sig).toNat) 0])) [] (.pure (.sliceStr _ _ _ _ ((sig).toNat) (((sig + 1)).toNat) rfl Tryz.underlying9 rfl (bndS rfl (by omega)) (bndS rfl (by omega)) (by first | omega | (simp only [List.length_map, List.length_append, List.length_take, List.length_drop, List.length_cons, List.length_nil]; omega) | (simp; omega) | (simp; done)) (by first | omega | (simp only [List.length_map, List.length_append, List.length_take, List.length_drop, List.length_cons, List.length_nil]; omega) | (simp; omega) | (simp; done)) (slice_oneI (by first | omega | (simp only [List.length_map, List.length_append, List.length_take, List.length_drop, List.length_cons, List.length_nil]; omega) | (simp; omega) | (simp; done)) (by omega)))) (ChD.s (.d (.bool (up))) [] pm (ChD.s (.d (.bool (!(up)))) [] (.pure (.not _ _ rfl rfl)) (ChD.s (.d (.str ([bitN (!(up))]))) [] (.call 36000 214 _ _ _ en214 rfl (.inl rfl) (.cons (.d _) .nil) rfl rfl (sp_spec_l5Bit (!(up))) (.skip _ _ .nil) rfl) ?_)))))))
   refine ChD.s (.d (.bool (decide ([(x.codes.getD k default).getD ((sig).toNat) 0] = ([bitN (!(up))]))))) [] (.pure (.str _ _ _ _ _ rfl rfl rfl rfl)) (ChD.s (.d (.bool (decide ([(x.codes.getD k default).getD ((sig).toNat) 0] = ([bitN (!(up))]))))) [] (.pure (.pickT _ _ _ rfl rfl rfl)) (ChD.s (.el 7 1 k 0) [7] (.pure (.idxRow _ _ _ 4 (k) rfl Tryz.underlying146 sz4 rfl rfl rfl rfl (by first | omega | (simp only [List.length_map, List.length_set]; omega) | (simp; omega)))) (ChD.s .junk [7] (.storeEl (y' := (.bool (decide ([(x.codes.getD k default).getD ((sig).toNat) 0] = ([bitN (!(up))]))))) _ _ _ rfl rfl rfl (.d _) rfl sz4 rfl get_mapA rfl rfl) ?_)))
   refine ChD.nil (And.intro ?_ (by kernel_rfl))
   refine T_region hc (Ch.s (.d (.int .i64 (((k : Nat) : Int) + 1))) (.pure (.int _ _ _ _ _ rfl rfl rfl intV_addA)) (Ch.s (.d (.int .i64 (((k : Nat) : Int) + 1))) pm (Ch.nil ?_)))
   exact nx (k + 1) (by omega) (Wk.of rfl rfl (ai rfl (ai rfl (ai rfl (ai rfl (ai rfl (ai rfl (ai (vI (by first | rfl | omega | (simp; done) | (simp; omega))) trivial))))))) (ai (oR (by first | (rw [fill_zero, List.map_replicate, hil]; rfl) | (rw [← inL_yes hx (by omega) hs (by assumption), List.map_set]; done) | (rw [← inL_no hx (by omega) hs.1 (by assumption), List.map_set]; done))) (ai rfl trivial)))
  | false =>
   try have hlk : (x.codes.getD k default).length = x.sigs.length := (hck (k : Int) (by omega) (by omega)).2
   refine ChD.skip rfl rfl (ChD.skip rfl rfl (ChD.skip rfl rfl (ChD.skip rfl rfl (ChD.skip rfl rfl (ChD.skip rfl rfl (ChD.skip rfl rfl (ChD.skip rfl rfl ?_)))))))
   refine ChD.skip rfl rfl (ChD.s (.d (.bool false)) [] (.pure (.pickF _ _ _ rfl rfl rfl)) (ChD.s (.el 7 1 k 0) [7] (.pure (.idxRow _ _ _ 4 (k) rfl Tryz.underlying146 sz4 rfl rfl rfl rfl (by first | omega | (simp only [List.length_map, List.length_set]; omega) | (simp; omega)))) (ChD.s .junk [7] (.storeEl (y' := (.bool false)) _ _ _ rfl rfl rfl (.d _) rfl sz4 rfl get_mapA rfl rfl) ?_)))
   refine ChD.nil (And.intro ?_ (by kernel_rfl))
   refine T_region hc (Ch.s (.d (.int .i64 (((k : Nat) : Int) + 1))) (.pure (.int _ _ _ _ _ rfl rfl rfl intV_addA)) (Ch.s (.d (.int .i64 (((k : Nat) : Int) + 1))) pm (Ch.nil ?_)))
   exact nx (k + 1) (by omega) (Wk.of rfl rfl (ai rfl (ai rfl (ai rfl (ai rfl (ai rfl (ai rfl (ai (vI (by first | rfl | omega | (simp; done) | (simp; omega))) trivial))))))) (ai (oR (by first | (rw [fill_zero, List.map_replicate, hil]; rfl) | (rw [← inL_yes hx (by omega) hs (by assumption), List.map_set]; done) | (rw [← inL_no hx (by omega) hs.1 (by assumption), List.map_set]; done))) (ai rfl trivial)))
 ·
  replace h1 := of_decide_eq_false h1
  try have hlk : (x.codes.getD k default).length = x.sigs.length := (hck (k : Int) (by omega) (by omega)).2
  refine T_exit (T_seq (T_region hc (Ch.s (.row 7) pm (Ch.s (.row 7) pa (Ch.nil (T_ret ?_))))))
  exact endR [(.row 7)] [] [7] (.cons (.tmp 6 rfl) .nil) (.cons (.any _) (.cons (.any _) (.cons (.any _) .nil))) (Exp.of (congrArg (D.slice true 1) (by rw [fill_all _ _ (by omega)])) (.row rfl)) rfl rfl

set_option maxHeartbeats 2000000 in
theorem sp_spec_l17Regions (x : Sgr) (sig : Int) (up : Bool) (hb : x.bulk ≤ 1048576) (hx : SgOk x) (hs : 0 ≤ sig ∧ sig.toNat < x.sigs.length) : Sp Tryz.prog 86 [(.agg [(.slice false 2 (x.sigs.map Sgn.d)), (.slice false 1 (x.codes.map D.str)), (.slice false 4 (x.arcs.map Arc.d))]), (.int .i64 sig), (.bool (up))] [.any, .any, .any] (.slice true 1 ((exR x sig up).map intsU)) := by
 refine Sp_intro (lend := true) Tryz.func86 rfl rfl rfl (fun _ => rfl) (fun c hc hX => ?_)
 obtain ⟨hp0, hp1, hp2⟩ := Sgr.parts hb
 have hn0 := bulkF_len hp0
 have hn1 := bulk_len hp1
 have hx1 := bulk_mem hp1
 have hn2 := bulkF_len hp2; have hxl := hx.len; have hxf := hx.few; have hen := hx.ends; have hx8 := hx.eight; have hil := inL_len x sig up; have hck := codes_at hx.codes
 refine T_seq (T_region hc (Ch.s (.ptr 3000 0) (.box 3000 _ _ rfl (.aggD _)) (Ch.s (.c (.slice none 0 0)) pa (Ch.nil (T_seq (T_region hc (Ch.s (.agg [(.d (.slice false 2 (x.sigs.map Sgn.d))), (.d (.slice false 1 (x.codes.map D.str))), (.d (.slice false 4 (x.arcs.map Arc.d)))]) (.pure (.loadPtrA _ _ rfl ag35 sz35 rfl rfl (Nat.le_of_ble_eq_true rfl) rfl)) ?_)))))))
 refine Ch.s (.d (.int .i64 sig)) pm (Ch.s (.d (.bool (up))) pm ?_)
 refine Ch.step (v := (.row 20000)) rfl (.call 20000 153 _ _ _ en153 rfl (.inl rfl) (.cons (.lend (.agg (.cons (.d _) (.cons (.d _) (.cons (.d _) .nil))) rfl)) (.cons (.d _) (.cons (.d _) .nil))) rfl (sol (solid_row (fun _ => rfl) _) rfl) (sp_spec_l17In x sig (up) (by first | assumption | omega | (rw [List.length_take]; omega) | (have := bulkF_mem hb _ (getD_mem (d := default) (by omega)); assumption) | (unfold bulkS at *; omega) | (simp_all; done)) (by assumption) (by first | assumption | omega)) (.skip _ _ (.skip _ _ (.skip _ _ .nil))) rfl) rfl rfl ?_
 refine Ch.s (.row 20000) pa (Ch.nil (T_seq (T_region hc (Ch.s (.row 20000) pm (Ch.s (.d (.int .i64 (((inL x sig (up)).length : Nat) : Int))) (.pure (.len _ _ 4 rfl Tryz.underlying146 (.row rfl) (by simp))) (Ch.s (.row 23000) (.make 23000 _ 3 _ _ ((inL x sig (up)).length) ((inL x sig (up)).length) rfl sty55 rfl rfl rfl rfl (by first | omega | (simp only [List.length_map, List.length_append, List.length_take, List.length_drop, List.length_cons, List.length_nil]; omega) | (simp; omega) | (simp; done)) (by first | omega | (simp only [List.length_map, List.length_append, List.length_take, List.length_drop, List.length_cons, List.length_nil]; omega) | (simp; omega) | (simp; done)) (by first | omega | (simp only [List.length_map, List.length_append, List.length_take, List.length_drop, List.length_cons, List.length_nil]; omega) | (simp; omega) | (simp; done)) (zeroD_mk (zd := (.int .i64 0)) zr3 (by intro S w; rw [DR]; exact ⟨rfl, rfl⟩) rfl)) (Ch.s (.row 23000) pa ?_)))))))
 refine Ch.nil (T_seq (T_seq (T_region hc (Ch.s (.row 23000) pm (Ch.s (.d (.int .i64 (((inL x sig (up)).length : Nat) : Int))) (.pure (.len _ _ 3 rfl Tryz.underlying55 (.row rfl) List.length_replicate)) (Ch.s (.d (.int .i64 0)) pm (Ch.nil ?_)))))))
 refine T_block ?_
 refine T_loop (ι := Nat) (fun k => { n := 116, sl := [(3, (.ptr 3000 0)), (7, (.row 20000)), (8, (.row 8)), (25, (.d (.int .i64 (((inL x sig (up)).length : Nat) : Int)))), (26, (.d (.int .i64 ((k : Nat) : Int))))], hp := [(8, (some (.row 1 ((fill (List.range x.codes.length) default k).map (fun n : Nat => D.int .i64 (n : Int)))))), (3000, (some (.box [(.d (.slice false 2 (x.sigs.map Sgn.d))), (.d (.slice false 1 (x.codes.map D.str))), (.d (.slice false 4 (x.arcs.map Arc.d)))]))), (20000, (some (.row 1 ((inL x sig (up)).map D.bool))))], pin := [] }) (fun k => k ≤ x.codes.length) (fun k => x.codes.length - k) ⟨0, (by omega), (Wk.ren [(8, 23000)] rfl rfl rfl rfl (ai rfl (ai rfl (ai rfl (ai rfl (ai (vI (by first | rfl | omega | (simp; done) | (simp; omega))) trivial))))) (ai (oR (by first | (rw [fill_zero, List.map_replicate, List.length_range, hil]; rfl) | (rw [← fill_setV (v := k) (by rw [List.length_range]; omega) (range_at (by omega)), List.map_set]; done))) (ai rfl (ai rfl trivial))))⟩ (fun k hp0 => ?_)
 refine T_seq (T_region hc (Ch.s (.d (.bool (decide (((k : Nat) : Int) < (((inL x sig (up)).length : Nat) : Int))))) (.pure (.int _ _ _ _ _ rfl rfl rfl rfl)) (Ch.nil (T_seq ?_))))
 refine T_cond (b := (decide (((k : Nat) : Int) < (((inL x sig (up)).length : Nat) : Int)))) rfl (fun h1 => ?_) (fun h1 => ?_)
 ·
  replace h1 := of_decide_eq_true h1
  refine T_skip (T_seq (T_block (T_seq (T_region hc (Ch.s (.d (.int .i64 ((k : Nat) : Int))) pm (Ch.s (.d (.int .i64 ((k : Nat) : Int))) pa (Ch.nil ?_)))))))
  refine T_region hc (Ch.s (.row 8) pm (Ch.s (.d (.int .i64 ((k : Nat) : Int))) pm (Ch.s (.d (.int .i64 ((k : Nat) : Int))) pm (Ch.s (.el 8 1 k 0) (.pure (.idxRow _ _ _ 3 (k) rfl Tryz.underlying55 sz3 rfl rfl rfl rfl (by first | omega | (simp only [List.length_map, List.length_set]; omega) | (simp; omega)))) (Ch.s .junk (.storeEl (y' := (.int .i64 ((k : Nat) : Int))) _ _ _ rfl rfl rfl (.d _) rfl sz3 rfl get_mapA rfl rfl) (Ch.nil (T_region hc ?_)))))))
  refine Ch.s (.d (.int .i64 (((k : Nat) : Int) + 1))) (.pure (.int _ _ _ _ _ rfl rfl rfl intV_addA)) (Ch.s (.d (.int .i64 (((k : Nat) : Int) + 1))) pm (Ch.nil ?_))
  exact nx (k + 1) (by omega) (Wk.of rfl rfl (ai rfl (ai rfl (ai rfl (ai rfl (ai (vI (by first | rfl | omega | (simp; done) | (simp; omega))) trivial))))) (ai (oR (by first | (rw [fill_zero, List.map_replicate, List.length_range, hil]; rfl) | (rw [← fill_setV (v := k) (by rw [List.length_range]; omega) (range_at (by omega)), List.map_set]; done))) (ai rfl (ai rfl trivial))))
 ·
  replace h1 := of_decide_eq_false h1
  refine T_exit (T_seq (T_seq (T_region hc (Ch.s (.row 20000) pm (Ch.s (.d (.int .i64 (((inL x sig (up)).length : Nat) : Int))) (.pure (.len _ _ 4 rfl Tryz.underlying146 (.row rfl) (by simp))) (Ch.s (.d (.int .i64 0)) pm (Ch.nil ?_)))))))
  refine T_block ?_
  refine T_loop (ι := Nat) (fun p => { n := 116, sl := [(3, (.ptr 3000 0)), (7, (.row 20000)), (8, (.row 8)), (35, (.d (.int .i64 (((inL x sig (up)).length : Nat) : Int)))), (36, (.d (.int .i64 ((p : Nat) : Int))))], hp := [(8, (some (.row 1 ((pTo x (excS x sig up) p 0).map (fun n : Nat => D.int .i64 (n : Int)))))), (3000, (some (.box [(.d (.slice false 2 (x.sigs.map Sgn.d))), (.d (.slice false 1 (x.codes.map D.str))), (.d (.slice false 4 (x.arcs.map Arc.d)))]))), (20000, (some (.row 1 ((inL x sig (up)).map D.bool))))], pin := [] }) (fun p => p ≤ x.codes.length) (fun p => x.codes.length - p) ⟨0, (by omega), (Wk.of rfl rfl (ai rfl (ai rfl (ai rfl (ai rfl (ai (vI (by first | rfl | omega | (simp; done) | (simp; omega))) trivial))))) (ai (oR (by first | (rw [fill_all _ _ (by simp; omega)]; rfl) | (rw [pTo_next (by omega)]; done))) (ai rfl (ai rfl trivial))))⟩ (fun p hp1 => ?_)
  refine T_seq (T_region hc (Ch.s (.d (.bool (decide (((p : Nat) : Int) < (((inL x sig (up)).length : Nat) : Int))))) (.pure (.int _ _ _ _ _ rfl rfl rfl rfl)) (Ch.nil (T_seq ?_))))
  refine T_cond (b := (decide (((p : Nat) : Int) < (((inL x sig (up)).length : Nat) : Int)))) rfl (fun h2 => ?_) (fun h2 => ?_)
  ·
   replace h2 := of_decide_eq_true h2
   try have hek := hen _ (getD_mem (l := x.arcs) (j := m) (d := default) (by omega))
   refine T_skip (T_seq (T_block (T_seq (T_region hc (Ch.s (.ptr 3000 2) (.pure (.fldPtr _ _ _ rfl fld35_2 rfl)) (Ch.s (.d (.slice false 4 (x.arcs.map Arc.d))) (.pure (.loadPtr1 _ _ rfl ag33 rfl rfl rfl)) (Ch.s (.d (.int .i64 ((x.arcs.length : Nat) : Int))) (.pure (.len _ _ 125 rfl Tryz.underlying33 (.sh _ _) (by simp))) ?_)))))))
   refine Ch.s (.d (.int .i64 0)) pm (Ch.nil (T_block ?_))
   refine T_loop (ι := Nat) (fun m => { n := 116, sl := [(3, (.ptr 3000 0)), (7, (.row 20000)), (8, (.row 8)), (35, (.d (.int .i64 (((inL x sig (up)).length : Nat) : Int)))), (36, (.d (.int .i64 ((p : Nat) : Int)))), (39, (.d (.slice false 4 (x.arcs.map Arc.d)))), (40, (.d (.int .i64 ((x.arcs.length : Nat) : Int)))), (41, (.d (.int .i64 ((m : Nat) : Int))))], hp := [(8, (some (.row 1 ((pTo x (excS x sig up) p m).map (fun n : Nat => D.int .i64 (n : Int)))))), (3000, (some (.box [(.d (.slice false 2 (x.sigs.map Sgn.d))), (.d (.slice false 1 (x.codes.map D.str))), (.d (.slice false 4 (x.arcs.map Arc.d)))]))), (20000, (some (.row 1 ((inL x sig (up)).map D.bool))))], pin := [] }) (fun m => m ≤ x.arcs.length) (fun m => x.arcs.length - m) ⟨0, (by omega), (Wk.of rfl rfl (ai rfl (ai rfl (ai rfl (ai rfl (ai rfl (ai rfl (ai rfl (ai (vI (by first | rfl | omega | (simp; done) | (simp; omega))) trivial)))))))) (ai rfl (ai rfl (ai rfl trivial))))⟩ (fun m hp2 => ?_)
   have hpl := pTo_len x (excS x sig up) p m
   refine T_seq (T_region hc (Ch.s (.d (.bool (decide (((m : Nat) : Int) < ((x.arcs.length : Nat) : Int))))) (.pure (.int _ _ _ _ _ rfl rfl rfl rfl)) (Ch.nil (T_seq ?_))))
   refine T_cond (b := (decide (((m : Nat) : Int) < ((x.arcs.length : Nat) : Int)))) rfl (fun h3 => ?_) (fun h3 => ?_)
   ·
    replace h3 := of_decide_eq_true h3
    try have hek := hen _ (getD_mem (l := x.arcs) (j := m) (d := default) (by omega))
    refine T_skip (T_seq (T_block (T_seq (T_region hc (Ch.s (.d (.ref (.agg [(.int .i64 ((x.arcs.getD m default).src)), (.int .i64 ((x.arcs.getD m default).sig)), (.bool ((x.arcs.getD m default).up)), (.int .i64 ((x.arcs.getD m default).dst))]))) (.pure (.idx _ _ _ 125 (m) rfl Tryz.underlying33 sz125 rfl rfl rfl get_mapA)) (Ch.s (.d (.agg [(.int .i64 ((x.arcs.getD m default).src)), (.int .i64 ((x.arcs.getD m default).sig)), (.bool ((x.arcs.getD m default).up)), (.int .i64 ((x.arcs.getD m default).dst))])) (.pure (.loadRefA _ _ rfl ag125 sz125 rfl)) (Ch.s (.ptr 11000 0) (.alloc 11000 _ rfl zer125) ?_)))))))
    refine Ch.s .junk (.storePtr _ _ _ rfl rfl rfl (.aggD _) sz125 (Nat.le_of_ble_eq_true rfl)) (Ch.nil (T_seq (T_region hc (Ch.s (.row 20000) pm (Ch.s (.ptr 11000 0) (.pure (.fldPtr _ _ _ rfl fld125_0 rfl)) (Ch.s (.d (.int .i64 ((x.arcs.getD m default).src))) (.pure (.loadPtr1 _ _ rfl ag3 rfl rfl rfl)) (Ch.s (.el 20000 1 ((((x.arcs.getD m default).src)).toNat) 0) (.pure (.idxRow _ _ _ 4 ((((x.arcs.getD m default).src)).toNat) rfl Tryz.underlying146 sz4 rfl rfl rfl (by omega) (by first | omega | (simp only [List.length_map, List.length_set]; omega) | (simp; omega)))) ?_)))))))
    refine Ch.s (.d (.bool (((inL x sig (up)).getD ((((x.arcs.getD m default).src)).toNat) default)))) (.pure (.loadEl1 _ _ rfl ag4 rfl rfl get_mapA rfl rfl rfl)) (Ch.s (.d (.bool (((inL x sig (up)).getD ((((x.arcs.getD m default).src)).toNat) default)))) pm ?_)
    cases h4 : (((inL x sig (up)).getD ((((x.arcs.getD m default).src)).toNat) default)) with
    | true =>
     refine Ch.s (.row 20000) pm (Ch.s (.ptr 11000 3) (.pure (.fldPtr _ _ _ rfl fld125_3 rfl)) (Ch.s (.d (.int .i64 ((x.arcs.getD m default).dst))) (.pure (.loadPtr1 _ _ rfl ag3 rfl rfl rfl)) (Ch.s (.el 20000 1 ((((x.arcs.getD m default).dst)).toNat) 0) (.pure (.idxRow _ _ _ 4 ((((x.arcs.getD m default).dst)).toNat) rfl Tryz.underlying146 sz4 rfl rfl rfl (by omega) (by first | omega | (simp only [List.length_map, List.length_set]; omega) | (simp; omega)))) (Ch.s (.d (.bool (((inL x sig (up)).getD ((((x.arcs.getD m default).dst)).toNat) default)))) (.pure (.loadEl1 _ _ rfl ag4 rfl rfl get_mapA rfl rfl rfl)) (Ch.s (.d (.bool (((inL x sig (up)).getD ((((x.arcs.getD m default).dst)).toNat) default)))) (.pure (.pickT _ _ _ rfl rfl rfl)) (Ch.nil ?_))))))
     refine T_cond (b := (((inL x sig (up)).getD ((((x.arcs.getD m default).dst)).toNat) default))) rfl (fun h5 => ?_) (fun h5 => ?_)
     ·
      refine T_seq ?_
      refine T_regionD hc (by kernel_rfl) ?_
      refine ChD.s (.row 8) [] pm (ChD.s (.ptr 11000 0) [] (.pure (.fldPtr _ _ _ rfl fld125_0 rfl)) (ChD.s (.d (.int .i64 ((x.arcs.getD m default).src))) [11000] (.pure (.loadPtr1 _ _ rfl ag3 rfl rfl rfl)) (ChD.s (.el 8 1 ((((x.arcs.getD m default).src)).toNat) 0) [8] (.pure (.idxRow _ _ _ 3 ((((x.arcs.getD m default).src)).toNat) rfl Tryz.underlying55 sz3 rfl rfl rfl (by omega) (by first | omega | (simp only [List.length_map, List.length_set]; omega) | (simp; omega)))) (ChD.s (.d (.int .i64 ((((pTo x (excS x sig up) p m).getD ((((x.arcs.getD m default).src)).toNat) default) : Nat) : Int))) [8] (.pure (.loadEl1 _ _ rfl ag3 rfl rfl get_mapA rfl rfl rfl)) (ChD.s (.row 8) [] pm (ChD.s (.ptr 11000 3) [] (.pure (.fldPtr _ _ _ rfl fld125_3 rfl)) (ChD.s (.d (.int .i64 ((x.arcs.getD m default).dst))) [11000] (.pure (.loadPtr1 _ _ rfl ag3 rfl rfl rfl)) ?_)))))))
      refine ChD.s (.el 8 1 ((((x.arcs.getD m default).dst)).toNat) 0) [8] (.pure (.idxRow _ _ _ 3 ((((x.arcs.getD m default).dst)).toNat) rfl Tryz.underlying55 sz3 rfl rfl rfl (by omega) (by first | omega | (simp only [List.length_map, List.length_set]; omega) | (simp; omega)))) (ChD.s (.d (.int .i64 ((((pTo x (excS x sig up) p m).getD ((((x.arcs.getD m default).dst)).toNat) default) : Nat) : Int))) [8] (.pure (.loadEl1 _ _ rfl ag3 rfl rfl get_mapA rfl rfl rfl)) (ChD.s (.d (.int .i64 ((min ((pTo x (excS x sig up) p m).getD ((((x.arcs.getD m default).src)).toNat) default) ((pTo x (excS x sig up) p m).getD ((((x.arcs.getD m default).dst)).toNat) default) : Nat) : Int))) [] (.call 67000 154 _ _ _ en154 rfl (.inl rfl) (.cons (.d _) (.cons (.d _) .nil)) rfl rfl (sp_spec_l1Least ((pTo x (excS x sig up) p m).getD ((((x.arcs.getD m default).src)).toNat) default) ((pTo x (excS x sig up) p m).getD ((((x.arcs.getD m default).dst)).toNat) default)) (.skip _ _ (.skip _ _ .nil)) rfl) (ChD.s (.d (.int .i64 ((min ((pTo x (excS x sig up) p m).getD ((((x.arcs.getD m default).src)).toNat) default) ((pTo x (excS x sig up) p m).getD ((((x.arcs.getD m default).dst)).toNat) default) : Nat) : Int))) [] pa ?_)))
      refine ChD.nil (And.intro ?_ (by kernel_rfl))
      refine T_seq (T_region hc (Ch.s (.row 8) pm (Ch.s (.ptr 11000 0) (.pure (.fldPtr _ _ _ rfl fld125_0 rfl)) (Ch.s (.d (.int .i64 ((x.arcs.getD m default).src))) (.pure (.loadPtr1 _ _ rfl ag3 rfl rfl rfl)) (Ch.s (.d (.int .i64 ((min ((pTo x (excS x sig up) p m).getD ((((x.arcs.getD m default).src)).toNat) default) ((pTo x (excS x sig up) p m).getD ((((x.arcs.getD m default).dst)).toNat) default) : Nat) : Int))) pm (Ch.s (.el 8 1 ((((x.arcs.getD m default).src)).toNat) 0) (.pure (.idxRow _ _ _ 3 ((((x.arcs.getD m default).src)).toNat) rfl Tryz.underlying55 sz3 rfl rfl rfl (by omega) (by first | omega | (simp only [List.length_map, List.length_set]; omega) | (simp; omega)))) (Ch.s .junk (.storeEl (y' := (.int .i64 ((min ((pTo x (excS x sig up) p m).getD ((((x.arcs.getD m default).src)).toNat) default) ((pTo x (excS x sig up) p m).getD ((((x.arcs.getD m default).dst)).toNat) default) : Nat) : Int))) _ _ _ rfl rfl rfl (.d _) rfl sz3 rfl get_mapA rfl rfl) ?_)))))))
      refine Ch.nil (T_region hc (Ch.s (.row 8) pm (Ch.s (.ptr 11000 3) (.pure (.fldPtr _ _ _ rfl fld125_3 rfl)) (Ch.s (.d (.int .i64 ((x.arcs.getD m default).dst))) (.pure (.loadPtr1 _ _ rfl ag3 rfl rfl rfl)) (Ch.s (.d (.int .i64 ((min ((pTo x (excS x sig up) p m).getD ((((x.arcs.getD m default).src)).toNat) default) ((pTo x (excS x sig up) p m).getD ((((x.arcs.getD m default).dst)).toNat) default) : Nat) : Int))) pm (Ch.s (.el 8 1 ((((x.arcs.getD m default).dst)).toNat) 0) (.pure (.idxRow _ _ _ 3 ((((x.arcs.getD m default).dst)).toNat) rfl Tryz.underlying55 sz3 rfl rfl rfl (by omega) (by first | omega | (simp only [List.length_map, List.length_set]; omega) | (simp; omega)))) (Ch.s .junk (.storeEl (y' := (.int .i64 ((min ((pTo x (excS x sig up) p m).getD ((((x.arcs.getD m default).src)).toNat) default) ((pTo x (excS x sig up) p m).getD ((((x.arcs.getD m default).dst)).toNat) default) : Nat) : Int))) _ _ _ rfl rfl rfl (.d _) rfl sz3 rfl (get_setM (f := (fun n : Nat => D.int .i64 (n : Int))) (l := pTo x (excS x sig up) p m) (i := (((x.arcs.getD m default).src)).toNat) (v := min ((pTo x (excS x sig up) p m).getD ((((x.arcs.getD m default).src)).toNat) default) ((pTo x (excS x sig up) p m).getD ((((x.arcs.getD m default).dst)).toNat) default)) (by first | omega | (simp only [List.length_map, List.length_set]; omega) | (simp; omega))) rfl rfl) ?_)))))))
      refine Ch.nil (T_region hc (Ch.s (.d (.int .i64 (((m : Nat) : Int) + 1))) (.pure (.int _ _ _ _ _ rfl rfl rfl intV_addA)) (Ch.s (.d (.int .i64 (((m : Nat) : Int) + 1))) pm (Ch.nil ?_))))
      exact nx (m + 1) (by omega) (Wk.of rfl rfl (ai rfl (ai rfl (ai rfl (ai rfl (ai rfl (ai rfl (ai rfl (ai (vI (by first | rfl | omega | (simp; done) | (simp; omega))) trivial)))))))) (ai (oR (by first | rfl | (rw [← pTo_yes hen (by omega) (by assumption) (by assumption), List.map_set, List.map_set]; done) | (exact congrArg (List.map _) (pTo_no1 hen (by omega) (by assumption))) | (exact congrArg (List.map _) (pTo_no2 hen (by omega) (by assumption))))) (ai rfl (ai rfl trivial))))
     ·
      refine T_skip (T_region hc (Ch.s (.d (.int .i64 (((m : Nat) : Int) + 1))) (.pure (.int _ _ _ _ _ rfl rfl rfl intV_addA)) (Ch.s (.d (.int .i64 (((m : Nat) : Int) + 1))) pm (Ch.nil ?_))))
      exact nx (m + 1) (by omega) (Wk.of rfl rfl (ai rfl (ai rfl (ai rfl (ai rfl (ai rfl (ai rfl (ai rfl (ai (vI (by first | rfl | omega | (simp; done) | (simp; omega))) trivial)))))))) (ai (oR (by first | rfl | (rw [← pTo_yes hen (by omega) (by assumption) (by assumption), List.map_set, List.map_set]; done) | (exact congrArg (List.map _) (pTo_no1 hen (by omega) (by assumption))) | (exact congrArg (List.map _) (pTo_no2 hen (by omega) (by assumption))))) (ai rfl (ai rfl trivial))))
    | false =>
     refine Ch.skip rfl rfl (Ch.skip rfl rfl (Ch.skip rfl rfl (Ch.skip rfl rfl (Ch.skip rfl rfl (Ch.s (.d (.bool false)) (.pure (.pickF _ _ _ rfl rfl rfl)) (Ch.nil ?_))))))
     refine T_cond (b := false) rfl (fun h => nomatch h) (fun _ => ?_)
     refine T_skip (T_region hc (Ch.s (.d (.int .i64 (((m : Nat) : Int) + 1))) (.pure (.int _ _ _ _ _ rfl rfl rfl intV_addA)) (Ch.s (.d (.int .i64 (((m : Nat) : Int) + 1))) pm (Ch.nil ?_))))
     exact nx (m + 1) (by omega) (Wk.of rfl rfl (ai rfl (ai rfl (ai rfl (ai rfl (ai rfl (ai rfl (ai rfl (ai (vI (by first | rfl | omega | (simp; done) | (simp; omega))) trivial)))))))) (ai (oR (by first | rfl | (rw [← pTo_yes hen (by omega) (by assumption) (by assumption), List.map_set, List.map_set]; done) | (exact congrArg (List.map _) (pTo_no1 hen (by omega) (by assumption))) | (exact congrArg (List.map _) (pTo_no2 hen (by omega) (by assumption))))) (ai rfl (ai rfl trivial))))
   ·
    replace h3 := of_decide_eq_false h3
    try have hek := hen _ (getD_mem (l := x.arcs) (j := m) (d := default) (by omega))
    refine T_exit (T_region hc (Ch.s (.d (.int .i64 (((p : Nat) : Int) + 1))) (.pure (.int _ _ _ _ _ rfl rfl rfl intV_addA)) (Ch.s (.d (.int .i64 (((p : Nat) : Int) + 1))) pm (Ch.nil ?_))))
    exact nx (p + 1) (by omega) (Wk.of rfl rfl (ai rfl (ai rfl (ai rfl (ai rfl (ai (vI (by first | rfl | omega | (simp; done) | (simp; omega))) trivial))))) (ai (oR (by first | (rw [fill_all _ _ (by simp; omega)]; rfl) | (rw [pTo_next (by omega)]; done))) (ai rfl (ai rfl trivial))))
  ·
   replace h2 := of_decide_eq_false h2
   try have hek := hen _ (getD_mem (l := x.arcs) (j := m) (d := default) (by omega))
   refine T_exit (T_seq (T_region hc (Ch.s (.c (.slice none 0 0)) pa (Ch.nil (T_seq (T_seq (T_region hc ?_)))))))
   refine Ch.s (.row 20000) pm (Ch.s (.d (.int .i64 (((inL x sig (up)).length : Nat) : Int))) (.pure (.len _ _ 4 rfl Tryz.underlying146 (.row rfl) (by simp))) (Ch.s (.d (.int .i64 0)) pm (Ch.nil (T_block ?_))))
   refine T_loop (ι := Nat) (fun k => { n := 116, sl := [(7, (.row 20000)), (8, (.row 8)), (13, (.row 13)), (81, (.d (.int .i64 (((inL x sig (up)).length : Nat) : Int)))), (82, (.d (.int .i64 ((k : Nat) : Int))))], hp := [(8, (some (.row 1 ((pTo x (excS x sig up) p 0).map (fun n : Nat => D.int .i64 (n : Int)))))), (13, (some (.row 1 ((regTo (excS x sig up) x.arcs x.codes.length k).map intsU)))), (20000, (some (.row 1 ((inL x sig (up)).map D.bool))))], pin := [] }) (fun k => k ≤ x.codes.length) (fun k => x.codes.length - k) ⟨0, (by omega), (Wk.trans (Wk.nilrow 13 900013 1 rfl rfl rfl) (Wk.ren [(13, 900013)] rfl rfl rfl rfl (ai rfl (ai rfl (ai rfl (ai rfl (ai (vI (by first | rfl | omega | (simp; done) | (simp; omega))) trivial))))) (ai rfl (ai (oR (by first | rfl | (rw [clsK_all (x := x) (i := m) (by omega)]; exact push rfl (reg_yes (by rw [← clsK_all (x := x) (i := m) (by omega)]; omega))) | (exact congrArg (List.map _) (reg_no (by rw [← clsK_all (x := x) (i := m) (by omega)]; omega))))) (ai rfl trivial)))))⟩ (fun k hp3 => ?_)
   have hpe := pTo_end (x := x) (S := (excS x sig up)) (k := p) (by omega); have hpl := pTo_len x (excS x sig up) p 0; have hrl := regTo_le (excS x sig up) x.arcs x.codes.length k
   refine T_seq (T_region hc (Ch.s (.d (.bool (decide (((k : Nat) : Int) < (((inL x sig (up)).length : Nat) : Int))))) (.pure (.int _ _ _ _ _ rfl rfl rfl rfl)) (Ch.nil (T_seq ?_))))
   refine T_cond (b := (decide (((k : Nat) : Int) < (((inL x sig (up)).length : Nat) : Int)))) rfl (fun h6 => ?_) (fun h6 => ?_)
   ·
    replace h6 := of_decide_eq_true h6
    refine T_skip (T_seq (T_block (T_seq (T_region hc (Ch.s (.d (.int .i64 ((k : Nat) : Int))) pm (Ch.s (.d (.int .i64 ((k : Nat) : Int))) pa (Ch.nil ?_)))))))
    refine T_seq (T_region hc (Ch.s (.c (.slice none 0 0)) pa (Ch.nil (T_seq (T_seq (T_region hc (Ch.s (.row 20000) pm ?_)))))))
    refine Ch.s (.d (.int .i64 (((inL x sig (up)).length : Nat) : Int))) (.pure (.len _ _ 4 rfl Tryz.underlying146 (.row rfl) (by simp))) (Ch.s (.d (.int .i64 0)) pm (Ch.nil (T_block ?_)))
    refine T_loop (ι := Nat) (fun m => { n := 116, sl := [(7, (.row 20000)), (8, (.row 8)), (13, (.row 13)), (14, (.d (.int .i64 ((k : Nat) : Int)))), (15, (.row 15)), (81, (.d (.int .i64 (((inL x sig (up)).length : Nat) : Int)))), (82, (.d (.int .i64 ((k : Nat) : Int)))), (86, (.d (.int .i64 (((inL x sig (up)).length : Nat) : Int)))), (87, (.d (.int .i64 ((m : Nat) : Int))))], hp := [(8, (some (.row 1 ((pTo x (excS x sig up) p 0).map (fun n : Nat => D.int .i64 (n : Int)))))), (13, (some (.row 1 ((regTo (excS x sig up) x.arcs x.codes.length k).map intsU)))), (15, (some (.row 1 ((clsK x (excS x sig up) k m).map (fun n : Int => D.int .i64 n))))), (20000, (some (.row 1 ((inL x sig (up)).map D.bool))))], pin := [] }) (fun m => m ≤ x.codes.length) (fun m => x.codes.length - m) ⟨0, (by omega), (Wk.trans (Wk.nilrow 15 900015 1 rfl rfl rfl) (Wk.ren [(15, 900015)] rfl rfl rfl rfl (ai rfl (ai rfl (ai rfl (ai rfl (ai rfl (ai rfl (ai rfl (ai rfl (ai (vI (by first | rfl | omega | (simp; done) | (simp; omega))) trivial))))))))) (ai rfl (ai rfl (ai (oR (by first | rfl | (exact push rfl (clsK_yes (by omega) (by assumption) (by rw [← hpe]; assumption))) | (exact congrArg (List.map _) (clsK_no1 (by omega) (by assumption))) | (exact congrArg (List.map _) (clsK_no2 (by rw [← hpe]; assumption))))) (ai rfl trivial))))))⟩ (fun m hp4 => ?_)
    have hcl := clsK_le x (excS x sig up) k m
    refine T_seq (T_region hc (Ch.s (.d (.bool (decide (((m : Nat) : Int) < (((inL x sig (up)).length : Nat) : Int))))) (.pure (.int _ _ _ _ _ rfl rfl rfl rfl)) (Ch.nil (T_seq ?_))))
    refine T_cond (b := (decide (((m : Nat) : Int) < (((inL x sig (up)).length : Nat) : Int)))) rfl (fun h7 => ?_) (fun h7 => ?_)
    ·
     replace h7 := of_decide_eq_true h7
     refine T_skip (T_seq (T_block (T_seq (T_region hc (Ch.s (.d (.int .i64 ((m : Nat) : Int))) pm (Ch.s (.d (.int .i64 ((m : Nat) : Int))) pa (Ch.nil ?_)))))))
     refine T_seq (T_region hc (Ch.s (.row 20000) pm (Ch.s (.d (.int .i64 ((m : Nat) : Int))) pm (Ch.s (.el 20000 1 m 0) (.pure (.idxRow _ _ _ 4 (m) rfl Tryz.underlying146 sz4 rfl rfl rfl rfl (by first | omega | (simp only [List.length_map, List.length_set]; omega) | (simp; omega)))) (Ch.s (.d (.bool (((inL x sig (up)).getD m default)))) (.pure (.loadEl1 _ _ rfl ag4 rfl rfl get_mapA rfl rfl rfl)) (Ch.s (.d (.bool (((inL x sig (up)).getD m default)))) pm ?_))))))
     cases h8 : (((inL x sig (up)).getD m default)) with
     | true =>
      refine Ch.s (.row 8) pm (Ch.s (.d (.int .i64 ((m : Nat) : Int))) pm (Ch.s (.el 8 1 m 0) (.pure (.idxRow _ _ _ 3 (m) rfl Tryz.underlying55 sz3 rfl rfl rfl rfl (by first | omega | (simp only [List.length_map, List.length_set]; omega) | (simp; omega)))) (Ch.s (.d (.int .i64 ((((pTo x (excS x sig up) p 0).getD m default) : Nat) : Int))) (.pure (.loadEl1 _ _ rfl ag3 rfl rfl get_mapA rfl rfl rfl)) (Ch.s (.d (.int .i64 ((k : Nat) : Int))) pm (Ch.s (.d (.bool (decide (((((pTo x (excS x sig up) p 0).getD m default) : Nat) : Int) = ((k : Nat) : Int))))) (.pure (.int _ _ _ _ _ rfl rfl rfl rfl)) (Ch.s (.d (.bool (decide (((((pTo x (excS x sig up) p 0).getD m default) : Nat) : Int) = ((k : Nat) : Int))))) (.pure (.pickT _ _ _ rfl rfl rfl)) (Ch.nil ?_)))))))
      refine T_cond (b := (decide (((((pTo x (excS x sig up) p 0).getD m default) : Nat) : Int) = ((k : Nat) : Int)))) rfl (fun h9 => ?_) (fun h9 => ?_)
      ·
       replace h9 := of_decide_eq_true h9
       refine T_region hc (Ch.s (.row 15) pm (Ch.s (.d (.int .i64 ((m : Nat) : Int))) pm (Ch.s (.row 104000) (.slice 104000 _ 3 _ rfl sty55 (xs := [.tmp 103]) rfl rfl (.cons (.d _) .nil) rfl rfl (by decide)) ?_)))
       refine Ch.step (v := (.row 105000)) rfl (.append 105000 _ _ _ 3 rfl sty55 (by decide) (.rowK rfl) (.inr ⟨_, rfl, rfl⟩) (.row rfl rfl) rfl (by first | omega | (simp only [List.length_append, List.length_map, List.length_cons, List.length_nil]; omega) | (simp; omega) | (simp; done))) rfl rfl ?_
       refine Ch.s (.row 105000) pa (Ch.nil (T_region hc (Ch.s (.d (.int .i64 (((m : Nat) : Int) + 1))) (.pure (.int _ _ _ _ _ rfl rfl rfl intV_addA)) (Ch.s (.d (.int .i64 (((m : Nat) : Int) + 1))) pm (Ch.nil ?_)))))
       exact nx (m + 1) (by omega) (Wk.ren [(15, 105000)] rfl rfl rfl rfl (ai rfl (ai rfl (ai rfl (ai rfl (ai rfl (ai rfl (ai rfl (ai rfl (ai (vI (by first | rfl | omega | (simp; done) | (simp; omega))) trivial))))))))) (ai rfl (ai rfl (ai (oR (by first | rfl | (exact push rfl (clsK_yes (by omega) (by assumption) (by rw [← hpe]; assumption))) | (exact congrArg (List.map _) (clsK_no1 (by omega) (by assumption))) | (exact congrArg (List.map _) (clsK_no2 (by rw [← hpe]; assumption))))) (ai rfl trivial)))))
      ·
       replace h9 := of_decide_eq_false h9
       refine T_skip (T_region hc (Ch.s (.d (.int .i64 (((m : Nat) : Int) + 1))) (.pure (.int _ _ _ _ _ rfl rfl rfl intV_addA)) (Ch.s (.d (.int .i64 (((m : Nat) : Int) + 1))) pm (Ch.nil ?_))))
       exact nx (m + 1) (by omega) (Wk.of rfl rfl (ai rfl (ai rfl (ai rfl (ai rfl (ai rfl (ai rfl (ai rfl (ai rfl (ai (vI (by first | rfl | omega | (simp; done) | (simp; omega))) trivial))))))))) (ai rfl (ai rfl (ai (oR (by first | rfl | (exact push rfl (clsK_yes (by omega) (by assumption) (by rw [← hpe]; assumption))) | (exact congrArg (List.map _) (clsK_no1 (by omega) (by assumption))) | (exact congrArg (List.map _) (clsK_no2 (by rw [← hpe]; assumption))))) (ai rfl trivial)))))
     | false =>
      refine Ch.skip rfl rfl (Ch.skip rfl rfl (Ch.skip rfl rfl (Ch.skip rfl rfl (Ch.skip rfl rfl (Ch.skip rfl rfl (Ch.s (.d (.bool false)) (.pure (.pickF _ _ _ rfl rfl rfl)) (Ch.nil ?_)))))))
      refine T_cond (b := false) rfl (fun h => nomatch h) (fun _ => ?_)
      refine T_skip (T_region hc (Ch.s (.d (.int .i64 (((m : Nat) : Int) + 1))) (.pure (.int _ _ _ _ _ rfl rfl rfl intV_addA)) (Ch.s (.d (.int .i64 (((m : Nat) : Int) + 1))) pm (Ch.nil ?_))))
      exact nx (m + 1) (by omega) (Wk.of rfl rfl (ai rfl (ai rfl (ai rfl (ai rfl (ai rfl (ai rfl (ai rfl (ai rfl (ai (vI (by first | rfl | omega | (simp; done) | (simp; omega))) trivial))))))))) (ai rfl (ai rfl (ai (oR (by first | rfl | (exact push rfl (clsK_yes (by omega) (by assumption) (by rw [← hpe]; assumption))) | (exact congrArg (List.map _) (clsK_no1 (by omega) (by assumption))) | (exact congrArg (List.map _) (clsK_no2 (by rw [← hpe]; assumption))))) (ai rfl trivial)))))
    ·
     replace h7 := of_decide_eq_false h7
     refine T_exit (T_seq (T_region hc (Ch.s (.row 15) pm (Ch.s (.d (.int .i64 (((clsK x (excS x sig up) k m).length : Nat) : Int))) (.pure (.len _ _ 3 rfl Tryz.underlying55 (.row rfl) (by simp))) (Ch.s (.d (.bool (decide (0 < (((clsK x (excS x sig up) k m).length : Nat) : Int))))) (.pure (.int _ _ _ _ _ rfl rfl rfl rfl)) (Ch.nil ?_))))))
     refine T_cond (b := (decide (0 < (((clsK x (excS x sig up) k m).length : Nat) : Int)))) rfl (fun h10 => ?_) (fun h10 => ?_)
     ·
      replace h10 := of_decide_eq_true h10
      refine T_region hc (Ch.s (.row 13) pm (Ch.s (.row 15) pm (Ch.s (.row 112000) (.slice 112000 _ 55 _ rfl sty49 (xs := [.tmp 111]) rfl rfl (.cons (.row rfl) .nil) rfl rfl (by decide)) ?_)))
      refine Ch.step (v := (.row 113000)) rfl (.append 113000 _ _ _ 55 rfl sty49 (by decide) (.rowK rfl) (.inr ⟨_, rfl, rfl⟩) (.rowK rfl) rfl (by first | omega | (simp only [List.length_append, List.length_map, List.length_cons, List.length_nil]; omega) | (simp; omega) | (simp; done))) rfl rfl ?_
      refine Ch.s (.row 113000) pa (Ch.nil (T_region hc (Ch.s (.d (.int .i64 (((k : Nat) : Int) + 1))) (.pure (.int _ _ _ _ _ rfl rfl rfl intV_addA)) (Ch.s (.d (.int .i64 (((k : Nat) : Int) + 1))) pm (Ch.nil ?_)))))
      exact nx (k + 1) (by omega) (Wk.ren [(13, 113000)] rfl rfl rfl rfl (ai rfl (ai rfl (ai rfl (ai rfl (ai (vI (by first | rfl | omega | (simp; done) | (simp; omega))) trivial))))) (ai rfl (ai (oR (by first | rfl | (rw [clsK_all (x := x) (i := m) (by omega)]; exact push rfl (reg_yes (by rw [← clsK_all (x := x) (i := m) (by omega)]; omega))) | (exact congrArg (List.map _) (reg_no (by rw [← clsK_all (x := x) (i := m) (by omega)]; omega))))) (ai rfl trivial))))
     ·
      replace h10 := of_decide_eq_false h10
      refine T_skip (T_region hc (Ch.s (.d (.int .i64 (((k : Nat) : Int) + 1))) (.pure (.int _ _ _ _ _ rfl rfl rfl intV_addA)) (Ch.s (.d (.int .i64 (((k : Nat) : Int) + 1))) pm (Ch.nil ?_))))
      exact nx (k + 1) (by omega) (Wk.of rfl rfl (ai rfl (ai rfl (ai rfl (ai rfl (ai (vI (by first | rfl | omega | (simp; done) | (simp; omega))) trivial))))) (ai rfl (ai (oR (by first | rfl | (rw [clsK_all (x := x) (i := m) (by omega)]; exact push rfl (reg_yes (by rw [← clsK_all (x := x) (i := m) (by omega)]; omega))) | (exact congrArg (List.map _) (reg_no (by rw [← clsK_all (x := x) (i := m) (by omega)]; omega))))) (ai rfl trivial))))
   ·
    replace h6 := of_decide_eq_false h6
    refine T_exit (T_seq (T_region hc (Ch.s (.row 13) pm (Ch.s (.row 13) pa (Ch.nil (T_ret ?_))))))
    exact endR [(.row 13)] [] [13] (.cons (.tmp 6 rfl) .nil) (.cons (.any _) (.cons (.any _) (.cons (.any _) .nil))) (Exp.of (congrArg (D.slice true 1) (by rw [exR, regL, show x.codes.length = k by omega])) (.row rfl)) rfl rfl

theorem sp_DeleteFunc_int (xs : List (Int)) (f : FuncId) (caps : List D) (p : Int → Bool) (hf : Enters Tryz.prog f) (hp : ∀ x ∈ xs, Sp Tryz.prog f ((fun n : Int => D.int .i64 n) x :: caps) (.any :: anys caps) (.bool (p x))) (hn : xs.length ≤ 1048576) : Sp Tryz.prog 215 [(.slice true 1 (xs.map (fun n : Int => D.int .i64 n))), (.fn f caps)] [.any, .any] (.slice true 1 ((xs.filter (fun u => !p u)).map (fun n : Int => D.int .i64 n))) := by
 refine Sp_intro (lend := false) Tryz.func215 rfl rfl rfl (fun h => nomatch h) (fun c hc hX => ?_)
 have hixb := ixF_bounds p xs
 refine T_seq (T_region hc (Ch.s (.c (.slice none 0 0)) pa (Ch.nil (T_seq (T_region hc (Ch.s (.row 1) pm (Ch.s (.d (.fn f caps)) pm ?_)))))))
 refine Ch.s (.d (.int .i64 (ixF p xs))) (.call 10000 257 _ _ _ en257 rfl (.inl rfl) (.cons (.lend (.row rfl (frozs_map (fun _ => rfl) _))) (.cons (.d _) .nil)) rfl rfl (sp_IndexFunc_int xs f caps p hf hp (by first | assumption | omega | (rw [List.length_take]; omega) | (have := bulkF_mem hb _ (getD_mem (d := default) (by omega)); assumption) | (unfold bulkS at *; omega) | (simp_all; done))) (.skip _ _ (.skip _ _ .nil)) rfl) (Ch.s (.d (.int .i64 (ixF p xs))) pa (Ch.nil (T_seq (T_seq (T_region hc (Ch.s (.d (.int .i64 (ixF p xs))) pm (Ch.s (.d (.bool (decide ((ixF p xs) = (-1))))) (.pure (.int _ _ _ _ _ rfl rfl rfl rfl)) ?_)))))))
 refine Ch.nil ?_
 refine T_cond (b := (decide ((ixF p xs) = (-1)))) rfl (fun h1 => ?_) (fun h1 => ?_)
 ·
  replace h1 := of_decide_eq_true h1
  refine T_seq (T_region hc (Ch.s (.row 1) pm (Ch.s (.row 1) pa (Ch.nil (T_ret ?_)))))
  exact endR [(.row 1)] [] [1] (.cons (.tmp 4 rfl) .nil) (.cons (.any _) (.cons (.any _) .nil)) (Exp.of (congrArg (D.slice true 1) (by first | (rw [ixF_all h1]; done) | (rw [take_cut (by simp; omega), ← List.map_take, hp0.done (by omega)]; done) | skip)) (.row rfl)) rfl rfl
 ·
  replace h1 := of_decide_eq_false h1
  refine T_skip (T_seq (T_seq (T_region hc (Ch.s (.d (.int .i64 (ixF p xs))) pm (Ch.s (.d (.int .i64 ((ixF p xs) + 1))) (.pure (.int _ _ _ _ _ rfl rfl rfl intV_addA)) (Ch.s (.d (.int .i64 ((ixF p xs) + 1))) pa (Ch.nil ?_)))))))
  refine T_block ?_
  refine T_loop (ι := Nat × List (Int)) (fun q => { n := 42, sl := [(0, (.row 1)), (1, (.d (.fn f caps))), (5, (.d (.int .i64 (((keepTo p xs q.1).length : Nat) : Int)))), (6, (.d (.int .i64 ((q.1 : Nat) : Int))))], hp := [(1, (some (.row 1 (q.2.map (fun n : Int => D.int .i64 n)))))], pin := [1] }) (fun q => DelInv p xs q.1 q.2) (fun q => xs.length - q.1) ⟨((ixF p xs).toNat + 1, xs), (by obtain ⟨k0, hk0, hk1, hk2⟩ := ixF_first h1; have e : (ixF p xs).toNat = k0 := (by omega); rw [e]; exact DelInv.start hk0 hk2), (Wk.of rfl rfl (ai rfl (ai rfl (ai (vI (by first | (obtain ⟨k0, hk0, hk1, hk2⟩ := ixF_first h1; have e : (ixF p xs).toNat = k0 := (by omega); dsimp only; rw [e, hk2, hk1, List.length_take, Nat.min_eq_left (by omega)]; done) | (have e := (hp0.keep (by omega) (by assumption)).2; dsimp only; omega) | (have e := (hp0.skip (by omega) (by assumption)).2; dsimp only; omega))) (ai (vI (by first | rfl | omega | (simp; done) | (simp; omega))) trivial)))) (ai (oR (by first | rfl | (rw [List.map_set]; done))) trivial))⟩ (fun q hp0 => ?_)
  have hq1 := hp0.len; have hq2 := hp0.lt; have hq3 := hp0.le
  refine T_seq (T_seq (T_region hc (Ch.s (.d (.int .i64 ((q.1 : Nat) : Int))) pm (Ch.s (.row 1) pm (Ch.s (.d (.int .i64 ((q.2.length : Nat) : Int))) (.pure (.len _ _ 3 rfl Tryz.underlying55 (.row rfl) (by simp))) (Ch.s (.d (.bool (decide (((q.1 : Nat) : Int) < ((q.2.length : Nat) : Int))))) (.pure (.int _ _ _ _ _ rfl rfl rfl rfl)) (Ch.nil ?_)))))))
  refine T_cond (b := (decide (((q.1 : Nat) : Int) < ((q.2.length : Nat) : Int)))) rfl (fun h2 => ?_) (fun h2 => ?_)
  ·
   replace h2 := of_decide_eq_true h2
   refine T_skip (T_seq (T_block (T_seq (T_region hc (Ch.s (.row 1) pm (Ch.s (.d (.int .i64 ((q.1 : Nat) : Int))) pm (Ch.s (.el 1 1 q.1 0) (.pure (.idxRow _ _ _ 3 (q.1) rfl Tryz.underlying55 sz3 rfl rfl rfl rfl (by first | omega | (simp only [List.length_map, List.length_set]; omega) | (simp; omega)))) ?_)))))))
   refine Ch.s (.d (.int .i64 (q.2.getD q.1 default))) (.pure (.loadEl1 _ _ rfl ag3 rfl rfl get_mapA rfl rfl rfl)) (Ch.s (.d (.int .i64 (q.2.getD q.1 default))) pa (Ch.nil (T_seq (T_region hc (Ch.s (.d (.fn f caps)) pm (Ch.s (.d (.int .i64 (q.2.getD q.1 default))) pm ?_))))))
   refine Ch.step (v := (.d (.bool (p (q.2.getD q.1 default))))) rfl (.callS 28000 f _ #[.tmp 27] _ hf rfl (.inr ⟨caps, rfl, rfl⟩) (.cons (.d _) (exps_ds caps)) rfl ((by first | exact hp _ (getD_mem (by omega)) | exact hp _ (hp0.mem (by omega)))) (.skip _ _ (back_anys caps)) rfl) rfl rfl ?_
   refine Ch.s (.d (.bool (!(p (q.2.getD q.1 default))))) (.pure (.not _ _ rfl rfl)) (Ch.nil ?_)
   refine T_cond (b := (!(p (q.2.getD q.1 default)))) rfl (fun h3 => ?_) (fun h3 => ?_)
   ·
    replace h3 := nott h3
    refine T_seq (T_region hc (Ch.s (.row 1) pm (Ch.s (.d (.int .i64 (((keepTo p xs q.1).length : Nat) : Int))) pm (Ch.s (.d (.int .i64 (q.2.getD q.1 default))) pm (Ch.s (.el 1 1 ((keepTo p xs q.1).length) 0) (.pure (.idxRow _ _ _ 3 ((keepTo p xs q.1).length) rfl Tryz.underlying55 sz3 rfl rfl rfl rfl (by first | omega | (simp only [List.length_map, List.length_set]; omega) | (simp; omega)))) (Ch.s .junk (.storeEl (y' := (.int .i64 (q.2.getD q.1 default))) _ _ _ rfl rfl rfl (.d _) rfl sz3 rfl get_mapA rfl rfl) (Ch.nil ?_)))))))
    refine T_region hc (Ch.s (.d (.int .i64 (((keepTo p xs q.1).length : Nat) : Int))) pm (Ch.s (.d (.int .i64 ((((keepTo p xs q.1).length : Nat) : Int) + 1))) (.pure (.int _ _ _ _ _ rfl rfl rfl intV_addA)) (Ch.s (.d (.int .i64 ((((keepTo p xs q.1).length : Nat) : Int) + 1))) pa (Ch.nil (T_region hc (Ch.s (.d (.int .i64 ((q.1 : Nat) : Int))) pm (Ch.s (.d (.int .i64 (((q.1 : Nat) : Int) + 1))) (.pure (.int _ _ _ _ _ rfl rfl rfl intV_addA)) ?_)))))))
    refine Ch.s (.d (.int .i64 (((q.1 : Nat) : Int) + 1))) pa (Ch.nil ?_)
    exact nx (q.1 + 1, q.2.set (keepTo p xs q.1).length (q.2.getD q.1 default)) (by first | exact (hp0.keep (by omega) (by assumption)).1 | exact (hp0.skip (by omega) (by assumption)).1) (Wk.of rfl rfl (ai rfl (ai rfl (ai (vI (by first | (obtain ⟨k0, hk0, hk1, hk2⟩ := ixF_first h1; have e : (ixF p xs).toNat = k0 := (by omega); dsimp only; rw [e, hk2, hk1, List.length_take, Nat.min_eq_left (by omega)]; done) | (have e := (hp0.keep (by omega) (by assumption)).2; dsimp only; omega) | (have e := (hp0.skip (by omega) (by assumption)).2; dsimp only; omega))) (ai (vI (by first | rfl | omega | (simp; done) | (simp; omega))) trivial)))) (ai (oR (by first | rfl | (rw [List.map_set]; done))) trivial))
   ·
    replace h3 := notf h3
    refine T_skip (T_region hc (Ch.s (.d (.int .i64 ((q.1 : Nat) : Int))) pm (Ch.s (.d (.int .i64 (((q.1 : Nat) : Int) + 1))) (.pure (.int _ _ _ _ _ rfl rfl rfl intV_addA)) (Ch.s (.d (.int .i64 (((q.1 : Nat) : Int) + 1))) pa (Ch.nil ?_)))))
    exact nx (q.1 + 1, q.2) (by first | exact (hp0.keep (by omega) (by assumption)).1 | exact (hp0.skip (by omega) (by assumption)).1) (Wk.of rfl rfl (ai rfl (ai rfl (ai (vI (by first | (obtain ⟨k0, hk0, hk1, hk2⟩ := ixF_first h1; have e : (ixF p xs).toNat = k0 := (by omega); dsimp only; rw [e, hk2, hk1, List.length_take, Nat.min_eq_left (by omega)]; done) | (have e := (hp0.keep (by omega) (by assumption)).2; dsimp only; omega) | (have e := (hp0.skip (by omega) (by assumption)).2; dsimp only; omega))) (ai (vI (by first | rfl | omega | (simp; done) | (simp; omega))) trivial)))) (ai (oR (by first | rfl | (rw [List.map_set]; done))) trivial))
  ·
   replace h2 := of_decide_eq_false h2
   refine T_exit (T_seq (T_region hc (Ch.s (.row 1) pm (Ch.s (.d (.int .i64 (((keepTo p xs q.1).length : Nat) : Int))) pm (Ch.s (.sub 1 1 ((keepTo p xs q.1).length) q.2.length) (.pure (.subRow _ _ _ _ 3 ((keepTo p xs q.1).length) (q.2.length) rfl Tryz.underlying55 sz3 rfl rfl (bndS rfl rfl) (bndN (by simp)) (by first | omega | (simp only [List.length_map, List.length_append, List.length_take, List.length_drop, List.length_cons, List.length_nil]; omega) | (simp; omega) | (simp; done)) (by first | omega | (simp only [List.length_map, List.length_append, List.length_take, List.length_drop, List.length_cons, List.length_nil]; omega) | (simp; omega) | (simp; done)))) (Ch.s .junk (.clear _ _ 3 rfl sty55 rfl rfl (by first | omega | (simp only [List.length_map, List.length_append, List.length_take, List.length_drop, List.length_cons, List.length_nil]; omega) | (simp; omega) | (simp; done)) (noUs_map (fun _ => rfl) _) (zeroD_mk (zd := (.int .i64 0)) zr3 (by intro S w; rw [DR]; exact ⟨rfl, rfl⟩) rfl)) (Ch.nil ?_)))))))
   refine T_seq (T_region hc (Ch.s (.row 1) pm (Ch.s (.d (.int .i64 (((keepTo p xs q.1).length : Nat) : Int))) pm (Ch.s (.row 41000) (.cut 41000 _ _ _ 3 ((keepTo p xs q.1).length) rfl Tryz.underlying55 sz3 rfl rfl (bndS rfl rfl) (by first | omega | (simp only [List.length_map, List.length_append, List.length_take, List.length_drop, List.length_cons, List.length_nil]; omega) | (simp; omega) | (simp; done)) rfl) (Ch.s (.row 41000) pa (Ch.nil (T_ret ?_)))))))
   exact endR [(.row 41000)] [] [41000] (.cons (.tmp 4 rfl) .nil) (.cons (.any _) (.cons (.any _) .nil)) (Exp.of (congrArg (D.slice true 1) (by first | (rw [ixF_all h1]; done) | (rw [take_cut (by simp; omega), ← List.map_take, hp0.done (by omega)]; done) | skip)) (.row rfl)) rfl rfl

theorem sp_Clone_int (xs : List Int) (hn : xs.length ≤ 1048576) : Sp Tryz.prog 192 [(.slice false 1 (xs.map (fun n : Int => D.int .i64 n)))] [.any] (.slice true 1 (xs.map (fun n : Int => D.int .i64 n))) := by
 refine Sp_intro (lend := true) Tryz.func192 rfl rfl rfl (fun _ => rfl) (fun c hc hX => ?_)
 refine T_seq (T_region hc (Ch.s (.c (.slice none 0 0)) pa (Ch.nil (T_seq (T_seq (T_region hc (Ch.s (.d (.slice false 1 (xs.map (fun n : Int => D.int .i64 n)))) pm ?_)))))))
 refine Ch.nilq (sz := 1) (xs := (xs.map (fun n : Int => D.int .i64 n))) _ _ _ _ 3 rfl rfl Tryz.underlying55 (.sh _ _) rfl rfl (fun q1 hzq1 => ?_)
 refine Ch.nil ?_
 refine T_cond (b := (q1)) rfl (fun h1 => ?_) (fun h1 => ?_)
 ·
  try have hz := hzq1 h1
  refine T_seq (T_region hc (Ch.s (.c (.slice none 0 0)) pa (Ch.nil (T_ret ?_))))
  exact endR [(.c (.slice none 0 0))] [] [] (.cons (.tmp 2 rfl) .nil) (.cons (.any _) .nil) (Exp.of (congrArg (D.slice true 1) (by first | rfl | (rw [hz]; done))) (.nil true 1)) rfl rfl
 ·
  try have hz := hzq1 h1
  refine T_skip (T_seq (T_region hc (Ch.s (.row 5000) (.slice 5000 _ 3 _ rfl sty55 (xs := []) rfl rfl .nil rfl rfl (by decide)) (Ch.s (.d (.slice false 1 (xs.map (fun n : Int => D.int .i64 n)))) pm ?_))))
  refine Ch.step (v := (.row 7000)) rfl (.append 7000 _ _ _ 3 rfl sty55 (by decide) (.rowK rfl) (.inr ⟨_, rfl, rfl⟩) (.sh _ _) rfl (by first | omega | (simp only [List.length_append, List.length_map, List.length_cons, List.length_nil]; omega) | (simp; omega) | (simp; done))) rfl rfl ?_
  refine Ch.s (.row 7000) pa (Ch.nil (T_ret ?_))
  exact endR [(.row 7000)] [] [7000] (.cons (.tmp 2 rfl) .nil) (.cons (.any _) .nil) (.row rfl) rfl rfl

theorem sp_Compact_intU (u : Value) (xs : List Int) (hn : xs.length ≤ 1048576) (hc : Lib.compact xs = xs) : SpQ (fun _ _ vs => vs.head? = some u) Tryz.prog 194 [.slice true 1 (xs.map (fun n : Int => D.int .i64 n))] [.slice true 1 (xs.map (fun n : Int => D.int .i64 n))] (.hole u) :=
 sp_keepRow encIntD xs (fun p cap w => Tryz.slices_Compact_int_empty p cap w) (fun blk cap w hH hc1 hm => by
  have h := Tryz.slices_Compact_int blk 0 cap xs w hH (by omega) hc1
  rw [hc, Nat.sub_self, List.replicate_zero, List.append_nil] at h
  exact h)

theorem sp_tidyU (u : Value) (xs : List Int) (hn : xs.length ≤ 1048576) (hnd : xs.Nodup) : SpQ (fun _ _ vs => vs.head? = some u) Tryz.prog 123 [(.slice true 1 (xs.map (fun n : Int => D.int .i64 n)))] [(.slice true 1 ((tidI xs).map (fun n : Int => D.int .i64 n)))] (.hole u) := by
 refine SpU_intro Tryz.func123 rfl 900001 rfl rfl rfl (fun c hc => ?_)
 refine T_seq (T_region hc (Ch.s (.c (.slice none 0 0)) pa (Ch.nil (T_seq (T_region hc (Ch.s (.row 1) pm ?_))))))
 refine Ch.step (v := (.tup [])) rfl (.call 4000 193 _ _ _ en193 rfl (.inl rfl) (.cons (.row rfl) .nil) rfl (sol rfl (solids_c (solid_row (fun _ => rfl) _) rfl)) (sp_Sort_int xs (by first | assumption | omega | (rw [List.length_take]; omega) | (have := bulkF_mem hb _ (getD_mem (d := default) (by omega)); assumption) | (unfold bulkS at *; omega) | (simp_all; done))) (.row _ _ _ .nil) rfl) rfl rfl ?_
 refine Ch.nil (T_seq (T_region hc (Ch.s (.row 1) pm ?_)))
 refine Ch.step (v := (.d (.hole u))) rfl (.callU (m := 900001) 6000 194 _ _ _ en194 rfl (.inl rfl) (.cons (.row rfl) .nil) rfl (sol rfl (solids_c (solid_row (fun _ => rfl) _) rfl)) (sp_Compact_intU u (xs.mergeSort leI) (by rw [List.length_mergeSort]; assumption) (by first | assumption | exact nodup_mem_compact hnd)) rfl rfl (.row _ _ _ .nil) rfl) rfl rfl ?_
 refine Ch.s (.d (.hole u)) pa (Ch.nil (T_ret ?_))
 exact endR [(.d (.hole u))] [1] [] (.cons (.tmp 2 rfl) .nil) (.cons (Exp.of (congrArg (D.slice true 1) (by rw [nodup_mem_compact hnd])) (.row rfl)) .nil) (.d _) rfl rfl

theorem sp_impl_components_1 (k : Int) (l : List Int) (hn : l.length ≤ 1048576) : Sp Tryz.prog 216 [(.int .i64 k), (.ref (.slice false 1 (l.map (fun n : Int => D.int .i64 n))))] [.any, .any] (.bool (hasI l k)) := by
 refine Sp_intro (lend := true) Tryz.func216 rfl rfl rfl (fun _ => rfl) (fun c hc hX => ?_)
 refine T_seq (T_region hc (Ch.s (.d (.bool false)) pa (Ch.nil (T_seq (T_region hc (Ch.s (.d (.slice false 1 (l.map (fun n : Int => D.int .i64 n)))) (.pure (.loadRef1 _ _ rfl ag55 rfl rfl)) (Ch.s (.d (.int .i64 k)) pm ?_)))))))
 refine Ch.s (.d (.bool (hasI l k))) (.call 6000 160 _ _ _ en160 rfl (.inl rfl) (.cons (.d _) (.cons (.d _) .nil)) rfl rfl (sp_Contains_int l k (by first | assumption | omega | (rw [List.length_take]; omega) | (have := bulkF_mem hb _ (getD_mem (d := default) (by omega)); assumption) | (unfold bulkS at *; omega) | (simp_all; done))) (.skip _ _ (.skip _ _ .nil)) rfl) (Ch.s (.d (.bool (hasI l k))) pa (Ch.nil (T_ret ?_)))
 exact endR [(.d (.bool (hasI l k)))] [] [] (.cons (.tmp 3 rfl) .nil) (.cons (.any _) (.cons (.any _) .nil)) (.d _) rfl rfl

set_option maxHeartbeats 4000000 in
theorem sp_impl_components (x : Sgr) (S : List Int) (hb : x.bulk ≤ 1048576) (hx : SgOk x) (hso : SetOk S x.arcs x.codes.length) (hsl : S.length ≤ 1048576) : Sp Tryz.prog 155 [(.agg [(.slice false 2 (x.sigs.map Sgn.d)), (.slice false 1 (x.codes.map D.str)), (.slice false 4 (x.arcs.map Arc.d))]), (.slice false 1 (S.map (fun n : Int => D.int .i64 n)))] [.any, .any] (.slice true 1 ((regL S x.arcs x.codes.length).map intsU)) := by
 refine Sp_intro (lend := true) Tryz.func155 rfl rfl rfl (fun _ => rfl) (fun c hc hX => ?_)
 obtain ⟨hp0, hp1, hp2⟩ := Sgr.parts hb
 have hn0 := bulkF_len hp0
 have hn1 := bulk_len hp1
 have hx1 := bulk_mem hp1
 have hn2 := bulkF_len hp2; have hxl := hx.len; have hxf := hx.few; have hen := hx.ends
 refine T_seq (T_region hc (Ch.s (.ptr 2000 0) (.box 2000 _ _ rfl (.aggD _)) (Ch.s (.c (.slice none 0 0)) pa (Ch.nil (T_seq (T_region hc (Ch.s (.row 13000) (.slice 13000 _ 55 _ rfl sty49 (xs := []) rfl rfl .nil rfl rfl (by decide)) ?_)))))))
 refine Ch.s (.d (.slice false 1 (S.map (fun n : Int => D.int .i64 n)))) pm ?_
 refine Ch.step (v := (.row 15000)) rfl (.call 15000 192 _ _ _ en192 rfl (.inl rfl) (.cons (.d _) .nil) rfl (sol (solid_row (fun _ => rfl) _) rfl) (sp_Clone_int S (by first | assumption | omega | (rw [List.length_take]; omega) | (have := bulkF_mem hb _ (getD_mem (d := default) (by omega)); assumption) | (unfold bulkS at *; omega) | (simp_all; done))) (.skip _ _ .nil) rfl) rfl rfl ?_
 refine Ch.s (.row 13000) pa (Ch.s (.row 15000) pa (Ch.nil (T_seq (T_block ?_))))
 refine T_loop (ι := Nat) (fun B => { n := 88, sl := [(1, (.d (.slice false 1 (S.map (fun n : Int => D.int .i64 n))))), (2, (.ptr 2000 0)), (5, (.row 5)), (6, (.row 6))], hp := [(5, (some (.row 1 ((regTo S x.arcs x.codes.length B).map intsU)))), (6, (some (.row 1 ((leftF S x.arcs x.codes.length B).map (fun n : Int => D.int .i64 n))))), (2000, (some (.box [(.d (.slice false 2 (x.sigs.map Sgn.d))), (.d (.slice false 1 (x.codes.map D.str))), (.d (.slice false 4 (x.arcs.map Arc.d)))])))], pin := [] }) (fun B => B ≤ x.codes.length) (fun B => x.codes.length - B) ⟨0, (by omega), (Wk.ren [(5, 13000), (6, 15000)] rfl rfl rfl rfl (ai rfl (ai rfl (ai rfl (ai rfl trivial)))) (ai (oR (by first | rfl | (rw [hqe]; exact push rfl hlh.2.2.2.2.1.symm))) (ai (oR (by first | (rw [leftF_zero]; done) | (rw [h9, ← hlh5]; done) | (exact congrArg (List.map _) (by rw [hqe, ← hlh.2.2.2.2.2])))) (ai rfl trivial))))⟩ (fun B hp0 => ?_)
 have hll := leftF_le S x.arcs x.codes.length B; have hrl := regTo_le S x.arcs x.codes.length B
 refine T_seq (T_seq (T_region hc (Ch.s (.row 6) pm (Ch.s (.d (.int .i64 (((leftF S x.arcs x.codes.length B).length : Nat) : Int))) (.pure (.len _ _ 3 rfl Tryz.underlying55 (.row rfl) (by simp))) (Ch.s (.d (.bool (decide (0 < (((leftF S x.arcs x.codes.length B).length : Nat) : Int))))) (.pure (.int _ _ _ _ _ rfl rfl rfl rfl)) (Ch.nil ?_))))))
 refine T_cond (b := (decide (0 < (((leftF S x.arcs x.codes.length B).length : Nat) : Int)))) rfl (fun h1 => ?_) (fun h1 => ?_)
 ·
  replace h1 := of_decide_eq_true h1
  try have hlh := left_head hso (B := B) (by omega)
  try have hla := hlh.2.2.1
  refine T_skip (T_block (T_seq (T_region hc (Ch.s (.row 6) pm (Ch.s (.el 6 1 0 0) (.pure (.idxRow _ _ _ 3 (0) rfl Tryz.underlying55 sz3 rfl rfl rfl rfl (by first | omega | (simp only [List.length_map, List.length_set]; omega) | (simp; omega)))) (Ch.s (.d (.int .i64 ((leftF S x.arcs x.codes.length B).getD 0 default))) (.pure (.loadEl1 _ _ rfl ag3 rfl rfl get_mapA rfl rfl rfl)) (Ch.s (.row 22000) (.slice 22000 _ 3 _ rfl sty55 (xs := [.tmp 21]) rfl rfl (.cons (.d _) .nil) rfl rfl (by decide)) ?_)))))))
  refine Ch.s (.ptr 7000 0) (.alloc 7000 _ rfl zer55) (Ch.s .junk (.storePtr _ _ _ rfl rfl rfl (.one _ rfl) sz55 (Nat.le_of_ble_eq_true rfl)) (Ch.nil (T_seq (T_seq (T_region hc (Ch.s (.d (.int .i64 0)) pa (Ch.nil ?_)))))))
  refine T_block ?_
  refine T_loop (ι := List Int × Nat) (fun q => { n := 88, sl := [(1, (.d (.slice false 1 (S.map (fun n : Int => D.int .i64 n))))), (2, (.ptr 2000 0)), (5, (.row 5)), (6, (.row 6)), (7, (.ptr 7000 0)), (8, (.d (.int .i64 ((q.2 : Nat) : Int))))], hp := [(5, (some (.row 1 ((regTo S x.arcs x.codes.length B).map intsU)))), (6, (some (.row 1 ((leftF S x.arcs x.codes.length B).map (fun n : Int => D.int .i64 n))))), (2000, (some (.box [(.d (.slice false 2 (x.sigs.map Sgn.d))), (.d (.slice false 1 (x.codes.map D.str))), (.d (.slice false 4 (x.arcs.map Arc.d)))]))), (7000, (some (.box [(.row 7700)]))), (7700, (some (.row 1 (q.1.map (fun n : Int => D.int .i64 n)))))], pin := [] }) (fun q => CLoop x S ((leftF S x.arcs x.codes.length B).getD 0 default) q) (fun q => x.codes.length - q.2) ⟨([((leftF S x.arcs x.codes.length B).getD 0 default)], 0), (CLoop.zero hlh.2.1 hlh.1), (Wk.ren [(7700, 22000)] rfl rfl rfl rfl (ai rfl (ai rfl (ai rfl (ai rfl (ai rfl (ai (vI (by first | rfl | omega | (simp; done) | (simp; omega))) trivial)))))) (ai rfl (ai rfl (ai rfl (ai (oB (Eq.trans (b := [(.row 22000)]) rfl (by rfl))) (ai (oR (by first | rfl | (rw [show m = x.arcs.length by omega]))) trivial))))))⟩ (fun q hp1 => ?_)
  have hol := hp1.inv.wl.len
  refine T_seq (T_seq (T_region hc (Ch.s (.d (.int .i64 ((q.2 : Nat) : Int))) pm (Ch.s (.row 7700) (.pure (.loadPtr1 _ _ rfl ag55 rfl rfl rfl)) (Ch.s (.d (.int .i64 ((q.1.length : Nat) : Int))) (.pure (.len _ _ 3 rfl Tryz.underlying55 (.row rfl) (by simp))) (Ch.s (.d (.bool (decide (((q.2 : Nat) : Int) < ((q.1.length : Nat) : Int))))) (.pure (.int _ _ _ _ _ rfl rfl rfl rfl)) (Ch.nil ?_)))))))
  refine T_cond (b := (decide (((q.2 : Nat) : Int) < ((q.1.length : Nat) : Int)))) rfl (fun h2 => ?_) (fun h2 => ?_)
  ·
   replace h2 := of_decide_eq_true h2
   try have hqe := hp1.end hso hlh.2.1 hlh.2.2.1 (by omega)
   try have hol2 : (tidI q.1).length ≤ 1048576 := by (have := tid_len leI q.1; unfold tidI; omega)
   refine T_skip (T_seq (T_block (T_seq (T_region hc (Ch.s (.ptr 2000 2) (.pure (.fldPtr _ _ _ rfl fld35_2 rfl)) (Ch.s (.d (.slice false 4 (x.arcs.map Arc.d))) (.pure (.loadPtr1 _ _ rfl ag33 rfl rfl rfl)) (Ch.s (.d (.int .i64 ((x.arcs.length : Nat) : Int))) (.pure (.len _ _ 125 rfl Tryz.underlying33 (.sh _ _) (by simp))) ?_)))))))
   refine Ch.s (.d (.int .i64 0)) pm (Ch.nil (T_block ?_))
   refine T_loop (ι := Nat) (fun m => { n := 88, sl := [(1, (.d (.slice false 1 (S.map (fun n : Int => D.int .i64 n))))), (2, (.ptr 2000 0)), (5, (.row 5)), (6, (.row 6)), (7, (.ptr 7000 0)), (8, (.d (.int .i64 ((q.2 : Nat) : Int)))), (30, (.d (.slice false 4 (x.arcs.map Arc.d)))), (31, (.d (.int .i64 ((x.arcs.length : Nat) : Int)))), (32, (.d (.int .i64 ((m : Nat) : Int))))], hp := [(5, (some (.row 1 ((regTo S x.arcs x.codes.length B).map intsU)))), (6, (some (.row 1 ((leftF S x.arcs x.codes.length B).map (fun n : Int => D.int .i64 n))))), (2000, (some (.box [(.d (.slice false 2 (x.sigs.map Sgn.d))), (.d (.slice false 1 (x.codes.map D.str))), (.d (.slice false 4 (x.arcs.map Arc.d)))]))), (7000, (some (.box [(.row 7700)]))), (7700, (some (.row 1 ((cTo x S (q.1.getD q.2 default) q.1 m).map (fun n : Int => D.int .i64 n)))))], pin := [] }) (fun m => m ≤ x.arcs.length) (fun m => x.arcs.length - m) ⟨0, (by omega), (Wk.of rfl rfl (ai rfl (ai rfl (ai rfl (ai rfl (ai rfl (ai rfl (ai rfl (ai rfl (ai (vI (by first | rfl | omega | (simp; done) | (simp; omega))) trivial))))))))) (ai rfl (ai rfl (ai rfl (ai rfl (ai (oR (by first | rfl | (exact congrArg (List.map _) (cTo_next (by omega) (by omega))))) trivial))))))⟩ (fun m hp2 => ?_)
   obtain ⟨hw1, hw2, hw3⟩ := hp1.inv.tos hen (getD_mem (l := q.1) (j := q.2) (d := default) (by omega)) m hp2; have hwl := hw1.wl.len; obtain ⟨hwr, hwe⟩ := hw2
   refine T_seq (T_region hc (Ch.s (.d (.bool (decide (((m : Nat) : Int) < ((x.arcs.length : Nat) : Int))))) (.pure (.int _ _ _ _ _ rfl rfl rfl rfl)) (Ch.nil (T_seq ?_))))
   refine T_cond (b := (decide (((m : Nat) : Int) < ((x.arcs.length : Nat) : Int)))) rfl (fun h3 => ?_) (fun h3 => ?_)
   ·
    replace h3 := of_decide_eq_true h3
    refine T_skip (T_seq (T_block (T_seq (T_region hc (Ch.s (.d (.ref (.agg [(.int .i64 ((x.arcs.getD m default).src)), (.int .i64 ((x.arcs.getD m default).sig)), (.bool ((x.arcs.getD m default).up)), (.int .i64 ((x.arcs.getD m default).dst))]))) (.pure (.idx _ _ _ 125 (m) rfl Tryz.underlying33 sz125 rfl rfl rfl get_mapA)) (Ch.s (.d (.agg [(.int .i64 ((x.arcs.getD m default).src)), (.int .i64 ((x.arcs.getD m default).sig)), (.bool ((x.arcs.getD m default).up)), (.int .i64 ((x.arcs.getD m default).dst))])) (.pure (.loadRefA _ _ rfl ag125 sz125 rfl)) (Ch.s (.ptr 10000 0) (.alloc 10000 _ rfl zer125) ?_)))))))
    refine Ch.s .junk (.storePtr _ _ _ rfl rfl rfl (.aggD _) sz125 (Nat.le_of_ble_eq_true rfl)) (Ch.nil (T_seq (T_region hc (Ch.s (.ptr 10000 0) (.pure (.fldPtr _ _ _ rfl fld125_0 rfl)) (Ch.s (.d (.int .i64 ((x.arcs.getD m default).src))) (.pure (.loadPtr1 _ _ rfl ag3 rfl rfl rfl)) (Ch.s (.ptr 10000 3) (.pure (.fldPtr _ _ _ rfl fld125_3 rfl)) (Ch.s (.d (.int .i64 ((x.arcs.getD m default).dst))) (.pure (.loadPtr1 _ _ rfl ag3 rfl rfl rfl)) ?_)))))))
    refine Ch.s (.agg [(.d (.int .i64 ((x.arcs.getD m default).src))), (.d (.int .i64 ((x.arcs.getD m default).dst)))]) (.build _ _ rfl stru212 (.cons (.one _ rfl) (.cons (.one _ rfl) .nil)) rfl) (Ch.s (.ptr 10000 3) (.pure (.fldPtr _ _ _ rfl fld125_3 rfl)) (Ch.s (.d (.int .i64 ((x.arcs.getD m default).dst))) (.pure (.loadPtr1 _ _ rfl ag3 rfl rfl rfl)) (Ch.s (.ptr 10000 0) (.pure (.fldPtr _ _ _ rfl fld125_0 rfl)) (Ch.s (.d (.int .i64 ((x.arcs.getD m default).src))) (.pure (.loadPtr1 _ _ rfl ag3 rfl rfl rfl)) (Ch.s (.agg [(.d (.int .i64 ((x.arcs.getD m default).dst))), (.d (.int .i64 ((x.arcs.getD m default).src)))]) (.build _ _ rfl stru212 (.cons (.one _ rfl) (.cons (.one _ rfl) .nil)) rfl) (Ch.s (.row 46000) (.slice 46000 _ 212 _ rfl sty193 (xs := [.tmp 40, .tmp 45]) rfl rfl (.cons (.agg (.cons (.d _) (.cons (.d _) .nil)) rfl) (.cons (.agg (.cons (.d _) (.cons (.d _) .nil)) rfl) .nil)) rfl rfl (by decide)) (Ch.s (.d (.int .i64 ((2 : Nat) : Int))) (.pure (.len _ _ 212 rfl Tryz.underlying193 (.row rfl) rfl)) ?_)))))))
    refine Ch.s (.d (.int .i64 0)) pm (Ch.nil (T_block ?_))
    refine T_loop (ι := Nat) (fun e => { n := 88, sl := [(1, (.d (.slice false 1 (S.map (fun n : Int => D.int .i64 n))))), (2, (.ptr 2000 0)), (5, (.row 5)), (6, (.row 6)), (7, (.ptr 7000 0)), (8, (.d (.int .i64 ((q.2 : Nat) : Int)))), (30, (.d (.slice false 4 (x.arcs.map Arc.d)))), (31, (.d (.int .i64 ((x.arcs.length : Nat) : Int)))), (32, (.d (.int .i64 ((m : Nat) : Int)))), (46, (.row 46000)), (47, (.d (.int .i64 ((2 : Nat) : Int)))), (48, (.d (.int .i64 ((e : Nat) : Int))))], hp := [(5, (some (.row 1 ((regTo S x.arcs x.codes.length B).map intsU)))), (6, (some (.row 1 ((leftF S x.arcs x.codes.length B).map (fun n : Int => D.int .i64 n))))), (2000, (some (.box [(.d (.slice false 2 (x.sigs.map Sgn.d))), (.d (.slice false 1 (x.codes.map D.str))), (.d (.slice false 4 (x.arcs.map Arc.d)))]))), (7000, (some (.box [(.row 7700)]))), (7700, (some (.row 1 ((cIn S (q.1.getD q.2 default) (cTo x S (q.1.getD q.2 default) q.1 m) (x.arcs.getD m default) e).map (fun n : Int => D.int .i64 n))))), (46000, (some (.row 2 [(.agg [(.int .i64 ((x.arcs.getD m default).src)), (.int .i64 ((x.arcs.getD m default).dst))]), (.agg [(.int .i64 ((x.arcs.getD m default).dst)), (.int .i64 ((x.arcs.getD m default).src))])])))], pin := [] }) (fun e => e ≤ 2) (fun e => 2 - e) ⟨0, (by omega), (Wk.of rfl rfl (ai rfl (ai rfl (ai rfl (ai rfl (ai rfl (ai rfl (ai rfl (ai rfl (ai rfl (ai rfl (ai rfl (ai (vI (by first | rfl | omega | (simp; done) | (simp; omega))) trivial)))))))))))) (ai rfl (ai rfl (ai rfl (ai rfl (ai (oR (by first | rfl | (exact push rfl (cIn_yes (by omega) (by first | assumption | (rw [← hvc]; assumption)) (by assumption) (by assumption))) | (exact congrArg (List.map _) (cIn_no1 (by omega) (by rw [← hvc]; assumption))) | (exact congrArg (List.map _) (cIn_no1 (by omega) (by assumption))) | (exact congrArg (List.map _) (cIn_no2 (by omega) (by assumption))) | (exact congrArg (List.map _) (cIn_no3 (by omega) (by assumption))))) (ai rfl trivial)))))))⟩ (fun e hp3 => ?_)
    obtain ⟨hv1, hv2, hv3⟩ := hw1.ins hen (c := (q.1.getD q.2 default)) (by rw [hwe]; exact List.mem_append_left _ (getD_mem (by omega))) (getD_mem (l := x.arcs) (j := m) (d := default) (by omega)) e hp3; have hvl := hv1.wl.len; obtain ⟨hvr, hve⟩ := hv2; have hvc : (cIn S (q.1.getD q.2 default) (cTo x S (q.1.getD q.2 default) q.1 m) (x.arcs.getD m default) e).getD q.2 default = (q.1.getD q.2 default) := (by rw [hve, hwe, List.append_assoc, getD_app (by omega)]); have hvs : q.2 < (cIn S (q.1.getD q.2 default) (cTo x S (q.1.getD q.2 default) q.1 m) (x.arcs.getD m default) e).length := (by rw [hve, hwe, List.append_assoc, List.length_append]; omega)
    refine T_seq (T_region hc (Ch.s (.d (.bool (decide (((e : Nat) : Int) < ((2 : Nat) : Int))))) (.pure (.int _ _ _ _ _ rfl rfl rfl rfl)) (Ch.nil (T_seq ?_))))
    refine T_cond (b := (decide (((e : Nat) : Int) < ((2 : Nat) : Int)))) rfl (fun h4 => ?_) (fun h4 => ?_)
    ·
     replace h4 := of_decide_eq_true h4
     refine T_skip (T_seq (T_block (T_seq (T_region hc (Ch.s (.el 46000 2 e 0) (.pure (.idxRow _ _ _ 212 (e) rfl Tryz.underlying193 sz212 rfl rfl rfl rfl (by first | omega | (simp only [List.length_map, List.length_set]; omega) | (simp; omega)))) (Ch.s (.d (.agg [(.int .i64 ((([(Stp.mk ((x.arcs.getD m default).src) ((x.arcs.getD m default).dst)), (Stp.mk ((x.arcs.getD m default).dst) ((x.arcs.getD m default).src))]).getD e default).src)), (.int .i64 ((([(Stp.mk ((x.arcs.getD m default).src) ((x.arcs.getD m default).dst)), (Stp.mk ((x.arcs.getD m default).dst) ((x.arcs.getD m default).src))]).getD e default).dst))])) (.pure (.loadElA _ _ rfl ag212 sz212 rfl rfl (get_map (f := Stp.d) (l := [(Stp.mk ((x.arcs.getD m default).src) ((x.arcs.getD m default).dst)), (Stp.mk ((x.arcs.getD m default).dst) ((x.arcs.getD m default).src))]) (by first | omega | (simp only [List.length_map, List.length_append, List.length_take, List.length_drop, List.length_cons, List.length_nil]; omega) | (simp; omega) | (simp; done))) rfl)) (Ch.s (.ptr 12000 0) (.alloc 12000 _ rfl zer212) ?_)))))))
     refine Ch.s .junk (.storePtr _ _ _ rfl rfl rfl (.aggD _) sz212 (Nat.le_of_ble_eq_true rfl)) (Ch.nil (T_seq ?_))
     refine T_regionD hc (by kernel_rfl) ?_
     refine ChD.s (.ptr 12000 0) [] (.pure (.fldPtr _ _ _ rfl fld212_0 rfl)) (ChD.s (.d (.int .i64 ((([(Stp.mk ((x.arcs.getD m default).src) ((x.arcs.getD m default).dst)), (Stp.mk ((x.arcs.getD m default).dst) ((x.arcs.getD m default).src))]).getD e default).src))) [12000] (.pure (.loadPtr1 _ _ rfl ag3 rfl rfl rfl)) (ChD.s (.row 7700) [7000] (.pure (.loadPtr1 _ _ rfl ag55 rfl rfl rfl)) (ChD.s (.d (.int .i64 ((q.2 : Nat) : Int))) [] pm (ChD.s (.el 7700 1 q.2 0) [7700] (.pure (.idxRow _ _ _ 3 (q.2) rfl Tryz.underlying55 sz3 rfl rfl rfl rfl (by first | omega | (simp only [List.length_map, List.length_set]; omega) | (simp; omega)))) (ChD.s (.d (.int .i64 ((cIn S (q.1.getD q.2 default) (cTo x S (q.1.getD q.2 default) q.1 m) (x.arcs.getD m default) e).getD q.2 default))) [7700] (.pure (.loadEl1 _ _ rfl ag3 rfl rfl get_mapA rfl rfl rfl)) (ChD.s (.d (.bool (decide (((([(Stp.mk ((x.arcs.getD m default).src) ((x.arcs.getD m default).dst)), (Stp.mk ((x.arcs.getD m default).dst) ((x.arcs.getD m default).src))]).getD e default).src) = ((cIn S (q.1.getD q.2 default) (cTo x S (q.1.getD q.2 default) q.1 m) (x.arcs.getD m default) e).getD q.2 default))))) [] (.pure (.int _ _ _ _ _ rfl rfl rfl rfl)) (ChD.s (.d (.bool (decide (((([(Stp.mk ((x.arcs.getD m default).src) ((x.arcs.getD m default).dst)), (Stp.mk ((x.arcs.getD m default).dst) ((x.arcs.getD m default).src))]).getD e default).src) = ((cIn S (q.1.getD q.2 default) (cTo x S (q.1.getD q.2 default) q.1 m) (x.arcs.getD m default) e).getD q.2 default))))) [] pm ?_)))))))
     cases h5 : (decide (((([(Stp.mk ((x.arcs.getD m default).src) ((x.arcs.getD m default).dst)), (Stp.mk ((x.arcs.getD m default).dst) ((x.arcs.getD m default).src))]).getD e default).src) = ((cIn S (q.1.getD q.2 default) (cTo x S (q.1.getD q.2 default) q.1 m) (x.arcs.getD m default) e).getD q.2 default))) with
     | true =>
      replace h5 := of_decide_eq_true h5
      refine ChD.s (.d (.slice false 1 (S.map (fun n : Int => D.int .i64 n)))) [] pm (ChD.s (.ptr 12000 1) [] (.pure (.fldPtr _ _ _ rfl fld212_1 rfl)) (ChD.s (.d (.int .i64 ((([(Stp.mk ((x.arcs.getD m default).src) ((x.arcs.getD m default).dst)), (Stp.mk ((x.arcs.getD m default).dst) ((x.arcs.getD m default).src))]).getD e default).dst))) [12000] (.pure (.loadPtr1 _ _ rfl ag3 rfl rfl rfl)) (ChD.s (.d (.bool (hasI S ((([(Stp.mk ((x.arcs.getD m default).src) ((x.arcs.getD m default).dst)), (Stp.mk ((x.arcs.getD m default).dst) ((x.arcs.getD m default).src))]).getD e default).dst)))) [] (.call 63000 160 _ _ _ en160 rfl (.inl rfl) (.cons (.d _) (.cons (.d _) .nil)) rfl rfl (sp_Contains_int S ((([(Stp.mk ((x.arcs.getD m default).src) ((x.arcs.getD m default).dst)), (Stp.mk ((x.arcs.getD m default).dst) ((x.arcs.getD m default).src))]).getD e default).dst) (by first | assumption | omega | (rw [List.length_take]; omega) | (have := bulkF_mem hb _ (getD_mem (d := default) (by omega)); assumption) | (unfold bulkS at *; omega) | (simp_all; done))) (.skip _ _ (.skip _ _ .nil)) rfl) (ChD.s (.d (.bool (hasI S ((([(Stp.mk ((x.arcs.getD m default).src) ((x.arcs.getD m default).dst)), (Stp.mk ((x.arcs.getD m default).dst) ((x.arcs.getD m default).src))]).getD e default).dst)))) [] (.pure (.pickT _ _ _ rfl rfl rfl)) (ChD.s (.d (.bool (hasI S ((([(Stp.mk ((x.arcs.getD m default).src) ((x.arcs.getD m default).dst)), (Stp.mk ((x.arcs.getD m default).dst) ((x.arcs.getD m default).src))]).getD e default).dst)))) [] pm ?_)))))
      cases h6 : (hasI S ((([(Stp.mk ((x.arcs.getD m default).src) ((x.arcs.getD m default).dst)), (Stp.mk ((x.arcs.getD m default).dst) ((x.arcs.getD m default).src))]).getD e default).dst)) with
      | true =>
       refine ChD.s (.row 7700) [7000] (.pure (.loadPtr1 _ _ rfl ag55 rfl rfl rfl)) (ChD.s (.ptr 12000 1) [] (.pure (.fldPtr _ _ _ rfl fld212_1 rfl)) (ChD.s (.d (.int .i64 ((([(Stp.mk ((x.arcs.getD m default).src) ((x.arcs.getD m default).dst)), (Stp.mk ((x.arcs.getD m default).dst) ((x.arcs.getD m default).src))]).getD e default).dst))) [12000] (.pure (.loadPtr1 _ _ rfl ag3 rfl rfl rfl)) (ChD.s (.d (.bool (hasI (cIn S (q.1.getD q.2 default) (cTo x S (q.1.getD q.2 default) q.1 m) (x.arcs.getD m default) e) ((([(Stp.mk ((x.arcs.getD m default).src) ((x.arcs.getD m default).dst)), (Stp.mk ((x.arcs.getD m default).dst) ((x.arcs.getD m default).src))]).getD e default).dst)))) [7700] (.call 69000 160 _ _ _ en160 rfl (.inl rfl) (.cons (.lend (.row rfl (frozs_map (fun _ => rfl) _))) (.cons (.d _) .nil)) rfl rfl (sp_Contains_int (cIn S (q.1.getD q.2 default) (cTo x S (q.1.getD q.2 default) q.1 m) (x.arcs.getD m default) e) ((([(Stp.mk ((x.arcs.getD m default).src) ((x.arcs.getD m default).dst)), (Stp.mk ((x.arcs.getD m default).dst) ((x.arcs.getD m default).src))]).getD e default).dst) (by first | assumption | omega | (rw [List.length_take]; omega) | (have := bulkF_mem hb _ (getD_mem (d := default) (by omega)); assumption) | (unfold bulkS at *; omega) | (simp_all; done))) (.skip _ _ (.skip _ _ .nil)) rfl) (ChD.s (.d (.bool (!(hasI (cIn S (q.1.getD q.2 default) (cTo x S (q.1.getD q.2 default) q.1 m) (x.arcs.getD m default) e) ((([(Stp.mk ((x.arcs.getD m default).src) ((x.arcs.getD m default).dst)), (Stp.mk ((x.arcs.getD m default).dst) ((x.arcs.getD m default).src))]).getD e default).dst))))) [] (.pure (.not _ _ rfl rfl)) (ChD.s (.d (.bool (!(hasI (cIn S (q.1.getD q.2 default) (cTo x S (q.1.getD q.2 default) q.1 m) (x.arcs.getD m default) e) ((([(Stp.mk ((x.arcs.getD m default).src) ((x.arcs.getD m default).dst)), (Stp.mk ((x.arcs.getD m default).dst) ((x.arcs.getD m default).src))]).getD e default).dst))))) [] (.pure (.pickT _ _ _ rfl rfl rfl)) ?_)))))
       refine ChD.nil (And.intro ?_ (by kernel_rfl))
       refine T_cond (b := (!(hasI (cIn S (q.1.getD q.2 default) (cTo x S (q.1.getD q.2 default) q.1 m) (x.arcs.getD m default) e) ((([(Stp.mk ((x.arcs.getD m default).src) ((x.arcs.getD m default).dst)), (Stp.mk ((x.arcs.getD m default).dst) ((x.arcs.getD m default).src))]).getD e default).dst)))) rfl (fun h7 => ?_) (fun h7 => ?_)
       ·
        replace h7 := nott h7
        refine T_region hc (Ch.s (.row 7700) (.pure (.loadPtr1 _ _ rfl ag55 rfl rfl rfl)) (Ch.s (.ptr 12000 1) (.pure (.fldPtr _ _ _ rfl fld212_1 rfl)) (Ch.s (.d (.int .i64 ((([(Stp.mk ((x.arcs.getD m default).src) ((x.arcs.getD m default).dst)), (Stp.mk ((x.arcs.getD m default).dst) ((x.arcs.getD m default).src))]).getD e default).dst))) (.pure (.loadPtr1 _ _ rfl ag3 rfl rfl rfl)) (Ch.s (.row 75000) (.slice 75000 _ 3 _ rfl sty55 (xs := [.tmp 74]) rfl rfl (.cons (.d _) .nil) rfl rfl (by decide)) ?_))))
        refine Ch.step (v := (.row 76000)) rfl (.append 76000 _ _ _ 3 rfl sty55 (by decide) (.rowK rfl) (.inr ⟨_, rfl, rfl⟩) (.row rfl rfl) rfl (by first | omega | (simp only [List.length_append, List.length_map, List.length_cons, List.length_nil]; omega) | (simp; omega) | (simp; done))) rfl rfl ?_
        refine Ch.s .junk (.storePtr _ _ _ rfl rfl rfl (.one _ rfl) sz55 (Nat.le_of_ble_eq_true rfl)) (Ch.nil (T_region hc (Ch.s (.d (.int .i64 (((e : Nat) : Int) + 1))) (.pure (.int _ _ _ _ _ rfl rfl rfl intV_addA)) (Ch.s (.d (.int .i64 (((e : Nat) : Int) + 1))) pm (Ch.nil ?_)))))
        exact nx (e + 1) (by omega) (Wk.ren [(7700, 76000)] rfl rfl rfl rfl (ai rfl (ai rfl (ai rfl (ai rfl (ai rfl (ai rfl (ai rfl (ai rfl (ai rfl (ai rfl (ai rfl (ai (vI (by first | rfl | omega | (simp; done) | (simp; omega))) trivial)))))))))))) (ai rfl (ai rfl (ai rfl (ai (oB (Eq.trans (b := [(.row 76000)]) rfl (by rfl))) (ai (oR (by first | rfl | (exact push rfl (cIn_yes (by omega) (by first | assumption | (rw [← hvc]; assumption)) (by assumption) (by assumption))) | (exact congrArg (List.map _) (cIn_no1 (by omega) (by rw [← hvc]; assumption))) | (exact congrArg (List.map _) (cIn_no1 (by omega) (by assumption))) | (exact congrArg (List.map _) (cIn_no2 (by omega) (by assumption))) | (exact congrArg (List.map _) (cIn_no3 (by omega) (by assumption))))) (ai rfl trivial)))))))
       ·
        replace h7 := notf h7
        refine T_skip (T_region hc (Ch.s (.d (.int .i64 (((e : Nat) : Int) + 1))) (.pure (.int _ _ _ _ _ rfl rfl rfl intV_addA)) (Ch.s (.d (.int .i64 (((e : Nat) : Int) + 1))) pm (Ch.nil ?_))))
        exact nx (e + 1) (by omega) (Wk.of rfl rfl (ai rfl (ai rfl (ai rfl (ai rfl (ai rfl (ai rfl (ai rfl (ai rfl (ai rfl (ai rfl (ai rfl (ai (vI (by first | rfl | omega | (simp; done) | (simp; omega))) trivial)))))))))))) (ai rfl (ai rfl (ai rfl (ai rfl (ai (oR (by first | rfl | (exact push rfl (cIn_yes (by omega) (by first | assumption | (rw [← hvc]; assumption)) (by assumption) (by assumption))) | (exact congrArg (List.map _) (cIn_no1 (by omega) (by rw [← hvc]; assumption))) | (exact congrArg (List.map _) (cIn_no1 (by omega) (by assumption))) | (exact congrArg (List.map _) (cIn_no2 (by omega) (by assumption))) | (exact congrArg (List.map _) (cIn_no3 (by omega) (by assumption))))) (ai rfl trivial)))))))
      | false =>
       refine ChD.skip rfl rfl (ChD.skip rfl rfl (ChD.skip rfl rfl (ChD.skip rfl rfl (ChD.skip rfl rfl (ChD.s (.d (.bool false)) [] (.pure (.pickF _ _ _ rfl rfl rfl)) ?_)))))
       refine ChD.nil (And.intro ?_ (by kernel_rfl))
       refine T_cond (b := false) rfl (fun h => nomatch h) (fun _ => ?_)
       refine T_skip (T_region hc (Ch.s (.d (.int .i64 (((e : Nat) : Int) + 1))) (.pure (.int _ _ _ _ _ rfl rfl rfl intV_addA)) (Ch.s (.d (.int .i64 (((e : Nat) : Int) + 1))) pm (Ch.nil ?_))))
       exact nx (e + 1) (by omega) (Wk.of rfl rfl (ai rfl (ai rfl (ai rfl (ai rfl (ai rfl (ai rfl (ai rfl (ai rfl (ai rfl (ai rfl (ai rfl (ai (vI (by first | rfl | omega | (simp; done) | (simp; omega))) trivial)))))))))))) (ai rfl (ai rfl (ai rfl (ai rfl (ai (oR (by first | rfl | (exact push rfl (cIn_yes (by omega) (by first | assumption | (rw [← hvc]; assumption)) (by assumption) (by assumption))) | (exact congrArg (List.map _) (cIn_no1 (by omega) (by rw [← hvc]; assumption))) | (exact congrArg (List.map _) (cIn_no1 (by omega) (by assumption))) | (exact congrArg (List.map _) (cIn_no2 (by omega) (by assumption))) | (exact congrArg (List.map _) (cIn_no3 (by omega) (by assumption))))) (ai rfl trivial)))))))
     | false =>
      replace h5 := of_decide_eq_false h5
      refine ChD.skip rfl rfl (ChD.skip rfl rfl (ChD.skip rfl rfl (ChD.skip rfl rfl (ChD.s (.d (.bool false)) [] (.pure (.pickF _ _ _ rfl rfl rfl)) (ChD.s (.d (.bool false)) [] pm (ChD.skip rfl rfl (ChD.skip rfl rfl ?_)))))))
      refine ChD.skip rfl rfl (ChD.skip rfl rfl (ChD.skip rfl rfl (ChD.s (.d (.bool false)) [] (.pure (.pickF _ _ _ rfl rfl rfl)) ?_)))
      refine ChD.nil (And.intro ?_ (by kernel_rfl))
      refine T_cond (b := false) rfl (fun h => nomatch h) (fun _ => ?_)
      refine T_skip (T_region hc (Ch.s (.d (.int .i64 (((e : Nat) : Int) + 1))) (.pure (.int _ _ _ _ _ rfl rfl rfl intV_addA)) (Ch.s (.d (.int .i64 (((e : Nat) : Int) + 1))) pm (Ch.nil ?_))))
      exact nx (e + 1) (by omega) (Wk.of rfl rfl (ai rfl (ai rfl (ai rfl (ai rfl (ai rfl (ai rfl (ai rfl (ai rfl (ai rfl (ai rfl (ai rfl (ai (vI (by first | rfl | omega | (simp; done) | (simp; omega))) trivial)))))))))))) (ai rfl (ai rfl (ai rfl (ai rfl (ai (oR (by first | rfl | (exact push rfl (cIn_yes (by omega) (by first | assumption | (rw [← hvc]; assumption)) (by assumption) (by assumption))) | (exact congrArg (List.map _) (cIn_no1 (by omega) (by rw [← hvc]; assumption))) | (exact congrArg (List.map _) (cIn_no1 (by omega) (by assumption))) | (exact congrArg (List.map _) (cIn_no2 (by omega) (by assumption))) | (exact congrArg (List.map _) (cIn_no3 (by omega) (by assumption))))) (ai rfl trivial)))))))
    ·
     replace h4 := of_decide_eq_false h4
     refine T_exit (T_region hc (Ch.s (.d (.int .i64 (((m : Nat) : Int) + 1))) (.pure (.int _ _ _ _ _ rfl rfl rfl intV_addA)) (Ch.s (.d (.int .i64 (((m : Nat) : Int) + 1))) pm (Ch.nil ?_))))
     exact nx (m + 1) (by omega) (Wk.of rfl rfl (ai rfl (ai rfl (ai rfl (ai rfl (ai rfl (ai rfl (ai rfl (ai rfl (ai (vI (by first | rfl | omega | (simp; done) | (simp; omega))) trivial))))))))) (ai rfl (ai rfl (ai rfl (ai rfl (ai (oR (by first | rfl | (exact congrArg (List.map _) (cTo_next (by omega) (by omega))))) trivial))))))
   ·
    replace h3 := of_decide_eq_false h3
    refine T_exit (T_region hc (Ch.s (.d (.int .i64 ((q.2 : Nat) : Int))) pm (Ch.s (.d (.int .i64 (((q.2 : Nat) : Int) + 1))) (.pure (.int _ _ _ _ _ rfl rfl rfl intV_addA)) (Ch.s (.d (.int .i64 (((q.2 : Nat) : Int) + 1))) pa (Ch.nil ?_)))))
    refine Exists.intro ((cTo x S (q.1.getD q.2 default) q.1 x.arcs.length, q.2 + 1)) (And.intro (hp1.step hen (by omega)) (And.intro (by dsimp only; omega) (Wk.of rfl rfl (ai rfl (ai rfl (ai rfl (ai rfl (ai rfl (ai (vI (by first | rfl | omega | (simp; done) | (simp; omega))) trivial)))))) (ai rfl (ai rfl (ai rfl (ai rfl (ai (oR (by first | rfl | (rw [show m = x.arcs.length by omega]))) trivial))))))))
  ·
   replace h2 := of_decide_eq_false h2
   try have hqe := hp1.end hso hlh.2.1 hlh.2.2.1 (by omega)
   try have hol2 : (tidI q.1).length ≤ 1048576 := by (have := tid_len leI q.1; unfold tidI; omega)
   refine T_exit (T_seq (T_region hc (Ch.s (.row 5) pm (Ch.s (.row 7700) (.pure (.loadPtr1 _ _ rfl ag55 rfl rfl rfl)) ?_))))
   refine Ch.heads 7700 7000002 rfl rfl (fun u1 => ?_)
   refine Ch.step (v := (.d (.hole u1))) rfl (.callU (m := 7000002) 81000 123 _ _ _ en123 rfl (.inl rfl) (.cons (.row rfl) .nil) rfl (sol rfl (solids_c (solid_row (fun _ => rfl) _) rfl)) (sp_tidyU u1 q.1 (by omega) hp1.nod) rfl rfl (.row _ _ _ .nil) rfl) rfl rfl ?_
   refine Ch.s (.row 82000) (.slice 82000 _ 55 _ rfl sty49 (xs := [.tmp 81]) rfl rfl (.cons (.d _) .nil) rfl rfl (by decide)) ?_
   refine Ch.step (v := (.row 83000)) rfl (.append 83000 _ _ _ 55 rfl sty49 (by decide) (.rowK rfl) (.inr ⟨_, rfl, rfl⟩) (.row rfl rfl) rfl (by first | omega | (simp only [List.length_append, List.length_map, List.length_cons, List.length_nil]; omega) | (simp; omega) | (simp; done))) rfl rfl ?_
   refine Ch.s (.row 83000) pa (Ch.nil (T_region hc (Ch.s (.row 6) pm (Ch.s (.fn 216 [(.ptr 7000 0)]) (.pure (.func _ _ rfl rfl)) ?_))))
   refine Ch.step (v := (.row 86000)) rfl (.call 86000 215 _ _ _ en215 rfl (.inl rfl) (.cons (.row rfl) (.cons (.lend (.fn (.cons (.ptr rfl (.one (.row rfl (frozs_map (fun _ => rfl) _)) rfl)) .nil))) .nil)) rfl (sol (solid_row (fun _ => rfl) _) rfl) (sp_DeleteFunc_int (leftF S x.arcs x.codes.length B) 216 [(.ref (.slice false 1 ((tidI q.1).map (fun n : Int => D.int .i64 n))))] (hasI (tidI q.1)) en216 (fun k _ => sp_impl_components_1 k (tidI q.1) (by first | assumption | omega)) (by first | assumption | omega | (rw [List.length_take]; omega) | (have := bulkF_mem hb _ (getD_mem (d := default) (by omega)); assumption) | (unfold bulkS at *; omega) | (simp_all; done))) (.skip _ _ (.skip _ _ .nil)) rfl) rfl rfl ?_
   refine Ch.s (.row 86000) pa (Ch.nil ?_)
   exact nx (((leftF S x.arcs x.codes.length B).getD 0 default).toNat + 1) (by omega) (Wk.trans (Wk.give 83000 ((regTo S x.arcs x.codes.length B).length) 7700 7000002 rfl (get_last (by simp)) rfl rfl rfl (set_last (by simp))) (Wk.ren [(5, 83000), (6, 86000)] rfl rfl rfl rfl (ai rfl (ai rfl (ai rfl (ai rfl trivial)))) (ai (oR (by first | rfl | (rw [hqe]; exact push rfl hlh.2.2.2.2.1.symm))) (ai (oR (by first | (rw [leftF_zero]; done) | (rw [h9, ← hlh5]; done) | (exact congrArg (List.map _) (by rw [hqe, ← hlh.2.2.2.2.2])))) (ai rfl trivial)))))
 ·
  replace h1 := of_decide_eq_false h1
  try have hlh := left_head hso (B := B) (by omega)
  try have hla := hlh.2.2.1
  refine T_exit (T_seq (T_region hc (Ch.s (.row 5) pm (Ch.s (.row 5) pa (Ch.nil (T_ret ?_))))))
  exact endR [(.row 5)] [] [5] (.cons (.tmp 4 rfl) .nil) (.cons (.any _) (.cons (.any _) .nil)) (Exp.of (congrArg (D.slice true 1) (by exact congrArg (List.map _) (left_end hso hp0 (by omega)))) (.row rfl)) rfl rfl

theorem sp_impl_excitationRegions (x : Sgr) (sig : Int) (up : Bool) (hb : x.bulk ≤ 1048576) (hx : SgOk x) : Sp Tryz.prog 88 [(.agg [(.slice false 2 (x.sigs.map Sgn.d)), (.slice false 1 (x.codes.map D.str)), (.slice false 4 (x.arcs.map Arc.d))]), (.int .i64 sig), (.bool (up))] [.any, .any, .any] (.slice true 1 ((exR x sig up).map intsU)) := by
 refine Sp_intro (lend := true) Tryz.func88 rfl rfl rfl (fun _ => rfl) (fun c hc hX => ?_)
 obtain ⟨hp0, hp1, hp2⟩ := Sgr.parts hb
 have hn0 := bulkF_len hp0
 have hn1 := bulk_len hp1
 have hx1 := bulk_mem hp1
 have hn2 := bulkF_len hp2; have hel : (excS x sig up).length ≤ 1048576 := Nat.le_trans (excTo_le x sig up x.arcs.length) hn1
 refine T_seq (T_region hc (Ch.s (.ptr 3000 0) (.box 3000 _ _ rfl (.aggD _)) (Ch.s (.c (.slice none 0 0)) pa (Ch.nil (T_seq ?_)))))
 refine T_regionD hc (by kernel_rfl) ?_
 refine ChD.s (.agg [(.d (.slice false 2 (x.sigs.map Sgn.d))), (.d (.slice false 1 (x.codes.map D.str))), (.d (.slice false 4 (x.arcs.map Arc.d)))]) [3000] (.pure (.loadPtrA _ _ rfl ag35 sz35 rfl rfl (Nat.le_of_ble_eq_true rfl) rfl)) (ChD.s (.agg [(.d (.slice false 2 (x.sigs.map Sgn.d))), (.d (.slice false 1 (x.codes.map D.str))), (.d (.slice false 4 (x.arcs.map Arc.d)))]) [3000] (.pure (.loadPtrA _ _ rfl ag35 sz35 rfl rfl (Nat.le_of_ble_eq_true rfl) rfl)) (ChD.s (.d (.int .i64 sig)) [] pm (ChD.s (.d (.bool (up))) [] pm (ChD.s (.agg [(.d (.int .i64 sig)), (.d (.bool (up)))]) [] (.build _ _ rfl stru107 (.cons (.one _ rfl) (.cons (.one _ rfl) .nil)) rfl) (ChD.s (.row 12000) [] (.call 12000 156 _ _ _ en156 rfl (.inl rfl) (.cons (.lend (.agg (.cons (.d _) (.cons (.d _) (.cons (.d _) .nil))) rfl)) (.cons (.lend (.agg (.cons (.d _) (.cons (.d _) .nil)) rfl)) .nil)) rfl (sol (solid_row (fun _ => rfl) _) rfl) (sp_impl_excited x (Lab.mk sig up) (by first | assumption | omega | (rw [List.length_take]; omega) | (have := bulkF_mem hb _ (getD_mem (d := default) (by omega)); assumption) | (unfold bulkS at *; omega) | (simp_all; done)) (by assumption)) (.skip _ _ (.skip _ _ .nil)) rfl) (ChD.s (.row 13000) [12000] (.call 13000 155 _ _ _ en155 rfl (.inl rfl) (.cons (.lend (.agg (.cons (.d _) (.cons (.d _) (.cons (.d _) .nil))) rfl)) (.cons (.lend (.row rfl (frozs_map (fun _ => rfl) _))) .nil)) rfl (sol (solid_row intsU_sol _) rfl) (sp_impl_components x (excS x (Lab.mk sig up).sig (Lab.mk sig up).up) (by first | assumption | omega | (rw [List.length_take]; omega) | (have := bulkF_mem hb _ (getD_mem (d := default) (by omega)); assumption) | (unfold bulkS at *; omega) | (simp_all; done)) (by assumption) (by first | assumption | exact setok hx _ _) (by first | assumption | omega | (rw [List.length_take]; omega) | (have := bulkF_mem hb _ (getD_mem (d := default) (by omega)); assumption) | (unfold bulkS at *; omega) | (simp_all; done))) (.skip _ _ (.skip _ _ .nil)) rfl) (ChD.s (.row 13000) [] pa ?_)))))))
 refine ChD.nil (And.intro ?_ (by kernel_rfl))
 refine T_ret ?_
 exact endR [(.row 13000)] [] [13000] (.cons (.tmp 6 rfl) .nil) (.cons (.any _) (.cons (.any _) (.cons (.any _) .nil))) (Exp.of (congrArg (D.slice true 1) (by rfl)) (.row rfl)) rfl rfl

theorem sp_impl_ExcitationRegions (x : Sgr) (sig : Int) (up : Bool) (hb : x.bulk ≤ 1048576) : Sp Tryz.prog 33 [(.agg [(.slice false 2 (x.sigs.map Sgn.d)), (.slice false 1 (x.codes.map D.str)), (.slice false 4 (x.arcs.map Arc.d))]), (.int .i64 sig), (.bool (up))] [.any, .any, .any] (.tup [(.slice true 1 ((exV x sig up).map intsU)), (.bool (exB x sig))]) := by
 refine Sp_intro (lend := true) Tryz.func33 rfl rfl rfl (fun _ => rfl) (fun c hc hX => ?_)
 obtain ⟨hp0, hp1, hp2⟩ := Sgr.parts hb
 have hn0 := bulkF_len hp0
 have hn1 := bulk_len hp1
 have hx1 := bulk_mem hp1
 have hn2 := bulkF_len hp2
 refine T_seq (T_region hc (Ch.s (.ptr 3000 0) (.box 3000 _ _ rfl (.aggD _)) (Ch.s (.c (.slice none 0 0)) pa (Ch.s (.d (.bool false)) pa (Ch.nil (T_seq (T_seq ?_)))))))
 refine T_region hc (Ch.s (.agg [(.d (.slice false 2 (x.sigs.map Sgn.d))), (.d (.slice false 1 (x.codes.map D.str))), (.d (.slice false 4 (x.arcs.map Arc.d)))]) (.pure (.loadPtrA _ _ rfl ag35 sz35 rfl rfl (Nat.le_of_ble_eq_true rfl) rfl)) (Ch.s (.d (.int .i64 sig)) pm (Ch.s (.d (.bool (exB x sig))) (.call 10000 87 _ _ _ en87 rfl (.inl rfl) (.cons (.lend (.agg (.cons (.d _) (.cons (.d _) (.cons (.d _) .nil))) rfl)) (.cons (.d _) .nil)) rfl rfl (sp_impl_hasOutput x sig (by first | assumption | omega | (rw [List.length_take]; omega) | (have := bulkF_mem hb _ (getD_mem (d := default) (by omega)); assumption) | (unfold bulkS at *; omega) | (simp_all; done))) (.skip _ _ (.skip _ _ .nil)) rfl) (Ch.s (.d (.bool (!(exB x sig)))) (.pure (.not _ _ rfl rfl)) (Ch.nil ?_)))))
 refine T_cond (b := (!(exB x sig))) rfl (fun h1 => ?_) (fun h1 => ?_)
 ·
  replace h1 := nott h1
  try have hxo := exB_has h1
  try have hx := hxo.1
  try have hs := hxo.2
  refine T_seq (T_region hc (Ch.s (.c (.slice none 0 0)) pa (Ch.s (.d (.bool false)) pa (Ch.nil (T_ret ?_)))))
  exact endR [(.c (.slice none 0 0)), (.d (.bool false))] [] [] (.cons (.tmp 6 rfl) (.cons (.tmp 7 rfl) .nil)) (.cons (.any _) (.cons (.any _) (.cons (.any _) .nil))) (.tup (.cons (Exp.of (congrArg (D.slice true 1) (by first | (rw [exV_no h1]; rfl) | (rw [exV_yes h1]; done) | (rw [h1]; done))) (.nil true 1)) (.cons (Exp.of (congrArg D.bool (by first | (rw [exV_no h1]; rfl) | (rw [exV_yes h1]; done) | (rw [h1]; done))) (.d _)) .nil))) rfl rfl
 ·
  replace h1 := notf h1
  try have hxo := exB_has h1
  try have hx := hxo.1
  try have hs := hxo.2
  refine T_skip (T_seq (T_region hc (Ch.s (.agg [(.d (.slice false 2 (x.sigs.map Sgn.d))), (.d (.slice false 1 (x.codes.map D.str))), (.d (.slice false 4 (x.arcs.map Arc.d)))]) (.pure (.loadPtrA _ _ rfl ag35 sz35 rfl rfl (Nat.le_of_ble_eq_true rfl) rfl)) (Ch.s (.d (.int .i64 sig)) pm (Ch.s (.d (.bool (up))) pm ?_)))))
  refine Ch.step (v := (.row 15000)) rfl (.call 15000 88 _ _ _ en88 rfl (.inl rfl) (.cons (.lend (.agg (.cons (.d _) (.cons (.d _) (.cons (.d _) .nil))) rfl)) (.cons (.d _) (.cons (.d _) .nil))) rfl (sol (solid_row intsU_sol _) rfl) (sp_impl_excitationRegions x sig (up) (by first | assumption | omega | (rw [List.length_take]; omega) | (have := bulkF_mem hb _ (getD_mem (d := default) (by omega)); assumption) | (unfold bulkS at *; omega) | (simp_all; done)) (by assumption)) (.skip _ _ (.skip _ _ (.skip _ _ .nil))) rfl) rfl rfl ?_
  refine Ch.s (.row 15000) pa (Ch.s (.d (.bool true)) pa (Ch.nil (T_ret ?_)))
  exact endR [(.row 15000), (.d (.bool true))] [] [15000] (.cons (.tmp 6 rfl) (.cons (.tmp 7 rfl) .nil)) (.cons (.any _) (.cons (.any _) (.cons (.any _) .nil))) (.tup (.cons (Exp.of (congrArg (D.slice true 1) (by first | (rw [exV_no h1]; rfl) | (rw [exV_yes h1]; done) | (rw [h1]; done))) (.row rfl)) (.cons (Exp.of (congrArg D.bool (by first | (rw [exV_no h1]; rfl) | (rw [exV_yes h1]; done) | (rw [h1]; done))) (.d _)) .nil))) rfl rfl

theorem sp_spec_ExcitationRegions (x : Sgr) (sig : Int) (up : Bool) (hb : x.bulk ≤ 1048576) : Sp Tryz.prog 32 [(.agg [(.slice false 2 (x.sigs.map Sgn.d)), (.slice false 1 (x.codes.map D.str)), (.slice false 4 (x.arcs.map Arc.d))]), (.int .i64 sig), (.bool (up))] [.any, .any, .any] (.tup [(.slice true 1 ((exV x sig up).map intsU)), (.bool (exB x sig))]) := by
 refine Sp_intro (lend := true) Tryz.func32 rfl rfl rfl (fun _ => rfl) (fun c hc hX => ?_)
 obtain ⟨hp0, hp1, hp2⟩ := Sgr.parts hb
 have hn0 := bulkF_len hp0
 have hn1 := bulk_len hp1
 have hx1 := bulk_mem hp1
 have hn2 := bulkF_len hp2
 refine T_seq (T_region hc (Ch.s (.ptr 3000 0) (.box 3000 _ _ rfl (.aggD _)) (Ch.s (.c (.slice none 0 0)) pa (Ch.s (.d (.bool false)) pa (Ch.nil (T_seq (T_seq ?_)))))))
 refine T_region hc (Ch.s (.agg [(.d (.slice false 2 (x.sigs.map Sgn.d))), (.d (.slice false 1 (x.codes.map D.str))), (.d (.slice false 4 (x.arcs.map Arc.d)))]) (.pure (.loadPtrA _ _ rfl ag35 sz35 rfl rfl (Nat.le_of_ble_eq_true rfl) rfl)) (Ch.s (.d (.int .i64 sig)) pm (Ch.s (.d (.bool (exB x sig))) (.call 10000 85 _ _ _ en85 rfl (.inl rfl) (.cons (.lend (.agg (.cons (.d _) (.cons (.d _) (.cons (.d _) .nil))) rfl)) (.cons (.d _) .nil)) rfl rfl (sp_spec_l17Asked x sig (by first | assumption | omega | (rw [List.length_take]; omega) | (have := bulkF_mem hb _ (getD_mem (d := default) (by omega)); assumption) | (unfold bulkS at *; omega) | (simp_all; done))) (.skip _ _ (.skip _ _ .nil)) rfl) (Ch.s (.d (.bool (!(exB x sig)))) (.pure (.not _ _ rfl rfl)) (Ch.nil ?_)))))
 refine T_cond (b := (!(exB x sig))) rfl (fun h1 => ?_) (fun h1 => ?_)
 ·
  replace h1 := nott h1
  try have hxo := exB_has h1
  try have hx := hxo.1
  try have hs := hxo.2
  refine T_seq (T_region hc (Ch.s (.c (.slice none 0 0)) pa (Ch.s (.d (.bool false)) pa (Ch.nil (T_ret ?_)))))
  exact endR [(.c (.slice none 0 0)), (.d (.bool false))] [] [] (.cons (.tmp 6 rfl) (.cons (.tmp 7 rfl) .nil)) (.cons (.any _) (.cons (.any _) (.cons (.any _) .nil))) (.tup (.cons (Exp.of (congrArg (D.slice true 1) (by first | (rw [exV_no h1]; rfl) | (rw [exV_yes h1]; done) | (rw [h1]; done))) (.nil true 1)) (.cons (Exp.of (congrArg D.bool (by first | (rw [exV_no h1]; rfl) | (rw [exV_yes h1]; done) | (rw [h1]; done))) (.d _)) .nil))) rfl rfl
 ·
  replace h1 := notf h1
  try have hxo := exB_has h1
  try have hx := hxo.1
  try have hs := hxo.2
  refine T_skip (T_seq (T_region hc (Ch.s (.agg [(.d (.slice false 2 (x.sigs.map Sgn.d))), (.d (.slice false 1 (x.codes.map D.str))), (.d (.slice false 4 (x.arcs.map Arc.d)))]) (.pure (.loadPtrA _ _ rfl ag35 sz35 rfl rfl (Nat.le_of_ble_eq_true rfl) rfl)) (Ch.s (.d (.int .i64 sig)) pm (Ch.s (.d (.bool (up))) pm ?_)))))
  refine Ch.step (v := (.row 15000)) rfl (.call 15000 86 _ _ _ en86 rfl (.inl rfl) (.cons (.lend (.agg (.cons (.d _) (.cons (.d _) (.cons (.d _) .nil))) rfl)) (.cons (.d _) (.cons (.d _) .nil))) rfl (sol (solid_row intsU_sol _) rfl) (sp_spec_l17Regions x sig (up) (by first | assumption | omega | (rw [List.length_take]; omega) | (have := bulkF_mem hb _ (getD_mem (d := default) (by omega)); assumption) | (unfold bulkS at *; omega) | (simp_all; done)) (by assumption) (by first | assumption | omega)) (.skip _ _ (.skip _ _ (.skip _ _ .nil))) rfl) rfl rfl ?_
  refine Ch.s (.row 15000) pa (Ch.s (.d (.bool true)) pa (Ch.nil (T_ret ?_)))
  exact endR [(.row 15000), (.d (.bool true))] [] [15000] (.cons (.tmp 6 rfl) (.cons (.tmp 7 rfl) .nil)) (.cons (.any _) (.cons (.any _) (.cons (.any _) .nil))) (.tup (.cons (Exp.of (congrArg (D.slice true 1) (by first | (rw [exV_no h1]; rfl) | (rw [exV_yes h1]; done) | (rw [h1]; done))) (.row rfl)) (.cons (Exp.of (congrArg D.bool (by first | (rw [exV_no h1]; rfl) | (rw [exV_yes h1]; done) | (rw [h1]; done))) (.d _)) .nil))) rfl rfl

set_option maxHeartbeats 1000000 in
theorem sp_laws_FnExactExcitationRegions (x : Sgr) (sig : Int) (up : Bool) (hwx : x.wide) : Sp Tryz.prog 6 [(.agg [(.slice false 2 (x.sigs.map Sgn.d)), (.slice false 1 (x.codes.map D.str)), (.slice false 4 (x.arcs.map Arc.d))]), (.int .i64 sig), (.bool (up))] [.any, .any, .any] (.bool true) := by
 refine Sp_intro (lend := true) Tryz.func6 rfl rfl rfl (fun _ => rfl) (fun c hc hX => ?_)
 refine T_seq (T_region hc (Ch.s (.ptr 3000 0) (.box 3000 _ _ rfl (.aggD _)) (Ch.s (.d (.bool false)) pa (Ch.nil (T_seq (T_region hc (Ch.s (.d (.int .i64 1048576)) pa ?_)))))))
 refine Ch.nil (T_seq (T_region hc (Ch.s (.agg [(.d (.slice false 2 (x.sigs.map Sgn.d))), (.d (.slice false 1 (x.codes.map D.str))), (.d (.slice false 4 (x.arcs.map Arc.d)))]) (.pure (.loadPtrA _ _ rfl ag26 sz26 rfl rfl (Nat.le_of_ble_eq_true rfl) rfl)) (Ch.s (.d (.int .i64 1048576)) pm (Ch.s (.d (.int .i64 (szR x.bulk 1048576))) (.call 20000 16 _ _ _ en16 rfl (.inl rfl) (.cons (.lend (.agg (.cons (.d _) (.cons (.d _) (.cons (.d _) .nil))) rfl)) (.cons (.d _) .nil)) rfl rfl (sp_laws_szStateGraph x 1048576 (by first | omega | assumption | (exact hx _ (getD_mem (by omega))) | (exact hx _ (by assumption)) | (exact Nat.le_trans (hx _ (by assumption)) (by omega)) | (simp only [List.length_append, List.length_take, List.length_drop, List.length_cons, List.length_nil]; omega) | (simp_all; done)) (by first | omega | assumption | (exact hx _ (getD_mem (by omega))) | (exact hx _ (by assumption)) | (exact Nat.le_trans (hx _ (by assumption)) (by omega)) | (simp only [List.length_append, List.length_take, List.length_drop, List.length_cons, List.length_nil]; omega) | (simp_all; done)) (by first | assumption | omega | trivial | (simp_all; done) | (exact fun _ _ => trivial) | (exact hx _ (by assumption)) | (refine ⟨?_, ?_⟩ <;> first | assumption | omega))) (.skip _ _ (.skip _ _ .nil)) rfl) (Ch.s (.d (.int .i64 (szR x.bulk 1048576))) pa (Ch.nil ?_)))))))
 refine T_seq (T_seq (T_region hc (Ch.s (.d (.int .i64 (szR x.bulk 1048576))) pm (Ch.s (.d (.bool (decide ((szR x.bulk 1048576) < 0)))) (.pure (.int _ _ _ _ _ rfl rfl rfl rfl)) (Ch.nil ?_)))))
 refine T_cond (b := (decide ((szR x.bulk 1048576) < 0))) rfl (fun h1 => ?_) (fun h1 => ?_)
 ·
  replace h1 := of_decide_eq_true h1
  try have hz := szR_ok (t := x.bulk) (left := 1048576) h1 (by omega)
  try have hb : x.bulk ≤ 1048576 := by omega
  try have hl := hz.2
  try have hsm := exV_small (x := x) (sig := sig) (up := up)
  try have hcl : (exV x sig up).length ≤ 1048576 := by omega
  try have hss : ∀ pr ∈ exV x sig up, pr.length ≤ 1048576 := fun pr hpr => by (have := hsm.2.1 pr hpr; omega)
  try have hlt := hsm.2.2
  try have hhm := hss_marks 1 (exV x sig up)
  try have hmn := mss_len 1 (exV x sig up)
  try have hml := mss_total 1 (exV x sig up)
  refine T_seq (T_region hc (Ch.s (.d (.bool true)) pa (Ch.nil (T_ret ?_))))
  exact endR [(.d (.bool true))] [] [] (.cons (.tmp 6 rfl) .nil) (.cons (.any _) (.cons (.any _) (.cons (.any _) .nil))) (.d _) rfl rfl
 ·
  replace h1 := of_decide_eq_false h1
  try have hz := szR_ok (t := x.bulk) (left := 1048576) h1 (by omega)
  try have hb : x.bulk ≤ 1048576 := by omega
  try have hl := hz.2
  try have hsm := exV_small (x := x) (sig := sig) (up := up)
  try have hcl : (exV x sig up).length ≤ 1048576 := by omega
  try have hss : ∀ pr ∈ exV x sig up, pr.length ≤ 1048576 := fun pr hpr => by (have := hsm.2.1 pr hpr; omega)
  try have hlt := hsm.2.2
  try have hhm := hss_marks 1 (exV x sig up)
  try have hmn := mss_len 1 (exV x sig up)
  try have hml := mss_total 1 (exV x sig up)
  refine T_skip (T_seq (T_region hc (Ch.s (.agg [(.d (.slice false 2 (x.sigs.map Sgn.d))), (.d (.slice false 1 (x.codes.map D.str))), (.d (.slice false 4 (x.arcs.map Arc.d)))]) (.pure (.loadPtrA _ _ rfl ag26 sz26 rfl rfl (Nat.le_of_ble_eq_true rfl) rfl)) ?_)))
  refine Ch.step (v := (.agg [(.row 25000), (.row 25001), (.row 25002)])) rfl (.call 25000 18 _ _ _ en18 rfl (.inl rfl) (.cons (.lend (.agg (.cons (.d _) (.cons (.d _) (.cons (.d _) .nil))) rfl)) .nil) rfl (sol (Sgr.sol _) rfl) (sp_laws_toStateGraph x (by first | assumption | omega | (rw [List.length_take]; omega) | (have := bulkF_mem hb _ (getD_mem (d := default) (by omega)); assumption) | (unfold bulkS at *; omega) | (simp_all; done))) (.skip _ _ .nil) rfl) rfl rfl ?_
  refine Ch.s (.d (.int .i64 sig)) pm (Ch.s (.d (.bool (up))) pm ?_)
  refine Ch.step (v := (.tup [(.row 28000), (.d (.bool (exB x sig)))])) rfl (.call 28000 32 _ _ _ en32 rfl (.inl rfl) (.cons (.lend (.agg (.cons (.row rfl (frozs_map (fun _ => rfl) _)) (.cons (.row rfl (frozs_map (fun _ => rfl) _)) (.cons (.row rfl (frozs_map (fun _ => rfl) _)) .nil))) rfl)) (.cons (.d _) (.cons (.d _) .nil))) rfl (sol (by rw [D.solid]; exact solids_c (solid_row intsU_sol _) rfl) rfl) (sp_spec_ExcitationRegions x sig (up) (by first | assumption | omega | (rw [List.length_take]; omega) | (have := bulkF_mem hb _ (getD_mem (d := default) (by omega)); assumption) | (unfold bulkS at *; omega) | (simp_all; done))) (.skip _ _ (.skip _ _ (.skip _ _ .nil))) rfl) rfl rfl ?_
  refine Ch.s (.tup [(.row 28000), (.d (.bool (exB x sig)))]) pm (Ch.s (.row 28000) (.pure (.extract _ rfl rfl rfl)) (Ch.s (.d (.bool (exB x sig))) (.pure (.extract _ rfl rfl rfl)) (Ch.s (.row 28000) pa (Ch.s (.d (.bool (exB x sig))) pa (Ch.nil (T_seq (T_region hc ?_)))))))
  refine Ch.s (.agg [(.d (.slice false 2 (x.sigs.map Sgn.d))), (.d (.slice false 1 (x.codes.map D.str))), (.d (.slice false 4 (x.arcs.map Arc.d)))]) (.pure (.loadPtrA _ _ rfl ag26 sz26 rfl rfl (Nat.le_of_ble_eq_true rfl) rfl)) ?_
  refine Ch.step (v := (.agg [(.row 32000), (.row 32001), (.row 32002)])) rfl (.call 32000 18 _ _ _ en18 rfl (.inl rfl) (.cons (.lend (.agg (.cons (.d _) (.cons (.d _) (.cons (.d _) .nil))) rfl)) .nil) rfl (sol (Sgr.sol _) rfl) (sp_laws_toStateGraph x (by first | assumption | omega | (rw [List.length_take]; omega) | (have := bulkF_mem hb _ (getD_mem (d := default) (by omega)); assumption) | (unfold bulkS at *; omega) | (simp_all; done))) (.skip _ _ .nil) rfl) rfl rfl ?_
  refine Ch.s (.ptr 10000 0) (.alloc 10000 _ rfl zer35) (Ch.s .junk (.storePtr _ _ _ rfl rfl rfl (.agg _ rfl) sz35 (Nat.le_of_ble_eq_true rfl)) (Ch.nil (T_seq (T_region hc (Ch.s (.agg [(.row 32000), (.row 32001), (.row 32002)]) (.pure (.loadPtrA _ _ rfl ag35 sz35 rfl rfl (Nat.le_of_ble_eq_true rfl) rfl)) (Ch.s (.d (.int .i64 sig)) pm (Ch.s (.d (.bool (up))) pm ?_)))))))
  refine Ch.step (v := (.tup [(.row 37000), (.d (.bool (exB x sig)))])) rfl (.call 37000 33 _ _ _ en33 rfl (.inl rfl) (.cons (.lend (.agg (.cons (.row rfl (frozs_map (fun _ => rfl) _)) (.cons (.row rfl (frozs_map (fun _ => rfl) _)) (.cons (.row rfl (frozs_map (fun _ => rfl) _)) .nil))) rfl)) (.cons (.d _) (.cons (.d _) .nil))) rfl (sol (by rw [D.solid]; exact solids_c (solid_row intsU_sol _) rfl) rfl) (sp_impl_ExcitationRegions x sig (up) (by first | assumption | omega | (rw [List.length_take]; omega) | (have := bulkF_mem hb _ (getD_mem (d := default) (by omega)); assumption) | (unfold bulkS at *; omega) | (simp_all; done))) (.skip _ _ (.skip _ _ (.skip _ _ .nil))) rfl) rfl rfl ?_
  refine Ch.s (.tup [(.row 37000), (.d (.bool (exB x sig)))]) pm (Ch.s (.row 37000) (.pure (.extract _ rfl rfl rfl)) (Ch.s (.d (.bool (exB x sig))) (.pure (.extract _ rfl rfl rfl)) (Ch.s (.row 37000) pa (Ch.s (.d (.bool (exB x sig))) pa (Ch.nil (T_seq (T_seq ?_)))))))
  refine T_region hc (Ch.s (.row 37000) pm (Ch.s (.row 28000) pm (Ch.s (.d (.bool (decide ((exV x sig (up)) = (exV x sig (up)))))) (.call 42000 34 _ _ _ en34 rfl (.inl rfl) (.cons (.lend (.row rfl (frozs_to intsU_fz _))) (.cons (.lend (.row rfl (frozs_to intsU_fz _))) .nil)) rfl rfl (sp_laws_eqIntSS (exV x sig (up)) (exV x sig (up)) (by first | assumption | omega | (rw [List.length_take]; omega) | (have := bulkF_mem hb _ (getD_mem (d := default) (by omega)); assumption) | (unfold bulkS at *; omega) | (simp_all; done)) (by first | assumption | (exact fun x hx => by have := hss x hx; omega))) (.skip _ _ (.skip _ _ .nil)) rfl) (Ch.s (.d (.bool (!(decide ((exV x sig (up)) = (exV x sig (up))))))) (.pure (.not _ _ rfl rfl)) (Ch.s (.d (.bool (!(decide ((exV x sig (up)) = (exV x sig (up))))))) pm ?_)))))
  cases h2 : (decide ((exV x sig (up)) = (exV x sig (up)))) with
  | true =>
   replace h2 := of_decide_eq_true h2
   refine Ch.s (.d (.bool (exB x sig))) pm (Ch.s (.d (.bool (exB x sig))) pm (Ch.s (.d (.bool (!(decide ((exB x sig) = (exB x sig)))))) (.pure (.neB _ _ _ _ rfl Tryz.underlying4 rfl rfl)) (Ch.s (.d (.bool (!(decide ((exB x sig) = (exB x sig)))))) (.pure (.pickF _ _ _ rfl rfl rfl)) (Ch.nil ?_))))
   refine T_cond (b := (!(decide ((exB x sig) = (exB x sig))))) rfl (fun h3 => ?_) (fun h3 => ?_)
   ·
    replace h3 := nott h3
    replace h3 := of_decide_eq_false h3
    refine T_seq (T_region hc (Ch.s (.d (.bool false)) pa (Ch.nil (T_ret ?_))))
    exact endR [(.d (.bool false))] [] [] (.cons (.tmp 6 rfl) .nil) (.cons (.any _) (.cons (.any _) (.cons (.any _) .nil))) (Exp.of (congrArg D.bool (by first | rfl | contradiction | (exfalso; omega) | (simp_all; done) | (exfalso; simp_all; omega))) (.d _)) rfl rfl
   ·
    replace h3 := notf h3
    replace h3 := of_decide_eq_true h3
    refine T_skip (T_seq (T_seq ?_))
    refine T_regionD hc (by kernel_rfl) ?_
    refine ChD.s (.agg [(.row 32000), (.row 32001), (.row 32002)]) [10000, 32000, 32001, 32002] (.pure (.loadPtrA _ _ rfl ag35 sz35 rfl rfl (Nat.le_of_ble_eq_true rfl) rfl)) (ChD.s (.agg [(.d (.slice false 2 (x.sigs.map Sgn.d))), (.d (.slice false 1 (x.codes.map D.str))), (.d (.slice false 4 (x.arcs.map Arc.d)))]) [3000] (.pure (.loadPtrA _ _ rfl ag26 sz26 rfl rfl (Nat.le_of_ble_eq_true rfl) rfl)) (ChD.s (.agg [(.row 51000), (.row 51001), (.row 51002)]) [] (.call 51000 18 _ _ _ en18 rfl (.inl rfl) (.cons (.lend (.agg (.cons (.d _) (.cons (.d _) (.cons (.d _) .nil))) rfl)) .nil) rfl (sol (Sgr.sol _) rfl) (sp_laws_toStateGraph x (by first | assumption | omega | (rw [List.length_take]; omega) | (have := bulkF_mem hb _ (getD_mem (d := default) (by omega)); assumption) | (unfold bulkS at *; omega) | (simp_all; done))) (.skip _ _ .nil) rfl) (ChD.s (.d (.bool (decide (x = x)))) [32000, 32001, 32002, 51000, 51001, 51002] (.call 52000 21 _ _ _ en21 rfl (.inl rfl) (.cons (.lend (.agg (.cons (.row rfl (frozs_map (fun _ => rfl) _)) (.cons (.row rfl (frozs_map (fun _ => rfl) _)) (.cons (.row rfl (frozs_map (fun _ => rfl) _)) .nil))) rfl)) (.cons (.lend (.agg (.cons (.row rfl (frozs_map (fun _ => rfl) _)) (.cons (.row rfl (frozs_map (fun _ => rfl) _)) (.cons (.row rfl (frozs_map (fun _ => rfl) _)) .nil))) rfl)) .nil)) rfl rfl (sp_laws_eqStateGraph x x (by first | assumption | omega | (rw [List.length_take]; omega) | (have := bulkF_mem hb _ (getD_mem (d := default) (by omega)); assumption) | (unfold bulkS at *; omega) | (simp_all; done))) (.skip _ _ (.skip _ _ .nil)) rfl) (ChD.s (.d (.bool (!(decide (x = x))))) [] (.pure (.not _ _ rfl rfl)) ?_))))
    refine ChD.nil (And.intro ?_ (by kernel_rfl))
    refine T_cond (b := (!(decide (x = x)))) rfl (fun h4 => ?_) (fun h4 => ?_)
    ·
     replace h4 := nott h4
     replace h4 := of_decide_eq_false h4
     refine T_seq (T_region hc (Ch.s (.d (.bool false)) pa (Ch.nil (T_ret ?_))))
     exact endR [(.d (.bool false))] [] [] (.cons (.tmp 6 rfl) .nil) (.cons (.any _) (.cons (.any _) (.cons (.any _) .nil))) (Exp.of (congrArg D.bool (by first | rfl | contradiction | (exfalso; omega) | (simp_all; done) | (exfalso; simp_all; omega))) (.d _)) rfl rfl
    ·
     replace h4 := notf h4
     replace h4 := of_decide_eq_true h4
     refine T_skip (T_seq (T_region hc (Ch.s (.d (.int .i64 1)) pa (Ch.nil (T_seq (T_region hc (Ch.s (.agg [(.row 32000), (.row 32001), (.row 32002)]) (.pure (.loadPtrA _ _ rfl ag35 sz35 rfl rfl (Nat.le_of_ble_eq_true rfl) rfl)) ?_)))))))
     refine Ch.s (.d (.int .i64 1)) pm (Ch.s (.d (.int .i64 ((1 + 2 * x.sigs.length + x.codes.length + 4 * x.arcs.length : Nat) : Int))) (.call 56000 22 _ _ _ en22 rfl (.inl rfl) (.cons (.agg (.cons (.row rfl) (.cons (.row rfl) (.cons (.row rfl) .nil))) rfl) (.cons (.d _) .nil)) rfl rfl (sp_laws_markStateGraph x 1 (by first | assumption | omega | (rw [List.length_take]; omega) | (have := bulkF_mem hb _ (getD_mem (d := default) (by omega)); assumption) | (unfold bulkS at *; omega) | (simp_all; done)) (by first | assumption | omega | (rw [List.length_take]; omega) | (have := bulkF_mem hb _ (getD_mem (d := default) (by omega)); assumption) | (unfold bulkS at *; omega) | (simp_all; done))) (.skip _ _ (.skip _ _ .nil)) rfl) (Ch.s (.d (.int .i64 ((1 + 2 * x.sigs.length + x.codes.length + 4 * x.arcs.length : Nat) : Int))) pa (Ch.nil (T_seq (T_seq (T_region hc (Ch.s (.d (.int .i64 ((1 + 2 * x.sigs.length + x.codes.length + 4 * x.arcs.length : Nat) : Int))) pm ?_)))))))
     refine Ch.s (.d (.bool (decide (((1 + 2 * x.sigs.length + x.codes.length + 4 * x.arcs.length : Nat) : Int) < 0)))) (.pure (.int _ _ _ _ _ rfl rfl rfl rfl)) (Ch.s (.d (.bool (decide (((1 + 2 * x.sigs.length + x.codes.length + 4 * x.arcs.length : Nat) : Int) < 0)))) pm ?_)
     cases h5 : (decide (((1 + 2 * x.sigs.length + x.codes.length + 4 * x.arcs.length : Nat) : Int) < 0)) with
     | true =>
      replace h5 := of_decide_eq_true h5
      refine Ch.skip rfl rfl (Ch.skip rfl rfl (Ch.skip rfl rfl (Ch.skip rfl rfl (Ch.s (.d (.bool true)) (.pure (.pickT _ _ _ rfl rfl rfl)) (Ch.s (.d (.bool true)) pm (Ch.skip rfl rfl (Ch.skip rfl rfl ?_)))))))
      refine Ch.skip rfl rfl (Ch.s (.d (.bool true)) (.pure (.pickT _ _ _ rfl rfl rfl)) (Ch.nil ?_))
      refine T_cond (b := true) rfl (fun _ => ?_) (fun h => nomatch h)
      refine T_seq (T_region hc (Ch.s (.d (.bool false)) pa (Ch.nil (T_ret ?_))))
      exact endR [(.d (.bool false))] [] [] (.cons (.tmp 6 rfl) .nil) (.cons (.any _) (.cons (.any _) (.cons (.any _) .nil))) (Exp.of (congrArg D.bool (by first | rfl | contradiction | (exfalso; omega) | (simp_all; done) | (exfalso; simp_all; omega))) (.d _)) rfl rfl
     | false =>
      replace h5 := of_decide_eq_false h5
      refine Ch.s (.row 37000) pm (Ch.s (.row 28000) pm (Ch.s (.d (.bool (decide ((exV x sig (up)) = (exV x sig (up)))))) (.call 62000 34 _ _ _ en34 rfl (.inl rfl) (.cons (.lend (.row rfl (frozs_to intsU_fz _))) (.cons (.lend (.row rfl (frozs_to intsU_fz _))) .nil)) rfl rfl (sp_laws_eqIntSS (exV x sig (up)) (exV x sig (up)) (by first | assumption | omega | (rw [List.length_take]; omega) | (have := bulkF_mem hb _ (getD_mem (d := default) (by omega)); assumption) | (unfold bulkS at *; omega) | (simp_all; done)) (by first | assumption | (exact fun x hx => by have := hss x hx; omega))) (.skip _ _ (.skip _ _ .nil)) rfl) (Ch.s (.d (.bool (!(decide ((exV x sig (up)) = (exV x sig (up))))))) (.pure (.not _ _ rfl rfl)) (Ch.s (.d (.bool (!(decide ((exV x sig (up)) = (exV x sig (up))))))) (.pure (.pickF _ _ _ rfl rfl rfl)) (Ch.s (.d (.bool (!(decide ((exV x sig (up)) = (exV x sig (up))))))) pm ?_)))))
      cases h6 : (decide ((exV x sig (up)) = (exV x sig (up)))) with
      | true =>
       replace h6 := of_decide_eq_true h6
       refine Ch.s (.d (.bool (exB x sig))) pm (Ch.s (.d (.bool (exB x sig))) pm (Ch.s (.d (.bool (!(decide ((exB x sig) = (exB x sig)))))) (.pure (.neB _ _ _ _ rfl Tryz.underlying4 rfl rfl)) (Ch.s (.d (.bool (!(decide ((exB x sig) = (exB x sig)))))) (.pure (.pickF _ _ _ rfl rfl rfl)) (Ch.nil ?_))))
       refine T_cond (b := (!(decide ((exB x sig) = (exB x sig))))) rfl (fun h7 => ?_) (fun h7 => ?_)
       ·
        replace h7 := nott h7
        replace h7 := of_decide_eq_false h7
        refine T_seq (T_region hc (Ch.s (.d (.bool false)) pa (Ch.nil (T_ret ?_))))
        exact endR [(.d (.bool false))] [] [] (.cons (.tmp 6 rfl) .nil) (.cons (.any _) (.cons (.any _) (.cons (.any _) .nil))) (Exp.of (congrArg D.bool (by first | rfl | contradiction | (exfalso; omega) | (simp_all; done) | (exfalso; simp_all; omega))) (.d _)) rfl rfl
       ·
        replace h7 := notf h7
        replace h7 := of_decide_eq_true h7
        refine T_skip (T_seq (T_region hc (Ch.s (.d (.int .i64 1)) pa (Ch.nil (T_seq (T_region hc (Ch.s (.row 37000) pm ?_)))))))
        refine Ch.s (.d (.int .i64 1)) pm ?_
        refine Ch.step (v := (.d (.int .i64 ((1 + lenTo (exV x sig (up)) (exV x sig (up)).length : Nat) : Int)))) rfl (.call 72000 35 _ _ _ en35 rfl (.inl rfl) (.cons (.row rfl) (.cons (.d _) .nil)) rfl (sol rfl (solids_c (solid_row intsU_sol _) rfl)) (sp_laws_markIntSS (exV x sig (up)) 1 (by first | assumption | omega | (rw [List.length_take]; omega) | (have := bulkF_mem hb _ (getD_mem (d := default) (by omega)); assumption) | (unfold bulkS at *; omega) | (simp_all; done)) (by first | assumption | omega | (rw [List.length_take]; omega) | (have := bulkF_mem hb _ (getD_mem (d := default) (by omega)); assumption) | (unfold bulkS at *; omega) | (simp_all; done)) (by first | assumption | omega | (rw [List.length_take]; omega) | (have := bulkF_mem hb _ (getD_mem (d := default) (by omega)); assumption) | (unfold bulkS at *; omega) | (simp_all; done))) (.row _ _ _ (.skip _ _ .nil)) rfl) rfl rfl ?_
        refine Ch.s (.d (.int .i64 ((1 + lenTo (exV x sig (up)) (exV x sig (up)).length : Nat) : Int))) pa (Ch.nil (T_seq (T_region hc (Ch.s (.d (.int .i64 1)) pa (Ch.nil (T_seq (T_region hc ?_)))))))
        refine Ch.s (.row 37000) pm (Ch.s (.d (.int .i64 1)) pm (Ch.s (.d (.int .i64 (hssR (mss 1 (exV x sig (up))) 1))) (.call 75000 36 _ _ _ en36 rfl (.inl rfl) (.cons (.lend (.row rfl (frozs_to intsU_fz _))) (.cons (.d _) .nil)) rfl rfl (sp_laws_heldIntSS (mss 1 (exV x sig (up))) 1 (by first | assumption | omega | (rw [List.length_take]; omega) | (have := bulkF_mem hb _ (getD_mem (d := default) (by omega)); assumption) | (unfold bulkS at *; omega) | (simp_all; done)) (by first | assumption | omega | (rw [List.length_take]; omega) | (have := bulkF_mem hb _ (getD_mem (d := default) (by omega)); assumption) | (unfold bulkS at *; omega) | (simp_all; done)) (by first | assumption | omega | (rw [List.length_take]; omega) | (have := bulkF_mem hb _ (getD_mem (d := default) (by omega)); assumption) | (unfold bulkS at *; omega) | (simp_all; done))) (.skip _ _ (.skip _ _ .nil)) rfl) (Ch.s (.d (.int .i64 (hssR (mss 1 (exV x sig (up))) 1))) pa (Ch.nil (T_seq (T_seq (T_region hc ?_)))))))
        refine Ch.s (.d (.int .i64 (hssR (mss 1 (exV x sig (up))) 1))) pm (Ch.s (.d (.bool (decide ((hssR (mss 1 (exV x sig (up))) 1) < 0)))) (.pure (.int _ _ _ _ _ rfl rfl rfl rfl)) (Ch.nil ?_))
        refine T_cond (b := (decide ((hssR (mss 1 (exV x sig (up))) 1) < 0))) rfl (fun h8 => ?_) (fun h8 => ?_)
        ·
         replace h8 := of_decide_eq_true h8
         refine T_seq (T_region hc (Ch.s (.d (.bool false)) pa (Ch.nil (T_ret ?_))))
         exact endR [(.d (.bool false))] [] [] (.cons (.tmp 6 rfl) .nil) (.cons (.any _) (.cons (.any _) (.cons (.any _) .nil))) (Exp.of (congrArg D.bool (by first | rfl | contradiction | (exfalso; omega) | (simp_all; done) | (exfalso; simp_all; omega))) (.d _)) rfl rfl
        ·
         replace h8 := of_decide_eq_false h8
         refine T_skip (T_seq (T_seq (T_region hc (Ch.s (.d (.int .i64 (hssR (mss 1 (exV x sig (up))) 1))) pm (Ch.s (.d (.int .i64 ((1 + lenTo (exV x sig (up)) (exV x sig (up)).length : Nat) : Int))) pm (Ch.s (.d (.bool (!(decide ((hssR (mss 1 (exV x sig (up))) 1) = ((1 + lenTo (exV x sig (up)) (exV x sig (up)).length : Nat) : Int)))))) (.pure (.int _ _ _ _ _ rfl rfl rfl rfl)) (Ch.nil ?_)))))))
         refine T_cond (b := (!(decide ((hssR (mss 1 (exV x sig (up))) 1) = ((1 + lenTo (exV x sig (up)) (exV x sig (up)).length : Nat) : Int))))) rfl (fun h9 => ?_) (fun h9 => ?_)
         ·
          replace h9 := nott h9
          replace h9 := of_decide_eq_false h9
          refine T_seq (T_region hc (Ch.s (.d (.bool false)) pa (Ch.nil (T_ret ?_))))
          exact endR [(.d (.bool false))] [] [] (.cons (.tmp 6 rfl) .nil) (.cons (.any _) (.cons (.any _) (.cons (.any _) .nil))) (Exp.of (congrArg D.bool (by first | rfl | contradiction | (exfalso; omega) | (simp_all; done) | (exfalso; simp_all; omega))) (.d _)) rfl rfl
         ·
          replace h9 := notf h9
          replace h9 := of_decide_eq_true h9
          refine T_skip (T_seq (T_region hc (Ch.s (.agg [(.d (.slice false 2 (x.sigs.map Sgn.d))), (.d (.slice false 1 (x.codes.map D.str))), (.d (.slice false 4 (x.arcs.map Arc.d)))]) (.pure (.loadPtrA _ _ rfl ag26 sz26 rfl rfl (Nat.le_of_ble_eq_true rfl) rfl)) ?_)))
          refine Ch.step (v := (.agg [(.row 83000), (.row 83001), (.row 83002)])) rfl (.call 83000 18 _ _ _ en18 rfl (.inl rfl) (.cons (.lend (.agg (.cons (.d _) (.cons (.d _) (.cons (.d _) .nil))) rfl)) .nil) rfl (sol (Sgr.sol _) rfl) (sp_laws_toStateGraph x (by first | assumption | omega | (rw [List.length_take]; omega) | (have := bulkF_mem hb _ (getD_mem (d := default) (by omega)); assumption) | (unfold bulkS at *; omega) | (simp_all; done))) (.skip _ _ .nil) rfl) rfl rfl ?_
          refine Ch.s (.d (.int .i64 sig)) pm (Ch.s (.d (.bool (up))) pm ?_)
          refine Ch.step (v := (.tup [(.row 86000), (.d (.bool (exB x sig)))])) rfl (.call 86000 33 _ _ _ en33 rfl (.inl rfl) (.cons (.lend (.agg (.cons (.row rfl (frozs_map (fun _ => rfl) _)) (.cons (.row rfl (frozs_map (fun _ => rfl) _)) (.cons (.row rfl (frozs_map (fun _ => rfl) _)) .nil))) rfl)) (.cons (.d _) (.cons (.d _) .nil))) rfl (sol (by rw [D.solid]; exact solids_c (solid_row intsU_sol _) rfl) rfl) (sp_impl_ExcitationRegions x sig (up) (by first | assumption | omega | (rw [List.length_take]; omega) | (have := bulkF_mem hb _ (getD_mem (d := default) (by omega)); assumption) | (unfold bulkS at *; omega) | (simp_all; done))) (.skip _ _ (.skip _ _ (.skip _ _ .nil))) rfl) rfl rfl ?_
          refine Ch.s (.tup [(.row 86000), (.d (.bool (exB x sig)))]) pm (Ch.s (.row 86000) (.pure (.extract _ rfl rfl rfl)) (Ch.s (.d (.bool (exB x sig))) (.pure (.extract _ rfl rfl rfl)) (Ch.s (.row 86000) pa (Ch.s (.d (.bool (exB x sig))) pa (Ch.nil (T_seq (T_seq ?_)))))))
          refine T_region hc (Ch.s (.row 86000) pm (Ch.s (.row 28000) pm (Ch.s (.d (.bool (decide ((exV x sig (up)) = (exV x sig (up)))))) (.call 91000 34 _ _ _ en34 rfl (.inl rfl) (.cons (.lend (.row rfl (frozs_to intsU_fz _))) (.cons (.lend (.row rfl (frozs_to intsU_fz _))) .nil)) rfl rfl (sp_laws_eqIntSS (exV x sig (up)) (exV x sig (up)) (by first | assumption | omega | (rw [List.length_take]; omega) | (have := bulkF_mem hb _ (getD_mem (d := default) (by omega)); assumption) | (unfold bulkS at *; omega) | (simp_all; done)) (by first | assumption | (exact fun x hx => by have := hss x hx; omega))) (.skip _ _ (.skip _ _ .nil)) rfl) (Ch.s (.d (.bool (!(decide ((exV x sig (up)) = (exV x sig (up))))))) (.pure (.not _ _ rfl rfl)) (Ch.s (.d (.bool (!(decide ((exV x sig (up)) = (exV x sig (up))))))) pm ?_)))))
          cases h10 : (decide ((exV x sig (up)) = (exV x sig (up)))) with
          | true =>
           replace h10 := of_decide_eq_true h10
           refine Ch.s (.d (.bool (exB x sig))) pm (Ch.s (.d (.bool (exB x sig))) pm (Ch.s (.d (.bool (!(decide ((exB x sig) = (exB x sig)))))) (.pure (.neB _ _ _ _ rfl Tryz.underlying4 rfl rfl)) (Ch.s (.d (.bool (!(decide ((exB x sig) = (exB x sig)))))) (.pure (.pickF _ _ _ rfl rfl rfl)) (Ch.nil ?_))))
           refine T_cond (b := (!(decide ((exB x sig) = (exB x sig))))) rfl (fun h11 => ?_) (fun h11 => ?_)
           ·
            replace h11 := nott h11
            replace h11 := of_decide_eq_false h11
            refine T_seq (T_region hc (Ch.s (.d (.bool false)) pa (Ch.nil (T_ret ?_))))
            exact endR [(.d (.bool false))] [] [] (.cons (.tmp 6 rfl) .nil) (.cons (.any _) (.cons (.any _) (.cons (.any _) .nil))) (Exp.of (congrArg D.bool (by first | rfl | contradiction | (exfalso; omega) | (simp_all; done) | (exfalso; simp_all; omega))) (.d _)) rfl rfl
           ·
            replace h11 := notf h11
            replace h11 := of_decide_eq_true h11
            refine T_skip (T_seq (T_region hc (Ch.s (.d (.int .i64 1)) pa (Ch.nil (T_seq (T_region hc (Ch.s (.row 37000) pm ?_)))))))
            refine Ch.s (.d (.int .i64 1)) pm (Ch.s (.d (.int .i64 (hssR (mss 1 (exV x sig (up))) 1))) (.call 100000 36 _ _ _ en36 rfl (.inl rfl) (.cons (.lend (.row rfl (frozs_to intsU_fz _))) (.cons (.d _) .nil)) rfl rfl (sp_laws_heldIntSS (mss 1 (exV x sig (up))) 1 (by first | assumption | omega | (rw [List.length_take]; omega) | (have := bulkF_mem hb _ (getD_mem (d := default) (by omega)); assumption) | (unfold bulkS at *; omega) | (simp_all; done)) (by first | assumption | omega | (rw [List.length_take]; omega) | (have := bulkF_mem hb _ (getD_mem (d := default) (by omega)); assumption) | (unfold bulkS at *; omega) | (simp_all; done)) (by first | assumption | omega | (rw [List.length_take]; omega) | (have := bulkF_mem hb _ (getD_mem (d := default) (by omega)); assumption) | (unfold bulkS at *; omega) | (simp_all; done))) (.skip _ _ (.skip _ _ .nil)) rfl) (Ch.s (.d (.int .i64 (hssR (mss 1 (exV x sig (up))) 1))) pa (Ch.nil (T_seq (T_seq (T_region hc (Ch.s (.d (.int .i64 (hssR (mss 1 (exV x sig (up))) 1))) pm ?_)))))))
            refine Ch.s (.d (.bool (decide ((hssR (mss 1 (exV x sig (up))) 1) < 0)))) (.pure (.int _ _ _ _ _ rfl rfl rfl rfl)) (Ch.nil ?_)
            refine T_cond (b := (decide ((hssR (mss 1 (exV x sig (up))) 1) < 0))) rfl (fun h12 => ?_) (fun h12 => ?_)
            ·
             replace h12 := of_decide_eq_true h12
             refine T_seq (T_region hc (Ch.s (.d (.bool false)) pa (Ch.nil (T_ret ?_))))
             exact endR [(.d (.bool false))] [] [] (.cons (.tmp 6 rfl) .nil) (.cons (.any _) (.cons (.any _) (.cons (.any _) .nil))) (Exp.of (congrArg D.bool (by first | rfl | contradiction | (exfalso; omega) | (simp_all; done) | (exfalso; simp_all; omega))) (.d _)) rfl rfl
            ·
             replace h12 := of_decide_eq_false h12
             refine T_skip (T_seq (T_seq (T_region hc (Ch.s (.d (.int .i64 (hssR (mss 1 (exV x sig (up))) 1))) pm (Ch.s (.d (.int .i64 ((1 + lenTo (exV x sig (up)) (exV x sig (up)).length : Nat) : Int))) pm (Ch.s (.d (.bool (!(decide ((hssR (mss 1 (exV x sig (up))) 1) = ((1 + lenTo (exV x sig (up)) (exV x sig (up)).length : Nat) : Int)))))) (.pure (.int _ _ _ _ _ rfl rfl rfl rfl)) (Ch.nil ?_)))))))
             refine T_cond (b := (!(decide ((hssR (mss 1 (exV x sig (up))) 1) = ((1 + lenTo (exV x sig (up)) (exV x sig (up)).length : Nat) : Int))))) rfl (fun h13 => ?_) (fun h13 => ?_)
             ·
              replace h13 := nott h13
              replace h13 := of_decide_eq_false h13
              refine T_seq (T_region hc (Ch.s (.d (.bool false)) pa (Ch.nil (T_ret ?_))))
              exact endR [(.d (.bool false))] [] [] (.cons (.tmp 6 rfl) .nil) (.cons (.any _) (.cons (.any _) (.cons (.any _) .nil))) (Exp.of (congrArg D.bool (by first | rfl | contradiction | (exfalso; omega) | (simp_all; done) | (exfalso; simp_all; omega))) (.d _)) rfl rfl
             ·
              replace h13 := notf h13
              replace h13 := of_decide_eq_true h13
              refine T_skip (T_seq (T_region hc (Ch.s (.d (.bool true)) pa (Ch.nil (T_ret ?_)))))
              exact endR [(.d (.bool true))] [] [] (.cons (.tmp 6 rfl) .nil) (.cons (.any _) (.cons (.any _) (.cons (.any _) .nil))) (.d _) rfl rfl
          | false =>
           replace h10 := of_decide_eq_false h10
           refine Ch.skip rfl rfl (Ch.skip rfl rfl (Ch.skip rfl rfl (Ch.s (.d (.bool true)) (.pure (.pickT _ _ _ rfl rfl rfl)) (Ch.nil ?_))))
           refine T_cond (b := true) rfl (fun _ => ?_) (fun h => nomatch h)
           refine T_seq (T_region hc (Ch.s (.d (.bool false)) pa (Ch.nil (T_ret ?_))))
           exact endR [(.d (.bool false))] [] [] (.cons (.tmp 6 rfl) .nil) (.cons (.any _) (.cons (.any _) (.cons (.any _) .nil))) (Exp.of (congrArg D.bool (by first | rfl | contradiction | (exfalso; omega) | (simp_all; done) | (exfalso; simp_all; omega))) (.d _)) rfl rfl
      | false =>
       replace h6 := of_decide_eq_false h6
       refine Ch.skip rfl rfl (Ch.skip rfl rfl (Ch.skip rfl rfl (Ch.s (.d (.bool true)) (.pure (.pickT _ _ _ rfl rfl rfl)) (Ch.nil ?_))))
       refine T_cond (b := true) rfl (fun _ => ?_) (fun h => nomatch h)
       refine T_seq (T_region hc (Ch.s (.d (.bool false)) pa (Ch.nil (T_ret ?_))))
       exact endR [(.d (.bool false))] [] [] (.cons (.tmp 6 rfl) .nil) (.cons (.any _) (.cons (.any _) (.cons (.any _) .nil))) (Exp.of (congrArg D.bool (by first | rfl | contradiction | (exfalso; omega) | (simp_all; done) | (exfalso; simp_all; omega))) (.d _)) rfl rfl
  | false =>
   replace h2 := of_decide_eq_false h2
   refine Ch.skip rfl rfl (Ch.skip rfl rfl (Ch.skip rfl rfl (Ch.s (.d (.bool true)) (.pure (.pickT _ _ _ rfl rfl rfl)) (Ch.nil ?_))))
   refine T_cond (b := true) rfl (fun _ => ?_) (fun h => nomatch h)
   refine T_seq (T_region hc (Ch.s (.d (.bool false)) pa (Ch.nil (T_ret ?_))))
   exact endR [(.d (.bool false))] [] [] (.cons (.tmp 6 rfl) .nil) (.cons (.any _) (.cons (.any _) (.cons (.any _) .nil))) (Exp.of (congrArg D.bool (by first | rfl | contradiction | (exfalso; omega) | (simp_all; done) | (exfalso; simp_all; omega))) (.d _)) rfl rfl

end Go.AM
