/-
  The contracts that the law FnExactGeneralizedCCircuit needs.
-/
import Derived.Test.YtnmlcebejnlikaaGreatZGeneralizedCCircuit3
namespace Go.AM
open Go.Proofs
set_option linter.unusedVariables false
set_option linter.unusedSimpArgs false

theorem sp_impl_diagnosis (x : Sgr) (hb : x.bulk ≤ 1048576) (hx : SgOk x) : Sp Tryz.prog 258 [(.agg [(.slice false 2 (x.sigs.map Sgn.d)), (.slice false 1 (x.codes.map D.str)), (.slice false 4 (x.arcs.map Arc.d))])] [.any] (.str (whyW x)) := by
 refine Sp_intro (lend := true) Tryz.func258 rfl rfl rfl (fun _ => rfl) (fun c hc hX => ?_)
 obtain ⟨hp0, hp1, hp2⟩ := Sgr.parts hb
 have hn0 := bulkF_len hp0
 have hn1 := bulk_len hp1
 have hx1 := bulk_mem hp1
 have hn2 := bulkF_len hp2; have hx8 := hx.eight; have hxl := hx.len; have hxf := hx.few; have hen := hx.ends
 refine Ts hc (Ch.s (.ptr 1000 0) (.box 1000 _ _ rfl (.aggD _)) (Ch.s (dS []) pa (Ch.nil (Tq (Tb (Tq ?_))))))
 refine Tz hc (Ch.s (.ptr 1000 2) (fP fld35_2 rfl) (Ch.s (.d (.slice false 4 (x.arcs.map Arc.d))) (lP ag33 rfl rfl rfl) (Ch.s (dB (x.arcs.any (fun a => decide (a.sig = -1)))) (.call 6000 207 _ _ _ en207 rfl (.inl rfl) (.cons (.d _) (.cons (.lend (.fn .nil)) .nil)) rfl rfl (sp_ContainsFunc_arc x.arcs 281 [] (fun a => decide (a.sig = -1)) en281 (fun a ha => sp_impl_diagnosis_1 a) a26) (.skip _ _ (.skip _ _ .nil)) rfl) (Ch.s (dB (x.arcs.any (fun a => decide (a.sig = -1)))) pa (Ch.nil ?_)))))
 refine T_cond (b := (x.arcs.any (fun a => decide (a.sig = -1)))) rfl (fun h1 => ?_) (fun h1 => ?_)
 ·
  refine Ts hc (Ch.s (dS [104, 105, 100, 100, 101, 110]) pa (Ch.nil (T_ret ?_)))
  exact eR [(dS [104, 105, 100, 100, 101, 110])] [] [] (.cons (.tmp 2 rfl) .nil) eA (Exp.of (congrArg D.str a57) (.d _))
 ·
  refine Ts hc (Ch.s (.agg (vX x)) (lA ag35 sz35 rfl rfl (lb rfl) rfl) ?_)
  refine Ch.step (v := (.row 9000)) rfl (.call 9000 282 _ _ _ en282 rfl (.inl rfl) (.cons lX .nil) rfl (sol (solid_row intsU_sol _) rfl) (sp_impl_twoWays x a46 (by assumption)) (.skip _ _ .nil) rfl) rfl rfl ?_
  refine Ch.s (dI ((twL x).length : Int)) (.pure (.len _ _ 55 rfl Tryz.underlying49 (.row rfl) (by simp))) (Ch.s (dB (decide (0 < ((twL x).length : Int)))) (iX rfl rfl rfl) (Ch.s (dB (decide (0 < ((twL x).length : Int)))) pa (Ch.nil ?_)))
  refine T_condD (p := (0 < ((twL x).length : Int))) rfl (fun h2 => ?_) (fun h2 => ?_)
  ·
   refine Ts hc (Ch.s (dS [116, 119, 111, 32, 119, 97, 121, 115]) pa (Ch.nil (T_ret ?_)))
   exact eR [(dS [116, 119, 111, 32, 119, 97, 121, 115])] [] [] (.cons (.tmp 2 rfl) .nil) eA (Exp.of (congrArg D.str a57) (.d _))
  ·
   refine Ts hc (Ch.s (.agg (vX x)) (lA ag35 sz35 rfl rfl (lb rfl) rfl) ?_)
   refine Ch.step (v := (.row 14000)) rfl (.call 14000 283 _ _ _ en283 rfl (.inl rfl) (.cons lX .nil) rfl (sol (solid_row (fun _ => rfl) _) rfl) (sp_impl_violations x a46 (by assumption)) (.skip _ _ .nil) rfl) rfl rfl ?_
   refine Ch.s (dI ((pvL x).length : Int)) (.pure (.len _ _ 216 rfl Tryz.underlying175 (.row rfl) (by simp))) (Ch.s (dB (decide (0 < ((pvL x).length : Int)))) (iX rfl rfl rfl) (Ch.s (dB (decide (0 < ((pvL x).length : Int)))) pa (Ch.nil ?_)))
   refine T_condD (p := (0 < ((pvL x).length : Int))) rfl (fun h3 => ?_) (fun h3 => ?_)
   ·
    refine Ts hc (Ch.s (dS [98, 114, 101, 97, 107]) pa (Ch.nil (T_ret ?_)))
    exact eR [(dS [98, 114, 101, 97, 107])] [] [] (.cons (.tmp 2 rfl) .nil) eA (Exp.of (congrArg D.str a57) (.d _))
   ·
    refine Ts hc (Ch.s (.agg (vX x)) (lA ag35 sz35 rfl rfl (lb rfl) rfl) ?_)
    refine Ch.step (v := (.row 19000)) rfl (.call 19000 284 _ _ _ en284 rfl (.inl rfl) (.cons lX .nil) rfl (sol (solid_row intsU_sol _) rfl) (sp_impl_conflicts x a46 (by assumption)) (.skip _ _ .nil) rfl) rfl rfl ?_
    refine Ch.s (dI ((cfL x).length : Int)) (.pure (.len _ _ 55 rfl Tryz.underlying49 (.row rfl) (by simp))) (Ch.s (dB (decide (0 < ((cfL x).length : Int)))) (iX rfl rfl rfl) (Ch.s (dB (decide (0 < ((cfL x).length : Int)))) pa (Ch.nil ?_)))
    refine T_condD (p := (0 < ((cfL x).length : Int))) rfl (fun h4 => ?_) (fun h4 => ?_)
    ·
     refine Ts hc (Ch.s (dS [99, 111, 110, 102, 108, 105, 99, 116]) pa (Ch.nil (T_ret ?_)))
     exact eR [(dS [99, 111, 110, 102, 108, 105, 99, 116])] [] [] (.cons (.tmp 2 rfl) .nil) eA (Exp.of (congrArg D.str a57) (.d _))
    ·
     refine Tk (Ts hc (Ch.s (dS [109, 97, 100, 101]) pa (Ch.nil (T_ret ?_))))
     exact eR [(dS [109, 97, 100, 101])] [] [] (.cons (.tmp 2 rfl) .nil) eA (Exp.of (congrArg D.str a57) (.d _))

theorem sp_spec_l6Why (x : Sgr) (hb : x.bulk ≤ 1048576) (hx : SgOk x) : Sp Tryz.prog 94 [(.agg [(.slice false 2 (x.sigs.map Sgn.d)), (.slice false 1 (x.codes.map D.str)), (.slice false 4 (x.arcs.map Arc.d))])] [.any] (.str (whyW x)) := by
 refine Sp_intro (lend := true) Tryz.func94 rfl rfl rfl (fun _ => rfl) (fun c hc hX => ?_)
 obtain ⟨hp0, hp1, hp2⟩ := Sgr.parts hb
 have hn0 := bulkF_len hp0
 have hn1 := bulk_len hp1
 have hx1 := bulk_mem hp1
 have hn2 := bulkF_len hp2; have hx8 := hx.eight; have hxl := hx.len; have hxf := hx.few; have hen := hx.ends
 refine Ts hc (Ch.s (.ptr 1000 0) (.box 1000 _ _ rfl (.aggD _)) (Ch.s (dS []) pa (Ch.nil (Tq (Tb (Tq ?_))))))
 refine Tz hc (Ch.s (.agg (vX x)) (lA ag35 sz35 rfl rfl (lb rfl) rfl) (Ch.s (dB (hidB x)) (.call 5000 166 _ _ _ en166 rfl (.inl rfl) (.cons lX .nil) rfl rfl (sp_spec_l6Hidden x a46 (by assumption)) (.skip _ _ .nil) rfl) (Ch.s (dB (hidB x)) pa (Ch.nil ?_))))
 refine T_cond (b := (hidB x)) rfl (fun h1 => ?_) (fun h1 => ?_)
 ·
  refine Ts hc (Ch.s (dS [104, 105, 100, 100, 101, 110]) pa (Ch.nil (T_ret ?_)))
  exact eR [(dS [104, 105, 100, 100, 101, 110])] [] [] (.cons (.tmp 2 rfl) .nil) eA (Exp.of (congrArg D.str a57) (.d _))
 ·
  refine Ts hc (Ch.s (.agg (vX x)) (lA ag35 sz35 rfl rfl (lb rfl) rfl) ?_)
  refine Ch.step (v := (.row 8000)) rfl (.call 8000 167 _ _ _ en167 rfl (.inl rfl) (.cons lX .nil) rfl (sol (solid_row intsU_sol _) rfl) (sp_spec_l6Ways x a46 (by assumption)) (.skip _ _ .nil) rfl) rfl rfl ?_
  refine Ch.s (dI ((twL x).length : Int)) (.pure (.len _ _ 55 rfl Tryz.underlying49 (.row rfl) (by simp))) (Ch.s (dB (decide (0 < ((twL x).length : Int)))) (iX rfl rfl rfl) (Ch.s (dB (decide (0 < ((twL x).length : Int)))) pa (Ch.nil ?_)))
  refine T_condD (p := (0 < ((twL x).length : Int))) rfl (fun h2 => ?_) (fun h2 => ?_)
  ·
   refine Ts hc (Ch.s (dS [116, 119, 111, 32, 119, 97, 121, 115]) pa (Ch.nil (T_ret ?_)))
   exact eR [(dS [116, 119, 111, 32, 119, 97, 121, 115])] [] [] (.cons (.tmp 2 rfl) .nil) eA (Exp.of (congrArg D.str a57) (.d _))
  ·
   refine Ts hc (Ch.s (.agg (vX x)) (lA ag35 sz35 rfl rfl (lb rfl) rfl) ?_)
   refine Ch.step (v := (.row 13000)) rfl (.call 13000 168 _ _ _ en168 rfl (.inl rfl) (.cons lX .nil) rfl (sol (solid_row (fun _ => rfl) _) rfl) (sp_spec_l6Breaks x a46 (by assumption)) (.skip _ _ .nil) rfl) rfl rfl ?_
   refine Ch.s (dI ((pvL x).length : Int)) (.pure (.len _ _ 216 rfl Tryz.underlying175 (.row rfl) (by simp))) (Ch.s (dB (decide (0 < ((pvL x).length : Int)))) (iX rfl rfl rfl) (Ch.s (dB (decide (0 < ((pvL x).length : Int)))) pa (Ch.nil ?_)))
   refine T_condD (p := (0 < ((pvL x).length : Int))) rfl (fun h3 => ?_) (fun h3 => ?_)
   ·
    refine Ts hc (Ch.s (dS [98, 114, 101, 97, 107]) pa (Ch.nil (T_ret ?_)))
    exact eR [(dS [98, 114, 101, 97, 107])] [] [] (.cons (.tmp 2 rfl) .nil) eA (Exp.of (congrArg D.str a57) (.d _))
   ·
    refine Ts hc (Ch.s (.agg (vX x)) (lA ag35 sz35 rfl rfl (lb rfl) rfl) ?_)
    refine Ch.step (v := (.row 18000)) rfl (.call 18000 169 _ _ _ en169 rfl (.inl rfl) (.cons lX .nil) rfl (sol (solid_row intsU_sol _) rfl) (sp_spec_l6Conflicts x a46 (by assumption)) (.skip _ _ .nil) rfl) rfl rfl ?_
    refine Ch.s (dI ((cfL x).length : Int)) (.pure (.len _ _ 55 rfl Tryz.underlying49 (.row rfl) (by simp))) (Ch.s (dB (decide (0 < ((cfL x).length : Int)))) (iX rfl rfl rfl) (Ch.s (dB (decide (0 < ((cfL x).length : Int)))) pa (Ch.nil ?_)))
    refine T_condD (p := (0 < ((cfL x).length : Int))) rfl (fun h4 => ?_) (fun h4 => ?_)
    ·
     refine Ts hc (Ch.s (dS [99, 111, 110, 102, 108, 105, 99, 116]) pa (Ch.nil (T_ret ?_)))
     exact eR [(dS [99, 111, 110, 102, 108, 105, 99, 116])] [] [] (.cons (.tmp 2 rfl) .nil) eA (Exp.of (congrArg D.str a57) (.d _))
    ·
     refine Tk (Ts hc (Ch.s (dS [109, 97, 100, 101]) pa (Ch.nil (T_ret ?_))))
     exact eR [(dS [109, 97, 100, 101])] [] [] (.cons (.tmp 2 rfl) .nil) eA (Exp.of (congrArg D.str a57) (.d _))

def whyV (x : Sgr) : List UInt8 := if sgB x then whyW x else []

theorem whyV_made (x : Sgr) : decide (whyV x = [109, 97, 100, 101]) = madeB x := by
  unfold whyV madeB
  cases sgB x
  · rfl
  · rw [if_pos rfl, Bool.true_and]

theorem made_no0 {x : Sgr} (h : sgB x = false) : madeB x = false := by rw [madeB, h]; rfl

theorem made_no1 {x : Sgr} (h : ¬ whyW x = [109, 97, 100, 101]) : madeB x = false := by rw [madeB, decide_eq_false h, Bool.and_false]

theorem made_sg {x : Sgr} (h : madeB x = true) : sgB x = true := by
 unfold madeB at h; rw [Bool.and_eq_true] at h; exact h.1

theorem sp_impl_Diagnose (x : Sgr) (hb : x.bulk ≤ 1048576) : Sp Tryz.prog 222 [(.agg [(.slice false 2 (x.sigs.map Sgn.d)), (.slice false 1 (x.codes.map D.str)), (.slice false 4 (x.arcs.map Arc.d))])] [.any] (.tup [(.str (whyV x)), (.bool (sgB x))]) := by
 refine Sp_intro (lend := true) Tryz.func222 rfl rfl rfl (fun _ => rfl) (fun c hc hX => ?_)
 obtain ⟨hp0, hp1, hp2⟩ := Sgr.parts hb
 have hn0 := bulkF_len hp0
 have hn1 := bulk_len hp1
 have hx1 := bulk_mem hp1
 have hn2 := bulkF_len hp2
 refine Ts hc (Ch.s (.ptr 1000 0) (.box 1000 _ _ rfl (.aggD _)) (Ch.s (dS []) pa (Ch.s (dB false) pa (Ch.nil (Tq (Tq ?_))))))
 refine Tz hc (Ch.s (.agg (vX x)) (lA ag35 sz35 rfl rfl (lb rfl) rfl) (Ch.s (dB (sgB x)) (.call 5000 120 _ _ _ en120 rfl (.inl rfl) (.cons lX .nil) rfl rfl (sp_impl_IsValidStateGraph x a46) (.skip _ _ .nil) rfl) (Ch.s (dB (!(sgB x))) (nT rfl) (Ch.nil ?_))))
 refine T_condN (b := (sgB x)) rfl (fun h1 => ?_) (fun h1 => ?_)
 ·
  try have hx := sg_has h1
  refine Ts hc (Ch.s (dS []) pa (Ch.s (dB false) pa (Ch.nil (T_ret ?_))))
  exact eR [(dS []), (dB false)] [] [] (.cons (.tmp 2 rfl) (.cons (.tmp 3 rfl) .nil)) eA (.tup (.cons (Exp.of (congrArg D.str a128) (.d _)) (.cons (Exp.of (congrArg D.bool a128) (.d _)) .nil)))
 ·
  try have hx := sg_has h1
  refine Tk (Ts hc (Ch.s (.agg (vX x)) (lA ag35 sz35 rfl rfl (lb rfl) rfl) (Ch.s (dS (whyW x)) (.call 8000 258 _ _ _ en258 rfl (.inl rfl) (.cons lX .nil) rfl rfl (sp_impl_diagnosis x a46 (by assumption)) (.skip _ _ .nil) rfl) (Ch.s (dS (whyW x)) pa (Ch.s (dB true) pa (Ch.nil ?_))))))
  refine T_ret ?_
  exact eR [(dS (whyW x)), (dB true)] [] [] (.cons (.tmp 2 rfl) (.cons (.tmp 3 rfl) .nil)) eA (.tup (.cons (Exp.of (congrArg D.str a128) (.d _)) (.cons (Exp.of (congrArg D.bool a128) (.d _)) .nil)))

theorem sp_impl_IsImplementable (x : Sgr) (hb : x.bulk ≤ 1048576) : Sp Tryz.prog 171 [(.agg [(.slice false 2 (x.sigs.map Sgn.d)), (.slice false 1 (x.codes.map D.str)), (.slice false 4 (x.arcs.map Arc.d))])] [.any] (.tup [(.bool (madeB x)), (.bool (sgB x))]) := by
 refine Sp_intro (lend := true) Tryz.func171 rfl rfl rfl (fun _ => rfl) (fun c hc hX => ?_)
 obtain ⟨hp0, hp1, hp2⟩ := Sgr.parts hb
 have hn0 := bulkF_len hp0
 have hn1 := bulk_len hp1
 have hx1 := bulk_mem hp1
 have hn2 := bulkF_len hp2
 refine Ts hc (Ch.s (.ptr 1000 0) (.box 1000 _ _ rfl (.aggD _)) (Ch.s (dB false) pa (Ch.s (dB false) pa (Ch.nil (Tq (Tz hc ?_))))))
 refine Ch.s (.agg (vX x)) (lA ag35 sz35 rfl rfl (lb rfl) rfl) (Ch.s (.tup [(dS (whyV x)), (dB (sgB x))]) (.call 8000 222 _ _ _ en222 rfl (.inl rfl) (.cons lX .nil) rfl rfl (sp_impl_Diagnose x a46) (.skip _ _ .nil) rfl) (Ch.s (.tup [(dS (whyV x)), (dB (sgB x))]) pm (Ch.s (dS (whyV x)) (xT rfl rfl) (Ch.s (dB (sgB x)) (xT rfl rfl) (Ch.s (dS (whyV x)) pa (Ch.s (dB (sgB x)) pa (Ch.nil ?_)))))))
 refine Ts hc (Ch.s (dS (whyV x)) pm (Ch.s (dB (decide ((whyV x) = [109, 97, 100, 101]))) (.pure (.str _ _ _ _ _ rfl rfl rfl rfl)) (Ch.s (dB (sgB x)) pm (Ch.s (dB (decide ((whyV x) = [109, 97, 100, 101]))) pa (Ch.s (dB (sgB x)) pa (Ch.nil ?_))))))
 refine T_ret ?_
 exact eR [(dB (decide ((whyV x) = [109, 97, 100, 101]))), (dB (sgB x))] [] [] (.cons (.tmp 2 rfl) (.cons (.tmp 3 rfl) .nil)) eA (.tup (.cons (Exp.of (congrArg D.bool (by first | rfl | (rw [whyV_made]; done) | (exact whyV_made x))) (.d _)) (.cons (.d _) .nil)))

theorem en94 : Enters Tryz.prog 94 := ⟨_, Tryz.func94, by kernel_rfl, rfl⟩

theorem en78 : Enters Tryz.prog 78 := ⟨_, Tryz.func78, by kernel_rfl, rfl⟩

def addQ (x : Sgr) (sig : Int) (o : List Int) (k : Int) : List Int := if !excB x k sig && !hasI o k then o ++ [k] else o

def q1 (x : Sgr) (sig c : Int) (o : List Int) (a : Arc) : List Int := if decide (a.src = c) then addQ x sig o a.dst else o

theorem en202 : Enters Tryz.prog 202 := ⟨_, Tryz.func202, by kernel_rfl, rfl⟩

theorem en200 : Enters Tryz.prog 200 := ⟨_, Tryz.func200, by kernel_rfl, rfl⟩

theorem en279 : Enters Tryz.prog 279 := ⟨_, Tryz.func279, by kernel_rfl, rfl⟩

theorem en285 : Enters Tryz.prog 285 := ⟨_, Tryz.func285, by kernel_rfl, rfl⟩

theorem fld183_1 : FieldIs Tryz.prog 183 1 1 1 false := FieldIs.mk Tryz.underlying183 rfl rfl sz23 ag23 rfl

theorem fld183_2 : FieldIs Tryz.prog 183 2 2 1 false := FieldIs.mk Tryz.underlying183 rfl rfl sz4 ag4 rfl

theorem en260 : Enters Tryz.prog 260 := ⟨_, Tryz.func260, by kernel_rfl, rfl⟩

theorem en227 : Enters Tryz.prog 227 := ⟨_, Tryz.func227, by kernel_rfl, rfl⟩

theorem en228 : Enters Tryz.prog 228 := ⟨_, Tryz.func228, by kernel_rfl, rfl⟩

theorem fld183_0 : FieldIs Tryz.prog 183 0 0 1 false := FieldIs.mk Tryz.underlying183 rfl rfl sz23 ag23 rfl

theorem en229 : Enters Tryz.prog 229 := ⟨_, Tryz.func229, by kernel_rfl, rfl⟩

theorem en176 : Enters Tryz.prog 176 := ⟨_, Tryz.func176, by kernel_rfl, rfl⟩

theorem en175 : Enters Tryz.prog 175 := ⟨_, Tryz.func175, by kernel_rfl, rfl⟩

theorem stru183 : StructIs Tryz.prog 183 [.slice none 0 0, .slice none 0 0, .bool false] [(0, 1), (1, 1), (2, 1)] := structIs_mk (by kernel_rfl) Tryz.underlying183 (by kernel_rfl)

theorem fld207_2 : FieldIs Tryz.prog 207 2 2 1 false := FieldIs.mk Tryz.underlying207 rfl rfl sz23 ag23 rfl

theorem fld207_3 : FieldIs Tryz.prog 207 3 3 1 false := FieldIs.mk Tryz.underlying207 rfl rfl sz4 ag4 rfl

theorem fld207_1 : FieldIs Tryz.prog 207 1 1 1 false := FieldIs.mk Tryz.underlying207 rfl rfl sz23 ag23 rfl

theorem en254 : Enters Tryz.prog 254 := ⟨_, Tryz.func254, by kernel_rfl, rfl⟩

theorem fld207_0 : FieldIs Tryz.prog 207 0 0 1 false := FieldIs.mk Tryz.underlying207 rfl rfl sz23 ag23 rfl

theorem en211 : Enters Tryz.prog 211 := ⟨_, Tryz.func211, by kernel_rfl, rfl⟩

theorem en255 : Enters Tryz.prog 255 := ⟨_, Tryz.func255, by kernel_rfl, rfl⟩

theorem stru207 : StructIs Tryz.prog 207 [.slice none 0 0, .slice none 0 0, .slice none 0 0, .bool false] [(0, 1), (1, 1), (2, 1), (3, 1)] := structIs_mk (by kernel_rfl) Tryz.underlying207 (by kernel_rfl)

theorem en104 : Enters Tryz.prog 104 := ⟨_, Tryz.func104, by kernel_rfl, rfl⟩

theorem en150 : Enters Tryz.prog 150 := ⟨_, Tryz.func150, by kernel_rfl, rfl⟩

theorem en151 : Enters Tryz.prog 151 := ⟨_, Tryz.func151, by kernel_rfl, rfl⟩

def unc (on l : List (List UInt8)) : List (List UInt8) := on.filter fun c => !inB l c

def lexB : List (List UInt8) → List (List UInt8) → Bool
 | a :: l, b :: m => if a = b then lexB l m else Op.bytesLess a b
 | _, _ => false

def cmpS (a b : (List UInt8)) : Int := if Op.bytesLess a b then -1 else if Op.bytesLess b a then 1 else 0

def cmpL : List (List UInt8) → List (List UInt8) → Int
 | [], [] => 0
 | [], _ :: _ => -1
 | _ :: _, [] => 1
 | a :: l, b :: m => if cmpS a b = 0 then cmpL l m else cmpS a b

theorem cmpS_zero {a b : (List UInt8)} : cmpS a b = 0 ↔ a = b := by
  unfold cmpS
  constructor
  · intro h
    by_cases h1 : Op.bytesLess a b = true
    · rw [if_pos h1] at h; omega
    · rw [if_neg h1] at h
      by_cases h2 : Op.bytesLess b a = true
      · rw [if_pos h2] at h; omega
      · exact bl_tri h1 h2
  · rintro rfl
    rw [bl_irr]; rfl

theorem cmpS_neg {a b : (List UInt8)} : cmpS a b < 0 ↔ Op.bytesLess a b = true := by
  unfold cmpS
  by_cases h1 : Op.bytesLess a b = true
  · rw [if_pos h1]; exact ⟨fun _ => h1, fun _ => by omega⟩
  · rw [if_neg h1]
    refine ⟨fun h => ?_, fun h => absurd h h1⟩
    split at h <;> omega

theorem cmp_lex : ∀ {l m : List (List UInt8)}, l.length = m.length → decide (cmpL l m < 0) = lexB l m
  | [], [], _ => rfl
  | [], _ :: _, h => by simp at h
  | _ :: _, [], h => by simp at h
  | a :: l, b :: m, h => by
    rw [cmpL, lexB]
    by_cases e : a = b
    · rw [if_pos e, if_pos (cmpS_zero.2 e), cmp_lex (by simpa using h)]
    · rw [if_neg e, if_neg (fun q => e (cmpS_zero.1 q))]
      rw [Bool.eq_iff_iff, decide_eq_true_iff, cmpS_neg]

def betB (l : List (List UInt8)) (p : List (List UInt8) × Bool) : Bool := !p.2 || (decide (lits l < lits p.1) || (decide (lits l = lits p.1) && lexB l p.1))

def betI (l : List (List UInt8)) (p : List (List UInt8) × Bool) : Bool := !p.2 || (decide (lits l < lits p.1) || (decide (lits l = lits p.1) && decide (cmpL l p.1 < 0)))

def endS (t : List (List UInt8)) (p : List (List UInt8) × Bool) : List (List UInt8) × Bool := if betB t p then (t, true) else p

def srF (pr on : List (List UInt8)) : Nat → List (List UInt8) → List (List UInt8) × Bool → List (List UInt8) × Bool
 | 0, t, p => if unc on t = [] then endS t p else p
 | m + 1, t, p => if unc on t = [] then endS t p else pr.foldl (fun p q => if hasB q ((unc on t).getD 0 default) then srF pr on m (put14 t q) p else p) p

def srTo (pr on : List (List UInt8)) (m : Nat) (t : List (List UInt8)) (p : List (List UInt8) × Bool) (k : Nat) : List (List UInt8) × Bool := (pr.take k).foldl (fun p q => if hasB q ((unc on t).getD 0 default) then srF pr on m (put14 t q) p else p) p

def endI (l : List (List UInt8)) (m : Nat) (p : List (List UInt8) × Bool) : List (List UInt8) × Bool := if decide ((Lib.compact (l.mergeSort leS)).length = l.length) && (decide (m = 0) && betI (l.mergeSort leS) p) then (l.mergeSort leS, true) else p

def chF (pr : List (List UInt8)) : Nat → List (List UInt8) → List (List UInt8) → List (List UInt8) × Bool → List (List UInt8) × Bool
 | 0, on, l, p => if on = [] then endI l 0 p else p
 | m + 1, on, l, p => if on = [] then endI l (m + 1) p else pr.foldl (fun p q => if hasB q (on.getD 0 default) then chF pr m (on.filter fun c => !hasB q c) (l ++ [q]) p else p) p

def chTo (pr : List (List UInt8)) (m : Nat) (on l : List (List UInt8)) (p : List (List UInt8) × Bool) (k : Nat) : List (List UInt8) × Bool := (pr.take k).foldl (fun p q => if hasB q (on.getD 0 default) then chF pr m (on.filter fun c => !hasB q c) (l ++ [q]) p else p) p

theorem chTo_succ {pr : List (List UInt8)} {m : Nat} {on l : List (List UInt8)} {p : List (List UInt8) × Bool} {k : Nat} (h : k < pr.length) : chTo pr m on l p (k + 1) = if hasB (pr.getD k default) (on.getD 0 default) then chF pr m (on.filter fun c => !hasB (pr.getD k default) c) (l ++ [pr.getD k default]) (chTo pr m on l p k) else chTo pr m on l p k := by
 have hg : pr.getD k default = pr[k] := by simp [h]
 unfold chTo
 rw [List.take_succ_eq_append_getElem h, List.foldl_append, hg]; rfl

theorem srTo_succ {pr on : List (List UInt8)} {m : Nat} {t : List (List UInt8)} {p : List (List UInt8) × Bool} {k : Nat} (h : k < pr.length) : srTo pr on m t p (k + 1) = if hasB (pr.getD k default) ((unc on t).getD 0 default) then srF pr on m (put14 t (pr.getD k default)) (srTo pr on m t p k) else srTo pr on m t p k := by
 have hg : pr.getD k default = pr[k] := by simp [h]
 unfold srTo
 rw [List.take_succ_eq_append_getElem h, List.foldl_append, hg]; rfl

theorem chF_next {pr : List (List UInt8)} {m : Nat} {on l : List (List UInt8)} {p : List (List UInt8) × Bool} {k : Nat} (h : ¬ on.length = 0) (hk : pr.length ≤ k) : chF pr (m + 1) on l p = chTo pr m on l p k := by
 rw [chF, if_neg (fun e => h (by rw [e]; rfl)), chTo, List.take_of_length_le hk]

theorem srF_next {pr on : List (List UInt8)} {m : Nat} {t : List (List UInt8)} {p : List (List UInt8) × Bool} {k : Nat} (h : ¬ unc on t = []) (hk : pr.length ≤ k) : srF pr on (m + 1) t p = srTo pr on m t p k := by
 rw [srF, if_neg h, srTo, List.take_of_length_le hk]

theorem chF_end {pr : List (List UInt8)} {on l : List (List UInt8)} {p : List (List UInt8) × Bool} (m : Nat) (h : on.length = 0) : chF pr m on l p = endI l m p := by
  have e : on = [] := List.eq_nil_of_length_eq_zero h
  cases m <;> rw [chF, if_pos e]

theorem chF_zero {pr : List (List UInt8)} {on l : List (List UInt8)} {p : List (List UInt8) × Bool} (h : ¬ on.length = 0) : chF pr 0 on l p = p := by
 rw [chF, if_neg (fun e => h (by rw [e]; rfl))]

theorem srF_end {pr on : List (List UInt8)} {t : List (List UInt8)} {p : List (List UInt8) × Bool} (m : Nat) (h : unc on t = []) : srF pr on m t p = endS t p := by cases m <;> rw [srF, if_pos h]

theorem srF_zero {pr on : List (List UInt8)} {t : List (List UInt8)} {p : List (List UInt8) × Bool} (h : ¬ unc on t = []) : srF pr on 0 t p = p := by rw [srF, if_neg h]
-- what the best is, all along

structure POk (n N : Nat) (p : List (List UInt8) × Bool) : Prop where
 len : p.1.length ≤ N
 all : ∀ q ∈ p.1, q.length = n

theorem fold_ok {τ : Type} {Q : τ → Prop} {f : τ → (List UInt8) → τ} : ∀ {l : List (List UInt8)} {p : τ}, Q p → (∀ p q, q ∈ l → Q p → Q (f p q)) → Q (l.foldl f p)
 | [], _, h, _ => h
 | a :: l, p, h, hf => by
  rw [List.foldl_cons]
  exact fold_ok (hf p a List.mem_cons_self h) (fun p q hq => hf p q (List.mem_cons_of_mem _ hq))

theorem chF_ok {pr : List (List UInt8)} {n N : Nat} (hpr : ∀ q ∈ pr, q.length = n) : ∀ (m : Nat) (on l : List (List UInt8)) (p : List (List UInt8) × Bool), l.length + m ≤ N → (∀ q ∈ l, q.length = n) → POk n N p → POk n N (chF pr m on l p) := by
  have hend : ∀ (m : Nat) (l : List (List UInt8)) (p : List (List UInt8) × Bool), l.length + m ≤ N → (∀ q ∈ l, q.length = n) → POk n N p → POk n N (endI l m p) := by
    intro m l p h1 h2 h3
    unfold endI
    split
    · exact ⟨by rw [List.length_mergeSort]; omega, fun q hq => h2 q (List.mem_mergeSort.1 hq)⟩
    · exact h3
  intro m
  induction m with
  | zero =>
    intro on l p h1 h2 h3
    rw [chF]
    split
    · exact hend _ _ _ h1 h2 h3
    · exact h3
  | succ m ih =>
    intro on l p h1 h2 h3
    rw [chF]
    split
    · exact hend _ _ _ h1 h2 h3
    · refine fold_ok (Q := POk n N) h3 fun p q hq hp => ?_
      try dsimp only
      split
      · refine ih _ _ _ a125 (fun a ha => ?_) hp
        rcases List.mem_append.1 ha with ha | ha
        · exact h2 a ha
        · rw [List.mem_singleton] at ha; rw [ha]; exact hpr q hq
      · exact hp

theorem chTo_ok {pr : List (List UInt8)} {n N : Nat} (hpr : ∀ q ∈ pr, q.length = n) {m : Nat} {on l : List (List UInt8)} {p : List (List UInt8) × Bool} (h1 : l.length + (m + 1) ≤ N) (h2 : ∀ q ∈ l, q.length = n) (h3 : POk n N p) : ∀ k, k ≤ pr.length → POk n N (chTo pr m on l p k)
  | 0, _ => h3
  | k + 1, hk => by
    have ih := chTo_ok hpr (on := on) h1 h2 h3 k (by omega)
    rw [chTo_succ (by omega)]
    split
    · refine chF_ok hpr _ _ _ _ a125 (fun a ha => ?_) ih
      rcases List.mem_append.1 ha with ha | ha
      · exact h2 a ha
      · rw [List.mem_singleton] at ha; rw [ha]; exact hpr _ (getD_mem (by omega))
    · exact ih
-- completeness, and how deep it is met

def hitP (pr on : List (List UInt8)) : Nat → List (List UInt8) → Prop
 | 0, t => unc on t = []
 | m + 1, t => unc on t = [] ∨ ∃ q ∈ pr, hasB q ((unc on t).getD 0 default) = true ∧ hitP pr on m (put14 t q)

def noShort (pr on : List (List UInt8)) : Nat → List (List UInt8) → Prop
 | 0, _ => True
 | m + 1, t => ¬ hitP pr on m t

theorem ns_not {pr on : List (List UInt8)} {m : Nat} {t : List (List UInt8)} (h : noShort pr on (m + 1) t) : ¬ unc on t = [] := by
 cases m with
 | zero => exact h
 | succ m => exact fun e => h (.inl e)

theorem ns_step {pr on : List (List UInt8)} {m : Nat} {t : List (List UInt8)} {q : (List UInt8)} (h : noShort pr on (m + 1) t) (hq : q ∈ pr) (hb : hasB q ((unc on t).getD 0 default) = true) : noShort pr on m (put14 t q) := by
 cases m with
 | zero => trivial
 | succ m => exact fun e => h (.inr ⟨q, hq, hb, e⟩)

theorem endS_met {t : List (List UInt8)} {p : List (List UInt8) × Bool} : (endS t p).2 = true := by
  unfold endS
  split
  · rfl
  · rename_i h
    unfold betB at h
    cases hp : p.2
    · rw [hp] at h; exact absurd rfl h
    · rfl

theorem srF_met {pr on : List (List UInt8)} : ∀ (m : Nat) (t : List (List UInt8)) (p : List (List UInt8) × Bool), (srF pr on m t p).2 = true ↔ p.2 = true ∨ hitP pr on m t
  | 0, t, p => by
    rw [srF, hitP]
    split
    · rename_i h; exact ⟨fun _ => .inr h, fun _ => endS_met⟩
    · rename_i h; exact ⟨.inl, fun q => q.elim id fun e => absurd e h⟩
  | m + 1, t, p => by
    rw [srF, hitP]
    split
    · rename_i h; exact ⟨fun _ => .inr (.inl h), fun _ => endS_met⟩
    · rename_i h
      have key : ∀ (l : List (List UInt8)) (p : List (List UInt8) × Bool), (l.foldl (fun p q => if hasB q ((unc on t).getD 0 default) then srF pr on m (put14 t q) p else p) p).2 = true ↔ p.2 = true ∨ ∃ q ∈ l, hasB q ((unc on t).getD 0 default) = true ∧ hitP pr on m (put14 t q) := by
        intro l
        induction l with
        | nil => intro p; simp
        | cons a l ih =>
          intro p
          rw [List.foldl_cons, ih]
          by_cases hb : hasB a ((unc on t).getD 0 default) = true
          · rw [if_pos hb, srF_met m]
            constructor
            · rintro ((h1 | h1) | ⟨q, hq, h2⟩)
              · exact .inl h1
              · exact .inr ⟨a, List.mem_cons_self, hb, h1⟩
              · exact .inr ⟨q, List.mem_cons_of_mem _ hq, h2⟩
            · rintro (h1 | ⟨q, hq, h2⟩)
              · exact .inl (.inl h1)
              · rcases List.mem_cons.1 hq with rfl | hq
                · exact .inl (.inr h2.2)
                · exact .inr ⟨q, hq, h2⟩
          · rw [if_neg hb]
            constructor
            · rintro (h1 | ⟨q, hq, h2⟩)
              · exact .inl h1
              · exact .inr ⟨q, List.mem_cons_of_mem _ hq, h2⟩
            · rintro (h1 | ⟨q, hq, h2⟩)
              · exact .inl h1
              · rcases List.mem_cons.1 hq with rfl | hq
                · exact absurd h2.1 hb
                · exact .inr ⟨q, hq, h2⟩
      rw [key]
      exact ⟨fun q => q.imp id .inr, fun q => q.imp id fun e => e.resolve_left h⟩

structure BOk (N : Nat) (p : List (List UInt8) × Bool) : Prop where
 len : p.2 = true → p.1.length = N

theorem srF_bok {pr on : List (List UInt8)} {N : Nat} : ∀ (m : Nat) (t : List (List UInt8)) (p : List (List UInt8) × Bool), t.length + m = N → noShort pr on m t → BOk N p → BOk N (srF pr on m t p)
  | 0, t, p, h1, _, h3 => by
    rw [srF]
    split
    · unfold endS; split
      · exact ⟨fun _ => by omega⟩
      · exact h3
    · exact h3
  | m + 1, t, p, h1, h2, h3 => by
    rw [srF, if_neg (ns_not h2)]
    refine fold_ok (Q := BOk N) h3 fun p q hq hp => ?_
    try dsimp only
    split
    · rename_i hb
      exact srF_bok m _ p (by rw [put14_len]; omega) (ns_step h2 hq hb) hp
    · exact hp

theorem put14_sort {l : List (List UInt8)} {q : (List UInt8)} (hn : (l ++ [q]).Nodup) : (l ++ [q]).mergeSort leS = put14 (l.mergeSort leS) q := by
 have h1 := List.nodup_append.1 hn
 have hq : ¬ q ∈ l.mergeSort leS := fun h => h1.2.2 q (List.mem_mergeSort.1 h) q (List.mem_singleton.2 rfl) rfl
 have hr : ∀ m : List (List UInt8), m.Nodup → Rise leS (m.mergeSort leS) := fun m hm => by
  unfold Rise
  exact List.Pairwise.and (List.pairwise_mergeSort (fun a b c h1 h2 => linS.trans a b c h1 h2) (fun a b => linS.total a b) m) ((List.mergeSort_perm m leS).nodup_iff.2 hm)
 have h15 : put15 (l.mergeSort leS) q = put14 (l.mergeSort leS) q := by
  unfold put15
  rw [if_neg (fun h => hq (hasS_mem.1 h))]
 rw [← h15]
 refine rise_ext linS (hr _ hn) (put15_rise (hr _ h1.1)) fun a => ?_
 rw [List.mem_mergeSort, put15_mem, List.mem_mergeSort, List.mem_append, List.mem_singleton]

theorem compact_nodup {l : List (List UInt8)} (h : l.Nodup) : (Lib.compact (l.mergeSort leS)).length = l.length := by
 have hr : Rise leS (l.mergeSort leS) := by
  unfold Rise
  exact List.Pairwise.and (List.pairwise_mergeSort (fun a b c h1 h2 => linS.trans a b c h1 h2) (fun a b => linS.total a b) l) ((List.mergeSort_perm l leS).nodup_iff.2 h)
 have e : tid leS l = l.mergeSort leS := rise_ext linS (tid_rise linS l) hr fun a => by rw [tid_mem linS, List.mem_mergeSort]
 show (tid leS l).length = _
 rw [e, List.length_mergeSort]

theorem inB_iff {l : List (List UInt8)} {c : (List UInt8)} : inB l c = true ↔ ∃ q ∈ l, hasB q c = true := by
 unfold inB; rw [List.any_eq_true]

theorem inB_sort (l : List (List UInt8)) (c : (List UInt8)) : inB (l.mergeSort leS) c = inB l c := by
  rw [Bool.eq_iff_iff, inB_iff, inB_iff]
  constructor
  · rintro ⟨q, hq, h⟩; exact ⟨q, List.mem_mergeSort.1 hq, h⟩
  · rintro ⟨q, hq, h⟩; exact ⟨q, List.mem_mergeSort.2 hq, h⟩

theorem unc_sort (on l : List (List UInt8)) : unc on (l.mergeSort leS) = unc on l := by
 unfold unc
 apply List.filter_congr
 intro c _
 rw [inB_sort]

theorem unc_snoc (on l : List (List UInt8)) (q : (List UInt8)) : (unc on l).filter (fun c => !hasB q c) = unc on (l ++ [q]) := by
  unfold unc
  rw [List.filter_filter]
  apply List.filter_congr
  intro c _
  have : inB (l ++ [q]) c = (inB l c || hasB q c) := by unfold inB; rw [List.any_append]; simp
  rw [this]
  cases inB l c <;> cases hasB q c <;> rfl

theorem new_cube {on l : List (List UInt8)} {q : (List UInt8)} (h : ¬ unc on l = []) (hb : hasB q ((unc on l).getD 0 default) = true) (hn : l.Nodup) : (l ++ [q]).Nodup := by
 rw [List.nodup_append]
 refine ⟨hn, by simp, fun a ha b hbm => ?_⟩
 rw [List.mem_singleton] at hbm
 subst hbm
 rintro rfl
 have hm : (unc on l).getD 0 default ∈ unc on l := getD_mem (List.length_pos_iff.2 h)
 have h2 := (List.mem_filter.1 hm).2
 rw [Bool.not_eq_true', ← Bool.not_eq_true] at h2
 exact h2 (inB_iff.2 ⟨a, ha, hb⟩)

theorem ch_sr {pr on : List (List UInt8)} {N : Nat} : ∀ (m : Nat) (l : List (List UInt8)) (p : List (List UInt8) × Bool), l.length + m = N → l.Nodup → noShort pr on m (l.mergeSort leS) → BOk N p → chF pr m (unc on l) l p = srF pr on m (l.mergeSort leS) p := by
  have hend : ∀ (l : List (List UInt8)) (p : List (List UInt8) × Bool), l.length = N → l.Nodup → BOk N p → endI l 0 p = endS (l.mergeSort leS) p := by
    intro l p h1 h2 h3
    have hb : betI (l.mergeSort leS) p = betB (l.mergeSort leS) p := by
      unfold betI betB
      cases hp : p.2
      · rfl
      · rw [cmp_lex (by rw [List.length_mergeSort, h3.len hp, h1])]
    unfold endI endS
    rw [decide_eq_true (compact_nodup h2), hb]
    simp
  intro m
  induction m with
  | zero =>
    intro l p h1 h2 h3 h4
    by_cases e : unc on l = []
    · rw [chF, if_pos e, srF, if_pos (by rw [unc_sort]; exact e), hend l p (by omega) h2 h4]
    · rw [chF, if_neg e, srF, if_neg (by rw [unc_sort]; exact e)]
  | succ m ih =>
    intro l p h1 h2 h3 h4
    have e : ¬ unc on l = [] := by have := ns_not h3; rwa [unc_sort] at this
    rw [chF, if_neg e, srF, if_neg (by rw [unc_sort]; exact e), unc_sort]
    have key : ∀ (k : List (List UInt8)), (∀ q ∈ k, q ∈ pr) → ∀ p, BOk N p → k.foldl (fun p q => if hasB q ((unc on l).getD 0 default) then chF pr m ((unc on l).filter fun c => !hasB q c) (l ++ [q]) p else p) p = k.foldl (fun p q => if hasB q ((unc on l).getD 0 default) then srF pr on m (put14 (l.mergeSort leS) q) p else p) p := by
      intro k
      induction k with
      | nil => intro _ p _; rfl
      | cons q k ih2 =>
        intro hk p hp
        rw [List.foldl_cons, List.foldl_cons]
        by_cases hb : hasB q ((unc on l).getD 0 default) = true
        · have hnd := new_cube e hb h2
          have hns : noShort pr on m ((l ++ [q]).mergeSort leS) := by
            rw [put14_sort hnd]
            exact ns_step h3 (hk q List.mem_cons_self) (by rw [unc_sort]; exact hb)
          have h5 := ih (l ++ [q]) p a125 hnd hns hp
          rw [if_pos hb, if_pos hb, unc_snoc, h5, put14_sort hnd]
          refine ih2 (fun a ha => hk a (List.mem_cons_of_mem _ ha)) _ ?_
          rw [← put14_sort hnd]
          exact srF_bok m _ p (by rw [List.length_mergeSort, List.length_append, List.length_singleton]; omega) hns hp
        · rw [if_neg hb, if_neg hb]
          exact ih2 (fun a ha => hk a (List.mem_cons_of_mem _ ha)) p hp
    exact key pr (fun _ h => h) p h4

def rndS (pr on : List (List UInt8)) (m : Nat) : List (List UInt8) × Bool := srF pr on m [] ([], false)

def rndI (pr on : List (List UInt8)) (m : Nat) : List (List UInt8) × Bool := chF pr m on [] ([], false)

theorem ns_of {pr on : List (List UInt8)} {m : Nat} (h : ∀ j, j < m → (rndS pr on j).2 = false) : noShort pr on m [] := by
 cases m with
 | zero => trivial
 | succ m =>
  intro hh
  have := (srF_met (pr := pr) (on := on) m [] ([], false)).2 (.inr hh)
  have h2 := h m (by omega)
  unfold rndS at h2
  rw [h2] at this; cases this

theorem unc_nil (on : List (List UInt8)) : unc on [] = on := by
 unfold unc
 rw [List.filter_eq_self]
 intro c _; rfl

theorem rnd_eq {pr on : List (List UInt8)} {m : Nat} (h : ∀ j, j < m → (rndS pr on j).2 = false) : rndI pr on m = rndS pr on m := by
 have hs : ([] : List (List UInt8)).mergeSort leS = [] := List.mergeSort_nil
 have := ch_sr (pr := pr) (on := on) (N := m) m [] ([], false) (by simp) (by simp) (by rw [hs]; exact ns_of h) ⟨fun e => by cases e⟩
 rw [unc_nil, hs] at this
 exact this

def lstF (f : Nat → List (List UInt8) × Bool) : Nat → Nat → List (List UInt8) × Bool
 | 0, _ => ([], false)
 | k + 1, j => if (f j).2 then ((f j).1, true) else lstF f k (j + 1)

theorem lst_skip {f : Nat → List (List UInt8) × Bool} : ∀ (m k : Nat), (∀ j, j < m → (f j).2 = false) → lstF f (m + k) 0 = lstF f k m := by
 have key : ∀ (m k j0 : Nat), (∀ j, j0 ≤ j → j < j0 + m → (f j).2 = false) → lstF f (m + k) j0 = lstF f k (j0 + m) := by
  intro m
  induction m with
  | zero => intro k j0 _; rw [Nat.zero_add]; rfl
  | succ m ih =>
   intro k j0 h
   rw [show m + 1 + k = (m + k) + 1 by omega, lstF, if_neg (by rw [h j0 (by omega) (by omega)]; simp), ih k (j0 + 1) (fun j h1 h2 => h j (by omega) (by omega))]
   congr 1; omega
 intro m k h
 have := key m k 0 (fun j _ h2 => h j (by omega))
 rwa [Nat.zero_add] at this

def minF (pr on : List (List UInt8)) : List (List UInt8) × Bool := lstF (rndI pr on) 7 0

theorem min_yes {pr on : List (List UInt8)} {m : Nat} (hm : m < 7) (h : ∀ j, j < m → (rndI pr on j).2 = false) (h2 : (rndI pr on m).2 = true) : minF pr on = ((rndI pr on m).1, true) := by
 unfold minF
 rw [show (7 : Nat) = m + ((6 - m) + 1) by omega, lst_skip m _ h, lstF, if_pos h2]

theorem min_no {pr on : List (List UInt8)} (h : ∀ j, j < 7 → (rndI pr on j).2 = false) : minF pr on = ([], false) := by
 unfold minF
 rw [show (7 : Nat) = 7 + 0 from rfl, lst_skip 7 0 h]; rfl

theorem snocS (l : List (List UInt8)) (q : List UInt8) : frozs (l.map D.str ++ [D.str q]) = (l ++ [q]).map D.str := by
 have h : l.map D.str ++ [D.str q] = (l ++ [q]).map D.str := by rw [List.map_append]; rfl
 rw [h]; exact frozs_map (fun _ => rfl) _

theorem tightA {P : Program} {ρ : Operand → V} {h : Nat → Option Ob} {dst : Option Nat} {t x mx hi a2 b2 c2 d2} {sz : Nat} {xs : List D} {r : Nat} (e) (ht : P.underlying t = some (.slice e)) (hsz : SizeIs P e sz) (hx : (ρ x = .d (.slice false sz xs)) ∨ ρ x = .tight sz xs ∨ (ρ x = .c (.slice none 0 0) ∧ xs = [])) (hr : ∃ y, hi = some y ∧ bnd ρ hi 0 r) (hm : bnd ρ (some mx) 0 r) (hl : xs.length = r) : Ev P ρ h (Oper.mk dst (.slice t x none hi (some mx)) a2 b2 c2 d2) (.tight sz xs) {} := by
 have h1 := Ev.tight (P := P) (ρ := ρ) (h := h) (o := Oper.mk dst (.slice t x none hi (some mx)) a2 b2 c2 d2) t x mx none hi e 0 r rfl ht hsz hx (by simp [bnd]) hr hm (Nat.zero_le _) (by omega)
 rw [List.drop_zero, List.take_of_length_le (by omega)] at h1; exact h1

theorem betI_eq {t l : List (List UInt8)} {f : Bool} : betI t (l, f) = (!f || (decide ((lits t : Int) < (lits l : Int)) || (decide ((lits t : Int) = (lits l : Int)) && decide (cmpL t l < 0)))) := by
 unfold betI
 rw [show decide ((lits t : Int) < (lits l : Int)) = decide (lits t < lits l) from decide_eq_decide.2 (by omega), show decide ((lits t : Int) = (lits l : Int)) = decide (lits t = lits l) from decide_eq_decide.2 (by omega)]

theorem cmpL_next {l m : List (List UInt8)} {k : Nat} (h1 : k < l.length) (h2 : k < m.length) : cmpL (l.drop k) (m.drop k) = if cmpS (l.getD k default) (m.getD k default) = 0 then cmpL (l.drop (k + 1)) (m.drop (k + 1)) else cmpS (l.getD k default) (m.getD k default) := by
 rw [List.drop_eq_getElem_cons h1, List.drop_eq_getElem_cons h2, cmpL]
 simp [h1, h2]

theorem cmpL_end1 {l m : List (List UInt8)} {k : Nat} (h1 : k < l.length) (h2 : m.length ≤ k) : cmpL (l.drop k) (m.drop k) = 1 := by
 rw [List.drop_eq_getElem_cons h1, List.drop_of_length_le h2]; rfl

theorem cmpL_end2 {l m : List (List UInt8)} {k : Nat} (h1 : l.length ≤ k) (h2 : k < m.length) : cmpL (l.drop k) (m.drop k) = -1 := by
 rw [List.drop_eq_getElem_cons h2, List.drop_of_length_le h1]; rfl

theorem cmpL_end3 {l m : List (List UInt8)} {k : Nat} (h1 : l.length ≤ k) (h2 : m.length ≤ k) : cmpL (l.drop k) (m.drop k) = 0 := by
 rw [List.drop_of_length_le h2, List.drop_of_length_le h1]; rfl

theorem sp_isNaN (u : List UInt8) : Sp Tryz.prog 279 [(.str u)] [.any] (.bool false) := by
 refine Sp_intro (lend := true) Tryz.func279 rfl rfl rfl (fun _ => rfl) (fun c hc hX => ?_)
 refine Ts hc (Ch.s (dB false) pa (Ch.nil (Ts hc (Ch.s (dS u) pm (Ch.s (dS u) pm ?_)))))
 refine Ch.s (dB (!(decide (u = u)))) (.pure (.str _ _ _ _ _ rfl rfl rfl rfl)) (Ch.s (dB (!(decide (u = u)))) pa (Ch.nil (T_ret ?_)))
 exact eR [(dB (!(decide (u = u))))] [] [] (.cons (.tmp 2 rfl) .nil) eA (Exp.of (congrArg D.bool (by simp)) (.d _))

theorem sp_cmpS (u v : List UInt8) : Sp Tryz.prog 285 [(.str u), (.str v)] [.any, .any] (.int .i64 (cmpS u v)) := by
 refine Sp_intro (lend := true) Tryz.func285 rfl rfl rfl (fun _ => rfl) (fun c hc hX => ?_)
 refine Ts hc (Ch.s (dI 0) pa (Ch.nil (Ts hc (Ch.s (dS u) pm (Ch.s (dB false) (.call 8000 279 _ _ _ en279 rfl (.inl rfl) (.cons (.d _) .nil) rfl rfl (sp_isNaN u) (.skip _ _ .nil) rfl) ?_)))))
 refine Ch.s (dB false) pa (Ch.nil (Ts hc (Ch.s (dS v) pm (Ch.s (dB false) (.call 10000 279 _ _ _ en279 rfl (.inl rfl) (.cons (.d _) .nil) rfl rfl (sp_isNaN v) (.skip _ _ .nil) rfl) (Ch.s (dB false) pa (Ch.nil ?_))))))
 refine Tq (Ts hc (Ch.s (dB false) pm (Ch.nil ?_)))
 refine T_cond (b := false) rfl (fun h => nomatch h) (fun _ => ?_)
 refine Tk (Tq (Ts hc (Ch.s (dB false) pm (Ch.nil ?_))))
 refine T_cond (b := false) rfl (fun h => nomatch h) (fun _ => ?_)
 refine Tk (Tq (Ts hc (Ch.s (dS u) pm (Ch.s (dS v) pm (Ch.s (dB (Op.bytesLess u v)) (.pure (.str _ _ _ _ _ rfl rfl rfl rfl)) (Ch.nil ?_))))))
 refine T_cond (b := (Op.bytesLess u v)) rfl (fun h1 => ?_) (fun h1 => ?_)
 ·
  refine Ts hc (Ch.s (dI (-1)) pa (Ch.nil (T_ret ?_)))
  exact eR [(dI (-1))] [] [] (.cons (.tmp 4 rfl) .nil) eB (Exp.of (congrArg (D.int .i64) a43) (.d _))
 ·
  refine Tk (Tq (Ts hc (Ch.s (dS u) pm (Ch.s (dS v) pm (Ch.s (dB (!(Op.bytesLess u v || decide (u = v)))) (.pure (.str _ _ _ _ _ rfl rfl rfl rfl)) (Ch.nil ?_))))))
  refine T_condN (b := (Op.bytesLess u v || decide (u = v))) rfl (fun h2 => ?_) (fun h2 => ?_)
  ·
   refine Ts hc (Ch.s (dI 1) pa (Ch.nil (T_ret ?_)))
   exact eR [(dI 1)] [] [] (.cons (.tmp 4 rfl) .nil) eB (Exp.of (congrArg (D.int .i64) a43) (.d _))
  ·
   refine Tk (Ts hc (Ch.s (dI 0) pa (Ch.nil (T_ret ?_))))
   exact eR [(dI 0)] [] [] (.cons (.tmp 4 rfl) .nil) eB (Exp.of (congrArg (D.int .i64) a43) (.d _))

theorem sp_cmpL (xs ys : List (List UInt8)) (hn : xs.length ≤ 1048576) (hm : ys.length ≤ 1048576) : Sp Tryz.prog 260 [(.slice false 1 (xs.map D.str)), (.slice false 1 (ys.map D.str))] [.any, .any] (.int .i64 (cmpL xs ys)) := by
 refine Sp_intro (lend := true) Tryz.func260 rfl rfl rfl (fun _ => rfl) (fun c hc hX => ?_)
 refine Ts hc (Ch.s (dI 0) pa (Ch.nil (Tq (Ts hc (Ch.s (.d (.slice false 1 (xs.map D.str))) pm ?_)))))
 refine Ch.s (dI (xs.length : Int)) (.pure (.len _ _ 9 rfl Tryz.underlying23 (.sh _ _) (by simp))) (Ch.s (dI 0) pm (Ch.nil (Tb ?_)))
 refine T_loop (ι := Nat) (fun k => { n := 36, sl := [(0, (.d (.slice false 1 (xs.map D.str)))), (1, (.d (.slice false 1 (ys.map D.str)))), (9, (.d (.slice false 1 (xs.map D.str)))), (10, (dI (xs.length : Int))), (11, (dI (k : Int)))], hp := [], pin := [] }) (fun k => k ≤ xs.length ∧ k ≤ ys.length ∧ cmpL xs ys = cmpL (xs.drop k) (ys.drop k)) (fun k => xs.length - k) ⟨0, ⟨by omega, by omega, rfl⟩, (Wk.of rfl rfl (ar (ar (ar (ar (ai (vI a126) trivial))))) trivial)⟩ (fun k hp0 => ?_)
 refine Ts hc (Ch.s (dB (decide ((k : Int) < (xs.length : Int)))) (iX rfl rfl rfl) (Ch.nil (Tq ?_)))
 refine T_condD (p := ((k : Int) < (xs.length : Int))) rfl (fun h1 => ?_) (fun h1 => ?_)
 ·
  refine Tk (Tq (Tb (Ts hc (Ch.s (dI (k : Int)) pm (Ch.s (.d (.ref (.str (xs.getD k default)))) (.pure (.idx _ _ _ 9 (k) rfl Tryz.underlying23 sz9 rfl rfl rfl get_mapA)) (Ch.s (dS (xs.getD k default)) (rF ag9 rfl rfl) ?_))))))
  refine Ch.s (dI (k : Int)) pa (Ch.s (dS (xs.getD k default)) pa (Ch.nil (Tq (Ts hc (Ch.s (dI (k : Int)) pm (Ch.s (.d (.slice false 1 (ys.map D.str))) pm ?_))))))
  refine Ch.s (dI (ys.length : Int)) (.pure (.len _ _ 9 rfl Tryz.underlying23 (.sh _ _) (by simp))) (Ch.s (dB (decide ((ys.length : Int) ≤ (k : Int)))) (iX rfl rfl rfl) (Ch.nil ?_))
  refine T_condD (p := ((ys.length : Int) ≤ (k : Int))) rfl (fun h2 => ?_) (fun h2 => ?_)
  ·
   refine Ts hc (Ch.s (dI 1) pa (Ch.nil (T_ret ?_)))
   exact eR [(dI 1)] [] [] (.cons (.tmp 4 rfl) .nil) eB (Exp.of (congrArg (D.int .i64) a31) (.d _))
  ·
   refine Tk (Ts hc (Ch.s (.d (.slice false 1 (ys.map D.str))) pm (Ch.s (dI (k : Int)) pm (Ch.s (.d (.ref (.str (ys.getD k default)))) (.pure (.idx _ _ _ 9 (k) rfl Tryz.underlying23 sz9 rfl rfl rfl get_mapA)) (Ch.s (dS (ys.getD k default)) (rF ag9 rfl rfl) (Ch.s (dS (ys.getD k default)) pa ?_))))))
   refine Ch.nil (Ts hc (Ch.s (dS (xs.getD k default)) pm (Ch.s (dS (ys.getD k default)) pm (Ch.s (dI (cmpS (xs.getD k default) (ys.getD k default))) (.call 26000 285 _ _ _ en285 rfl (.inl rfl) (.cons (.d _) (.cons (.d _) .nil)) rfl rfl (sp_cmpS (xs.getD k default) (ys.getD k default)) (.skip _ _ (.skip _ _ .nil)) rfl) (Ch.s (dI (cmpS (xs.getD k default) (ys.getD k default))) pa (Ch.nil ?_))))))
   refine Ts hc (Ch.s (dI (cmpS (xs.getD k default) (ys.getD k default))) pm (Ch.s (dB (!(decide ((cmpS (xs.getD k default) (ys.getD k default)) = 0)))) (iX rfl rfl rfl) (Ch.nil ?_)))
   refine T_condN (b := (decide ((cmpS (xs.getD k default) (ys.getD k default)) = 0))) rfl (fun h3 => ?_) (fun h3 => ?_)
   ·
    replace h3 := odf h3
    refine Ts hc (Ch.s (dI (cmpS (xs.getD k default) (ys.getD k default))) pm (Ch.s (dI (cmpS (xs.getD k default) (ys.getD k default))) pa (Ch.nil (T_ret ?_))))
    exact eR [(dI (cmpS (xs.getD k default) (ys.getD k default)))] [] [] (.cons (.tmp 4 rfl) .nil) eB (Exp.of (congrArg (D.int .i64) a31) (.d _))
   ·
    replace h3 := odt h3
    refine Tk (Tz hc (Ch.s (dI ((k : Int) + 1)) (iX rfl rfl intV_addA) (Ch.s (dI ((k : Int) + 1)) pm (Ch.nil ?_))))
    exact nx (k + 1) ⟨by omega, by omega, by rw [hp0.2.2, cmpL_next (by omega) (by omega), if_pos (by omega)]⟩ (Wk.of rfl rfl (ar (ar (ar (ar (ai (vI a126) trivial))))) trivial)
 ·
  refine T_exit (Tq (Ts hc (Ch.s (.d (.slice false 1 (xs.map D.str))) pm (Ch.s (dI (xs.length : Int)) (.pure (.len _ _ 9 rfl Tryz.underlying23 (.sh _ _) (by simp))) (Ch.s (.d (.slice false 1 (ys.map D.str))) pm (Ch.s (dI (ys.length : Int)) (.pure (.len _ _ 9 rfl Tryz.underlying23 (.sh _ _) (by simp))) ?_))))))
  refine Ch.s (dB (decide ((xs.length : Int) < (ys.length : Int)))) (iX rfl rfl rfl) (Ch.nil ?_)
  refine T_condD (p := ((xs.length : Int) < (ys.length : Int))) rfl (fun h4 => ?_) (fun h4 => ?_)
  ·
   refine Ts hc (Ch.s (dI (-1)) pa (Ch.nil (T_ret ?_)))
   exact eR [(dI (-1))] [] [] (.cons (.tmp 4 rfl) .nil) eB (Exp.of (congrArg (D.int .i64) a31) (.d _))
  ·
   refine Tk (Ts hc (Ch.s (dI 0) pa (Ch.nil (T_ret ?_))))
   exact eR [(dI 0)] [] [] (.cons (.tmp 4 rfl) .nil) eB (Exp.of (congrArg (D.int .i64) a31) (.d _))

theorem sp_isBetter (u : Value) (l t : List (List UInt8)) (f : Bool) (hl : bulkS l ≤ 1048576) (ht : bulkS t ≤ 1048576) : Sp Tryz.prog 228 [(.box [(.hole u), (.slice true 1 (l.map D.str)), (.bool (f))]), (.slice false 1 (t.map D.str))] [(.box [(.hole u), (.slice true 1 (l.map D.str)), (.bool (f))]), .any] (.bool (betI t (l, f))) := by
 refine Sp_intro (lend := false) Tryz.func228 rfl rfl rfl (fun h => nomatch h) (fun c hc hX => ?_)
 refine T_open 1 8000010 rfl rfl rfl ?_
 have hn := bulk_len hl; have hm := bulk_len ht
 refine Ts hc (Ch.s (dB false) pa (Ch.nil (Tq ?_)))
 refine T_regionD hc (by kernel_rfl) ?_
 refine ChD.s (.d (.slice false 1 (t.map D.str))) [] pm (ChD.s (dI (lits t : Int)) [] (.call 8000 202 _ _ _ en202 rfl (.inl rfl) (.cons (.d _) .nil) rfl rfl (sp_impl_literals t a26) (.skip _ _ .nil) rfl) (ChD.s (.ptr 1 0) [] pm (ChD.s (.ptr 1 0) [] (.pure (.nilPtr _ rfl rfl)) (ChD.s (.ptr 1 1) [] (fP fld183_1 rfl) (ChD.s (.row 8000010) [1] (lP ag23 rfl rfl rfl) (ChD.s (dI (lits l : Int)) [8000010] (.call 13000 202 _ _ _ en202 rfl (.inl rfl) (.cons (.lend (.row rfl (frozs_map (fun _ => rfl) _))) .nil) rfl rfl (sp_impl_literals l a26) (.skip _ _ .nil) rfl) (ChD.s (dI (lits t : Int)) [] pa ?_)))))))
 refine ChD.s (dI (lits l : Int)) [] pa ?_
 refine ChD.nil (And.intro ?_ (by kernel_rfl))
 refine Ts hc (Ch.s (.ptr 1 0) pm (Ch.s (.ptr 1 0) (.pure (.nilPtr _ rfl rfl)) (Ch.s (.ptr 1 2) (fP fld183_2 rfl) (Ch.s (dB (f)) (lP ag4 rfl rfl rfl) (Ch.s (dB (!(f))) (nT rfl) (Ch.s (dB (!(f))) pm ?_))))))
 cases h1 : (f) with
 | true =>
  refine Ch.s (dI (lits t : Int)) pm (Ch.s (dI (lits l : Int)) pm (Ch.s (dB (decide ((lits t : Int) < (lits l : Int)))) (iX rfl rfl rfl) (Ch.s (dB (decide ((lits t : Int) < (lits l : Int)))) (pF rfl) (Ch.s (dB (decide ((lits t : Int) < (lits l : Int)))) pm ?_))))
  cases h2 : (decide ((lits t : Int) < (lits l : Int))) with
  | true =>
   replace h2 := odt h2
   refine Ck (Ck (Ck (Ck (Ck (Ck (Ck (Ch.skip rfl rfl ?_)))))))
   refine Ck (Ck (Ck (Ck (Ch.s (dB true) (pT rfl) (Ch.s (dB true) pa (Ch.nil (T_ret ?_)))))))
   exact eR [(dB true)] [1, 8000010] [] (.cons (.tmp 4 rfl) .nil) (.cons (.box rfl (.cons (.d _) (.cons (.row rfl) (.cons (Exp.of (congrArg D.bool a48) (.d _)) .nil))) rfl) eA) (Exp.of (congrArg D.bool a48) (.d _))
  | false =>
   replace h2 := odf h2
   refine Ch.s (dI (lits t : Int)) pm (Ch.s (dI (lits l : Int)) pm (Ch.s (dB (decide ((lits t : Int) = (lits l : Int)))) (iX rfl rfl rfl) (Ch.s (dB (decide ((lits t : Int) = (lits l : Int)))) pm ?_)))
   cases h3 : (decide ((lits t : Int) = (lits l : Int))) with
   | true =>
    replace h3 := odt h3
    refine Ch.s (.d (.slice false 1 (t.map D.str))) pm (Ch.s (.ptr 1 0) pm (Ch.s (.ptr 1 0) (.pure (.nilPtr _ rfl rfl)) (Ch.s (.ptr 1 1) (fP fld183_1 rfl) (Ch.s (.row 8000010) (lP ag23 rfl rfl rfl) (Ch.s (dI (cmpL t l)) (.call 34000 260 _ _ _ en260 rfl (.inl rfl) (.cons (.d _) (.cons (.lend (.row rfl (frozs_map (fun _ => rfl) _))) .nil)) rfl rfl (sp_cmpL t l a46 a46) (.skip _ _ (.skip _ _ .nil)) rfl) (Ch.s (dB (decide ((cmpL t l) < 0))) (iX rfl rfl rfl) (Ch.s (dB (decide ((cmpL t l) < 0))) (pT rfl) ?_)))))))
    refine Ch.s (dB (decide ((cmpL t l) < 0))) (pF rfl) (Ch.s (dB (decide ((cmpL t l) < 0))) pa (Ch.nil (T_ret ?_)))
    exact eR [(dB (decide ((cmpL t l) < 0)))] [1, 8000010] [] (.cons (.tmp 4 rfl) .nil) (.cons (.box rfl (.cons (.d _) (.cons (.row rfl) (.cons (Exp.of (congrArg D.bool a48) (.d _)) .nil))) rfl) eA) (Exp.of (congrArg D.bool a48) (.d _))
   | false =>
    replace h3 := odf h3
    refine Ck (Ck (Ck (Ck (Ck (Ck (Ck (Ch.s (dB false) (pF rfl) ?_)))))))
    refine Ch.s (dB false) (pF rfl) (Ch.s (dB false) pa (Ch.nil (T_ret ?_)))
    exact eR [(dB false)] [1, 8000010] [] (.cons (.tmp 4 rfl) .nil) (.cons (.box rfl (.cons (.d _) (.cons (.row rfl) (.cons (Exp.of (congrArg D.bool a48) (.d _)) .nil))) rfl) eA) (Exp.of (congrArg D.bool a48) (.d _))
 | false =>
  refine Ck (Ck (Ck (Ch.s (dB true) (pT rfl) (Ch.s (dB true) pm (Ck (Ck (Ch.skip rfl rfl ?_)))))))
  refine Ck (Ck (Ck (Ck (Ck (Ck (Ck (Ch.skip rfl rfl ?_)))))))
  refine Ck (Ch.s (dB true) (pT rfl) (Ch.s (dB true) pa (Ch.nil (T_ret ?_))))
  exact eR [(dB true)] [1, 8000010] [] (.cons (.tmp 4 rfl) .nil) (.cons (.box rfl (.cons (.d _) (.cons (.row rfl) (.cons (Exp.of (congrArg D.bool a48) (.d _)) .nil))) rfl) eA) (Exp.of (congrArg D.bool a48) (.d _))

theorem bulk_small {l : List (List UInt8)} {n : Nat} (h6 : n ≤ 8) (h1 : l.length ≤ 7) (h2 : ∀ q ∈ l, q.length = n) : bulkS l ≤ 1048576 := by
 have key : ∀ l : List (List UInt8), (∀ q ∈ l, q.length = n) → (l.map List.length).sum = l.length * n := by
  intro l
  induction l with
  | nil => intro _; simp
  | cons a l ih =>
   intro h
   rw [List.map_cons, List.sum_cons, ih (fun q hq => h q (List.mem_cons_of_mem _ hq)), h a List.mem_cons_self, List.length_cons, Nat.add_mul]; omega
 have h3 := key l h2
 have h4 : l.length * n ≤ 7 * 8 := Nat.mul_le_mul h1 h6
 unfold bulkS; omega

theorem endI_yes {l : List (List UInt8)} {m : Nat} {p : List (List UInt8) × Bool} (h1 : (Lib.compact (l.mergeSort leS)).length = l.length) (h2 : m = 0) (h3 : betI (l.mergeSort leS) (p.1, p.2) = true) : endI l m p = (l.mergeSort leS, true) := by
 unfold endI
 rw [decide_eq_true h1, decide_eq_true h2, show betI (l.mergeSort leS) p = true from h3]; rfl

theorem endI_no1 {l : List (List UInt8)} {m : Nat} {p : List (List UInt8) × Bool} (h1 : ¬ (Lib.compact (l.mergeSort leS)).length = l.length) : endI l m p = p := by
 unfold endI
 rw [decide_eq_false h1]; rfl

theorem endI_no2 {l : List (List UInt8)} {m : Nat} {p : List (List UInt8) × Bool} (h2 : ¬ m = 0) : endI l m p = p := by
 unfold endI
 rw [decide_eq_false h2, Bool.false_and, Bool.and_false]; rfl

theorem endI_no3 {l : List (List UInt8)} {m : Nat} {p : List (List UInt8) × Bool} (h3 : betI (l.mergeSort leS) (p.1, p.2) = false) : endI l m p = p := by
 unfold endI
 rw [show betI (l.mergeSort leS) p = false from h3, Bool.and_false, Bool.and_false]; rfl

theorem chF_z {pr : List (List UInt8)} {m : Nat} {on l : List (List UInt8)} {p : List (List UInt8) × Bool} (h : m = 0) (h2 : ¬ on.length = 0) : chF pr m on l p = p := by subst h; exact chF_zero h2

theorem chF_nx {pr : List (List UInt8)} {m : Nat} {on l : List (List UInt8)} {p : List (List UInt8) × Bool} {k : Nat} (hm : ¬ m = 0) (h2 : ¬ on.length = 0) (hk : pr.length ≤ k) : chF pr m on l p = chTo pr (m - 1) on l p k := by
 obtain ⟨q, rfl⟩ : ∃ q, m = q + 1 := ⟨m - 1, by omega⟩
 exact chF_next h2 hk

theorem chTo_yes {pr : List (List UInt8)} {m : Nat} {on l : List (List UInt8)} {p : List (List UInt8) × Bool} {k : Nat} (h : k < pr.length) (hb : hasB (pr.getD k default) (on.getD 0 default) = true) : chF pr m (on.filter fun c => !hasB (pr.getD k default) c) (l ++ [pr.getD k default]) (chTo pr m on l p k) = chTo pr m on l p (k + 1) := by rw [chTo_succ h, if_pos hb]

theorem chTo_no {pr : List (List UInt8)} {m : Nat} {on l : List (List UInt8)} {p : List (List UInt8) × Bool} {k : Nat} (h : k < pr.length) (hb : hasB (pr.getD k default) (on.getD 0 default) = false) : chTo pr m on l p k = chTo pr m on l p (k + 1) := by rw [chTo_succ h, hb]; rfl

theorem snoc_all {l : List (List UInt8)} {q : List UInt8} {n : Nat} (h : ∀ a ∈ l, a.length = n) (hq : q.length = n) : ∀ a ∈ l ++ [q], a.length = n := fun a ha => by
  rcases List.mem_append.1 ha with ha | ha
  · exact h a ha
  · rw [List.mem_singleton] at ha; rw [ha]; exact hq

theorem sp_choose_1 (v q : List UInt8) (ha : q.length ≤ 1048576) (hl : q.length ≤ v.length) : Sp Tryz.prog 229 [(.str v), (.ref (.str q))] [.any, .any] (.bool (hasB q v)) := by
 refine Sp_intro (lend := true) Tryz.func229 rfl rfl rfl (fun _ => rfl) (fun c hc hX => ?_)
 refine Ts hc (Ch.s (dB false) pa (Ch.nil (Ts hc (Ch.s (dS q) (rF ag9 rfl rfl) (Ch.s (dS v) pm ?_)))))
 refine Ch.s (dB (hasB q v)) (.call 6000 198 _ _ _ en198 rfl (.inl rfl) (.cons (.d _) (.cons (.d _) .nil)) rfl rfl (sp_impl_contains q v a26 a26) (.skip _ _ (.skip _ _ .nil)) rfl) (Ch.s (dB (hasB q v)) pa (Ch.nil (T_ret ?_)))
 exact eR [(dB (hasB q v))] [] [] (.cons (.tmp 3 rfl) .nil) eB (.d _)

set_option maxHeartbeats 2000000 in
theorem sp_choose_step (u : Value) (pr : List (List UInt8)) (n m : Nat) (z : Int) (on l : List (List UInt8)) (p : (List (List UInt8) × Bool)) (hz : z = (m : Int)) (hn6 : n ≤ 8) (hpr : ∀ q ∈ pr, q.length = n) (hprl : pr.length ≤ 1048576) (hon : ∀ c ∈ on, c.length = n) (honl : on.length ≤ 1048576) (hl : ∀ q ∈ l, q.length = n) (hlm : l.length + m ≤ 7) (hp : POk n 7 p) (ih : ∀ (j : Nat) (z : Int) (on l : List (List UInt8)) (p : (List (List UInt8) × Bool)), j + 1 = m → z = (j : Int) → (∀ c ∈ on, c.length = n) → on.length ≤ 1048576 → (∀ q ∈ l, q.length = n) → l.length + j ≤ 7 → POk n 7 p → SpQ (fun S w _ => DRs S w [.slice false 1 (pr.map D.str)] [u] []) Tryz.prog 176 [(.box [(.hole u), (.slice true 1 (p.1.map D.str)), (.bool (p.2))]), .slice false 1 (on.map D.str), .slice false 1 (l.map D.str), .int .i64 z] [(.box [(.hole u), (.slice true 1 (((chF pr j on l p).1).map D.str)), (.bool ((chF pr j on l p).2))]), .any, .any, .any] (.tup [])) : SpQ (fun S w _ => DRs S w [(.slice false 1 (pr.map D.str))] [u] []) Tryz.prog 176 [(.box [(.hole u), (.slice true 1 (p.1.map D.str)), (.bool (p.2))]), (.slice false 1 (on.map D.str)), (.slice false 1 (l.map D.str)), (.int .i64 z)] [(.box [(.hole u), (.slice true 1 (((chF pr m on l p).1).map D.str)), (.bool ((chF pr m on l p).2))]), .any, .any, .any] (.tup []) := by
 refine SpG_intro Tryz.func176 rfl [900001] rfl rfl rfl (fun c hc => ?_)
 refine T_open 1 8000010 rfl rfl rfl ?_
 have hll : l.length ≤ 7 := by omega
 have hl2 : l.length ≤ 1048576 := by omega
 have hpb := bulk_small hn6 hp.len hp.all
 have hs7 : (l.mergeSort leS).length ≤ 7 := (by rw [List.length_mergeSort]; exact hll)
 have hsb : bulkS (l.mergeSort leS) ≤ 1048576 := bulk_small hn6 hs7 (fun q hq => hl q (List.mem_mergeSort.1 hq))
 have hs8 : (l.mergeSort leS).length ≤ 1048576 := by omega
 refine Tq (Ts hc (Ch.s (.d (.slice false 1 (on.map D.str))) pm (Ch.s (dI (on.length : Int)) (.pure (.len _ _ 9 rfl Tryz.underlying23 (.sh _ _) (by simp))) (Ch.s (dB (decide ((on.length : Int) = 0))) (iX rfl rfl rfl) (Ch.nil ?_)))))
 refine T_condD (p := ((on.length : Int) = 0)) rfl (fun h1 => ?_) (fun h1 => ?_)
 ·
  refine Ts hc (Ch.s (.d (.slice false 1 (l.map D.str))) pm ?_)
  refine Ch.step (v := (.row 16000)) rfl (.call 16000 227 _ _ _ en227 rfl (.inl rfl) (.cons (.d _) .nil) rfl (sol (solid_row (fun _ => rfl) _) rfl) (sp_Clone_str l a26) (.skip _ _ .nil) rfl) rfl rfl ?_
  refine Ch.s (.row 16000) pa (Ch.nil (Ts hc (Ch.s (.row 16000) pm ?_)))
  refine Ch.step (v := (.tup [])) rfl (.call 18000 124 _ _ _ en124 rfl (.inl rfl) (.cons (.row rfl) .nil) rfl (sol rfl (solids_c (solid_row (fun _ => rfl) _) rfl)) (sp_Sort_str l a46) (.row _ _ _ .nil) rfl) rfl rfl ?_
  refine Ch.nil (Tq (Ts hc (Ch.s (.row 16000) pm ?_)))
  refine Ch.step (v := (.row 20000)) rfl (.call 20000 227 _ _ _ en227 rfl (.inl rfl) (.cons (.lend (.row rfl (frozs_map (fun _ => rfl) _))) .nil) rfl (sol (solid_row (fun _ => rfl) _) rfl) (sp_Clone_str (l.mergeSort leS) a26) (.skip _ _ .nil) rfl) rfl rfl ?_
  refine Ch.step (v := (.row 21000)) rfl (.call 21000 209 _ _ _ en209 rfl (.inl rfl) (.cons (.row rfl) .nil) rfl (sol (solid_row (fun _ => rfl) _) rfl) (sp_Compact_str (l.mergeSort leS) a83) (.skip _ _ .nil) rfl) rfl rfl ?_
  refine Ch.s (dI ((Lib.compact (l.mergeSort leS)).length : Int)) (.pure (.len _ _ 9 rfl Tryz.underlying23 (.row rfl) (by simp))) (Ch.s (.d (.slice false 1 (l.map D.str))) pm (Ch.s (dI (l.length : Int)) (.pure (.len _ _ 9 rfl Tryz.underlying23 (.sh _ _) (by simp))) (Ch.s (dB (decide (((Lib.compact (l.mergeSort leS)).length : Int) = (l.length : Int)))) (iX rfl rfl rfl) (Ch.s (dB (decide (((Lib.compact (l.mergeSort leS)).length : Int) = (l.length : Int)))) pm ?_))))
  cases h2 : (decide (((Lib.compact (l.mergeSort leS)).length : Int) = (l.length : Int))) with
  | true =>
   replace h2 := odt h2
   refine Ch.s (dI z) pm (Ch.s (dB (decide (z = 0))) (iX rfl rfl rfl) (Ch.s (dB (decide (z = 0))) (pT rfl) (Ch.s (dB (decide (z = 0))) pm ?_)))
   cases h3 : (decide (z = 0)) with
   | true =>
    replace h3 := odt h3
    refine Ch.s (.ptr 1 0) pm (Ch.s (.row 16000) pm ?_)
    refine Ch.step (v := (dB (betI (l.mergeSort leS) (p.1, (p.2))))) rfl (.call 33000 228 _ _ _ en228 rfl (.inl rfl) (.cons (.box rfl (.cons (.d _) (.cons (.row rfl) (.cons (.d _) .nil))) rfl) (.cons (.lend (.row rfl (frozs_map (fun _ => rfl) _))) .nil)) rfl (sol rfl (solids_c a100 rfl)) (sp_isBetter u p.1 (l.mergeSort leS) (p.2) (by assumption) (by assumption)) (.box _ _ (.skip _ _ .nil)) rfl) rfl rfl ?_
    refine Ch.opens 1 8000020 rfl rfl rfl ?_
    refine Ch.s (dB (betI (l.mergeSort leS) (p.1, (p.2)))) (pT rfl) (Ch.nil ?_)
    refine T_cond (b := (betI (l.mergeSort leS) (p.1, (p.2)))) rfl (fun h4 => ?_) (fun h4 => ?_)
    ·
     try have hqk := hpr _ (getD_mem (l := pr) (j := k) (d := default) (by omega))
     try have hok := hon _ (getD_mem (l := on) (j := 0) (d := default) (by omega))
     refine Tz hc (Ch.s (.ptr 1 0) pm (Ch.s (.ptr 1 0) pm (Ch.s (.row 16000) pm (Ch.s (.ptr 1 0) (.pure (.nilPtr _ rfl rfl)) (Ch.s (.ptr 1 1) (fP fld183_1 rfl) (Ch.s .junk (.storePtr _ _ _ rfl rfl rfl (.one _ rfl) sz23 (lb rfl)) (Ch.s (.ptr 1 0) (.pure (.nilPtr _ rfl rfl)) ?_)))))))
     refine Ch.s (.ptr 1 2) (fP fld183_2 rfl) (Ch.s .junk (.storePtr _ _ _ rfl rfl rfl (.one _ rfl) sz4 (lb rfl)) (Ch.nil (T_ret ?_)))
     exact eR [] [1, 16000] [] .nil (.cons (.box rfl (.cons (.d _) (.cons (Exp.of (congrArg (D.slice true 1) a14) (.row rfl)) (.cons (Exp.of (congrArg D.bool a14) (.d _)) .nil))) rfl) eC) (.tup .nil)
    ·
     try have hqk := hpr _ (getD_mem (l := pr) (j := k) (d := default) (by omega))
     try have hok := hon _ (getD_mem (l := on) (j := 0) (d := default) (by omega))
     refine Tk (T_ret ?_)
     exact eR [] [1, 8000020] [] .nil (.cons (.box rfl (.cons (.d _) (.cons (Exp.of (congrArg (D.slice true 1) a14) (.row rfl)) (.cons (Exp.of (congrArg D.bool a14) (.d _)) .nil))) rfl) eC) (.tup .nil)
   | false =>
    replace h3 := odf h3
    refine Ck (Ck (Ck (Ch.s (dB false) (pF rfl) (Ch.nil ?_))))
    refine T_cond (b := false) rfl (fun h => nomatch h) (fun _ => ?_)
    refine Tk (T_ret ?_)
    exact eR [] [1, 8000010] [] .nil (.cons (.box rfl (.cons (.d _) (.cons (Exp.of (congrArg (D.slice true 1) a14) (.row rfl)) (.cons (Exp.of (congrArg D.bool a14) (.d _)) .nil))) rfl) eC) (.tup .nil)
  | false =>
   replace h2 := odf h2
   refine Ck (Ck (Ch.s (dB false) (pF rfl) (Ch.s (dB false) pm (Ck (Ck (Ck (Ch.s (dB false) (pF rfl) ?_)))))))
   refine Ch.nil ?_
   refine T_cond (b := false) rfl (fun h => nomatch h) (fun _ => ?_)
   refine Tk (T_ret ?_)
   exact eR [] [1, 8000010] [] .nil (.cons (.box rfl (.cons (.d _) (.cons (Exp.of (congrArg (D.slice true 1) a14) (.row rfl)) (.cons (Exp.of (congrArg D.bool a14) (.d _)) .nil))) rfl) eC) (.tup .nil)
 ·
  refine Tk (Tq (Ts hc (Ch.s (dI z) pm (Ch.s (dB (decide (z = 0))) (iX rfl rfl rfl) (Ch.nil ?_)))))
  refine T_condD (p := (z = 0)) rfl (fun h5 => ?_) (fun h5 => ?_)
  ·
   try have hqk := hpr _ (getD_mem (l := pr) (j := k) (d := default) (by omega))
   try have hok := hon _ (getD_mem (l := on) (j := 0) (d := default) (by omega))
   refine T_ret ?_
   exact eR [] [1, 8000010] [] .nil (.cons (.box rfl (.cons (.d _) (.cons (Exp.of (congrArg (D.slice true 1) a14) (.row rfl)) (.cons (Exp.of (congrArg D.bool a14) (.d _)) .nil))) rfl) eC) (.tup .nil)
  ·
   try have hqk := hpr _ (getD_mem (l := pr) (j := k) (d := default) (by omega))
   try have hok := hon _ (getD_mem (l := on) (j := 0) (d := default) (by omega))
   refine Tk (Ts hc (Ch.s (.ptr 1 0) pm (Ch.s (.ptr 1 0) (.pure (.nilPtr _ rfl rfl)) (Ch.s (.ptr 1 0) (fP fld183_0 rfl) (Ch.s (.d (.hole u)) (lP ag23 rfl rfl rfl) ?_)))))
   refine Ch.see 47 900001 rfl rfl rfl ?_
   refine Ch.s (dI (pr.length : Int)) (.pure (.len _ _ 9 rfl Tryz.underlying23 (.sh _ _) (by simp))) (Ch.s (dI 0) pm (Ch.nil (Tb ?_)))
   refine T_loop (ι := Nat) (fun k => { n := 77, sl := [(0, (.ptr 1 0)), (1, (.d (.slice false 1 (on.map D.str)))), (2, (.d (.slice false 1 (l.map D.str)))), (3, (dI z)), (47, (.d (.slice false 1 (pr.map D.str)))), (48, (dI (pr.length : Int))), (49, (dI (k : Int)))], hp := [(1, (some (.box [(.d (.hole u)), (.row 7700), (dB ((chTo pr (m - 1) on l p k).2))]))), (7700, (some (.row 1 (((chTo pr (m - 1) on l p k).1).map D.str)))), (900001, (some (.ghost (.slice false 1 (pr.map D.str)) u)))], pin := [1] }) (fun k => k ≤ pr.length) (fun k => pr.length - k) ⟨0, (by omega), (Wk.ren [(7700, 8000010)] rfl rfl rfl rfl (ar (ar (ar (ar (ar (ar (ai (vI a126) trivial))))))) (ai (oB (Eq.trans (b := [(.d (.hole u)), (.row 8000010), (dB (p.2))]) rfl a13)) (ai (oR a34) (ar trivial))))⟩ (fun k hp0 => ?_)
   have hpk := chTo_ok hpr (m := m - 1) (on := on) (l := l) (p := p) (N := 7) (by omega) hl hp k hp0
   refine Ts hc (Ch.s (dB (decide ((k : Int) < (pr.length : Int)))) (iX rfl rfl rfl) (Ch.nil (Tq ?_)))
   refine T_condD (p := ((k : Int) < (pr.length : Int))) rfl (fun h6 => ?_) (fun h6 => ?_)
   ·
    try have hqk := hpr _ (getD_mem (l := pr) (j := k) (d := default) (by omega))
    try have hok := hon _ (getD_mem (l := on) (j := 0) (d := default) (by omega))
    refine Tk (Tq (Tb (Ts hc (Ch.s (.d (.ref (.str (pr.getD k default)))) (.pure (.idx _ _ _ 9 (k) rfl Tryz.underlying23 sz9 rfl rfl rfl get_mapA)) (Ch.s (dS (pr.getD k default)) (rF ag9 rfl rfl) (Ch.s (.ptr 10000 0) (.alloc 10000 _ rfl zer9) ?_))))))
    refine Ch.s .junk (.storePtr _ _ _ rfl rfl rfl (.one _ rfl) sz9 (lb rfl)) (Ch.nil (Tq ?_))
    refine T_regionD hc (by kernel_rfl) ?_
    refine ChD.s (dS (pr.getD k default)) [10000] (lP ag9 rfl rfl rfl) (ChD.s (.d (.slice false 1 (on.map D.str))) [] pm (ChD.s (.d (.ref (.str (on.getD 0 default)))) [] (.pure (.idx _ _ _ 9 (0) rfl Tryz.underlying23 sz9 rfl rfl rfl get_mapA)) (ChD.s (dS (on.getD 0 default)) [] (rF ag9 rfl rfl) (ChD.s (dB (hasB (pr.getD k default) (on.getD 0 default))) [] (.call 57000 198 _ _ _ en198 rfl (.inl rfl) (.cons (.d _) (.cons (.d _) .nil)) rfl rfl (sp_impl_contains (pr.getD k default) (on.getD 0 default) a26 a26) (.skip _ _ (.skip _ _ .nil)) rfl) ?_))))
    refine ChD.nil (And.intro ?_ (by kernel_rfl))
    refine T_cond (b := (hasB (pr.getD k default) (on.getD 0 default))) rfl (fun h7 => ?_) (fun h7 => ?_)
    ·
     try have hqk := hpr _ (getD_mem (l := pr) (j := k) (d := default) (by omega))
     try have hok := hon _ (getD_mem (l := on) (j := 0) (d := default) (by omega))
     refine Ts hc (Ch.s (.d (.slice false 1 (on.map D.str))) pm ?_)
     refine Ch.step (v := (.row 59000)) rfl (.call 59000 227 _ _ _ en227 rfl (.inl rfl) (.cons (.d _) .nil) rfl (sol (solid_row (fun _ => rfl) _) rfl) (sp_Clone_str on a26) (.skip _ _ .nil) rfl) rfl rfl ?_
     refine Ch.s (.fn 229 [(.ptr 10000 0)]) (.pure (.func _ _ rfl rfl)) ?_
     refine Ch.step (v := (.row 61000)) rfl (.call 61000 223 _ _ _ en223 rfl (.inl rfl) (.cons (.row rfl) (.cons (.lend (.fn (.cons (.ptr rfl (.one (.d _) rfl)) .nil))) .nil)) rfl (sol (solid_row (fun _ => rfl) _) rfl) (sp_DeleteFunc_str on 229 [(.ref (.str (pr.getD k default)))] (hasB (pr.getD k default)) en229 (fun v hv => sp_choose_1 v (pr.getD k default) (by omega) (by have := hon v hv; omega)) a26) (.skip _ _ (.skip _ _ .nil)) rfl) rfl rfl ?_
     refine Ch.s (.row 61000) pa (Ch.nil ?_)
     refine T_regionD hc (by kernel_rfl) ?_
     refine ChD.s (.ptr 1 0) [] pm (ChD.s (.row 61000) [] pm (ChD.s (.d (.slice false 1 (l.map D.str))) [] pm (ChD.s (.d (.slice false 1 (l.map D.str))) [] pm (ChD.s (dI (l.length : Int)) [] (.pure (.len _ _ 9 rfl Tryz.underlying23 (.sh _ _) (by simp))) (ChD.s (.d (.slice false 1 (l.map D.str))) [] pm (ChD.s (dI (l.length : Int)) [] (.pure (.len _ _ 9 rfl Tryz.underlying23 (.sh _ _) (by simp))) (ChD.s (.tight 1 (l.map D.str)) [] (tightA 9 Tryz.underlying23 sz9 (.inl rfl) ⟨_, rfl, (bndS rfl rfl)⟩ (bndS rfl rfl) (by simp)) ?_)))))))
     refine ChD.s (dS (pr.getD k default)) [10000] (lP ag9 rfl rfl rfl) (ChD.s (.row 71000) [] (.slice 71000 _ 9 _ rfl sty23 (xs := [.tmp 70]) rfl rfl (.cons (.d _) .nil) rfl rfl (by decide)) (ChD.s (.row 72000) [71000] (.appendT 72000 _ _ _ 9 rfl sty23 (by decide) rfl (.row rfl rfl) (by simp) a52) (ChD.s (dI z) [] pm (ChD.s (dI (z - 1)) [] (iX rfl rfl intV_subA) (ChD.s (.tup []) [1, 7700, 61000, 72000, 900001] (.callG (ms := [900001]) 75000 176 _ _ _ en176 rfl (.inl rfl) (.cons (.box rfl (.cons (.d _) (.cons (.row rfl) (.cons (.d _) .nil))) rfl) (.cons (.lend (.row rfl (frozs_map (fun _ => rfl) _))) (.cons (.lend (.row rfl (snocS _ _))) (.cons (.d _) .nil)))) rfl (sol rfl (solids_c a100 rfl)) (ih (m - 1) (z - 1) (on.filter (fun u => !(hasB (pr.getD k default)) u)) (l ++ [(pr.getD k default)]) (chTo pr (m - 1) on l p k) (by omega) (by omega) (fun c hc => hon c (List.mem_filter.1 hc).1) (Nat.le_trans (List.length_filter_le _ _) honl) (snoc_all hl (hpr _ (getD_mem (by omega)))) a125 hpk) ⟨rfl, trivial⟩ (.box _ _ (.skip _ _ (.skip _ _ (.skip _ _ .nil)))) rfl) ?_)))))
     refine ChD.nil (And.intro ?_ (by kernel_rfl))
     refine T_open 1 8000030 rfl rfl rfl ?_
     refine Tz hc (Ch.s (dI ((k : Int) + 1)) (iX rfl rfl intV_addA) (Ch.s (dI ((k : Int) + 1)) pm (Ch.nil ?_)))
     exact nx (k + 1) (by omega) (Wk.ren [(7700, 8000030)] rfl rfl rfl rfl (ar (ar (ar (ar (ar (ar (ai (vI a126) trivial))))))) (ai (oB (Eq.trans (b := [(.d (.hole u)), (.row 8000030), (dB ((chF pr (m - 1) (on.filter (fun u => !(hasB (pr.getD k default)) u)) (l ++ [(pr.getD k default)]) (chTo pr (m - 1) on l p k)).2))]) rfl a13)) (ai (oR a34) (ar trivial))))
    ·
     try have hqk := hpr _ (getD_mem (l := pr) (j := k) (d := default) (by omega))
     try have hok := hon _ (getD_mem (l := on) (j := 0) (d := default) (by omega))
     refine Tk (Tz hc (Ch.s (dI ((k : Int) + 1)) (iX rfl rfl intV_addA) (Ch.s (dI ((k : Int) + 1)) pm (Ch.nil ?_))))
     exact nx (k + 1) (by omega) (Wk.of rfl rfl (ar (ar (ar (ar (ar (ar (ai (vI a126) trivial))))))) (ai (oB (Eq.trans (b := [(.d (.hole u)), (.row 7700), (dB ((chTo pr (m - 1) on l p k).2))]) rfl a13)) (ai (oR a34) (ar trivial))))
   ·
    try have hqk := hpr _ (getD_mem (l := pr) (j := k) (d := default) (by omega))
    try have hok := hon _ (getD_mem (l := on) (j := 0) (d := default) (by omega))
    refine T_exit ?_
    exact endN [] [1, 7700] [] .nil (.cons (.box rfl (.cons (.d _) (.cons (Exp.of (congrArg (D.slice true 1) a14) (.row rfl)) (.cons (Exp.of (congrArg D.bool a14) (.d _)) .nil))) rfl) eC) (.tup .nil) rfl rfl

theorem sp_choose (u : Value) (pr : List (List UInt8)) (n : Nat) (hn6 : n ≤ 8) (hpr : ∀ q ∈ pr, q.length = n) (hprl : pr.length ≤ 1048576) : ∀ (m : Nat) (z : Int) (on l : List (List UInt8)) (p : (List (List UInt8) × Bool)), z = (m : Int) → (∀ c ∈ on, c.length = n) → on.length ≤ 1048576 → (∀ q ∈ l, q.length = n) → l.length + m ≤ 7 → POk n 7 p → SpQ (fun S w _ => DRs S w [.slice false 1 (pr.map D.str)] [u] []) Tryz.prog 176 [(.box [(.hole u), (.slice true 1 (p.1.map D.str)), (.bool (p.2))]), .slice false 1 (on.map D.str), .slice false 1 (l.map D.str), .int .i64 z] [(.box [(.hole u), (.slice true 1 (((chF pr m on l p).1).map D.str)), (.bool ((chF pr m on l p).2))]), .any, .any, .any] (.tup []) := by
 intro m
 induction m with
 | zero => intro z on l p hz a b c d e; exact sp_choose_step u pr n 0 z on l p hz hn6 hpr hprl a b c d e (fun j _ _ _ _ h => by omega)
 | succ m ih =>
  intro z on l p hz a b c d e
  exact sp_choose_step u pr n (m + 1) z on l p hz hn6 hpr hprl a b c d e (fun j z2 on2 l2 p2 h hz2 a2 b2 c2 d2 e2 => by
   have e1 : j = m := by omega
   subst e1
   exact ih z2 on2 l2 p2 hz2 a2 b2 c2 d2 e2)

theorem name_R {c : Ctx} {α : St} {a : Act} {w : World} (s m : Nat) {d : D} (hs : α.get s = .d d) (h1 : d.one = true) (hsn : Nat.blt s α.n = true) (hf : freshB [m] α = true) (hR : R c α a w) : ∃ u, R c ((α.ghosted m d u).put (some s) (.d (.hole u))) a w := by
 obtain ⟨β, φ, H⟩ := hR
 have hv := H.slots s
 rw [hs, VR] at hv
 obtain ⟨φ', H', _⟩ := ghost_Rel m (freshB_spec hf m (by simp)) hv H
 have hlt : s < a.tmps.size := by rw [H.size]; exact Nat.le_of_ble_eq_true hsn
 have h2 := H'.pure (some s) (fun d hd => by cases hd; exact Nat.le_of_ble_eq_true hsn) (.d (.hole (a.tmps.getD s undef))) (a.tmps.getD s undef) (by rw [VR, DR]; exact ⟨⟨rfl, cells_of_one h1 hv⟩, rfl⟩)
 have e : a.put (some s) (a.tmps.getD s undef) = a := by
  unfold Act.put
  cases a with
  | mk tmps defers =>
   simp only [Act.mk.injEq, and_true]
   exact set_same hlt
 rw [e] at h2
 exact ⟨_, β, φ', h2⟩

theorem ch_name {P : Program} {all : Array Oper} {K : St → Prop} {l : List Oper} {α : St} (s m : Nat) {d : D} (hs : α.get s = .d d) (h1 : d.one = true) (hsn : Nat.blt s α.n = true) (hf : freshB [m] α = true) (h : ∀ u, Ch P all K l ((α.ghosted m d u).put (some s) (.d (.hole u)))) : Ch P all K l α :=
 .ghost (ι := Value) (fun u => (α.ghosted m d u).put (some s) (.d (.hole u))) (fun _ _ _ hR => name_R s m hs h1 hsn hf hR) h

def minI (n : Nat) (on off : List (List UInt8)) : (List (List UInt8) × Bool) := if decide (((primL n on off).length : Int) ≤ 60) then minF (primL n on off) on else ([], false)

set_option maxHeartbeats 1000000 in
theorem sp_impl_minimum (n : Int) (on off : List (List UInt8)) (h0 : 0 ≤ n) (h8 : n ≤ 8) (hn1 : on.length ≤ 1048576) (hn2 : off.length ≤ 1048576) (ho1 : ∀ u ∈ on, (u.length : Int) = n) (ho2 : ∀ u ∈ off, (u.length : Int) = n) : Sp Tryz.prog 104 [(.int .i64 n), (.slice false 1 (on.map D.str)), (.slice false 1 (off.map D.str))] [.any, .any, .any] (.tup [(.slice true 1 (((minI n.toNat on off).1).map D.str)), (.bool ((minI n.toNat on off).2))]) := by
 refine Sp_intro (lend := true) Tryz.func104 rfl rfl rfl (fun _ => rfl) (fun c hc hX => ?_)
 have hon : ∀ c ∈ on, c.length = n.toNat := fun c hc => (by have := ho1 c hc; omega)
 have hpl := primL_le n.toNat on off
 have hp3 : 3 ^ n.toNat ≤ 3 ^ 8 := Nat.pow_le_pow_right (by omega) (by omega)
 have hpl2 : (primL n.toNat on off).length ≤ 1048576 := (by omega)
 have hp7 : POk n.toNat 7 ([], false) := ⟨by simp, fun q hq => by cases hq⟩
 refine Ts hc (Ch.s (.c (.slice none 0 0)) pa (Ch.s (dB false) pa (Ch.nil (Ts hc (Ch.s (dI n) pm ?_)))))
 refine Ch.s (.d (.slice false 1 (on.map D.str))) pm (Ch.s (.d (.slice false 1 (off.map D.str))) pm (Ch.s (.tup [(.d (.slice false 1 ((primL n.toNat on off).map D.str))), (dB (decide (((primL n.toNat on off).length : Int) ≤ 60)))]) (.callFz 16000 175 _ _ _ en175 rfl (.inl rfl) (.cons (.d _) (.cons (.d _) (.cons (.d _) .nil))) a115 (sp_impl_primes n on off (by assumption) (by assumption) (by assumption) (by assumption) (by assumption) (by assumption)) (tup_froz (froz_c (slice_froz (frozs_map (fun _ => rfl) _)) rfl)) rfl) (Ch.s (.tup [(.d (.slice false 1 ((primL n.toNat on off).map D.str))), (dB (decide (((primL n.toNat on off).length : Int) ≤ 60)))]) pm (Ch.s (.d (.slice false 1 ((primL n.toNat on off).map D.str))) (xT rfl rfl) (Ch.s (dB (decide (((primL n.toNat on off).length : Int) ≤ 60))) (xT rfl rfl) (Ch.s (.d (.slice false 1 ((primL n.toNat on off).map D.str))) pa (Ch.s (dB (decide (((primL n.toNat on off).length : Int) ≤ 60))) pa ?_)))))))
 refine Ch.nil (Tq (Ts hc (Ch.s (dB (decide (((primL n.toNat on off).length : Int) ≤ 60))) pm (Ch.s (dB (!(decide (((primL n.toNat on off).length : Int) ≤ 60)))) (nT rfl) (Ch.nil ?_)))))
 refine T_condN (b := (decide (((primL n.toNat on off).length : Int) ≤ 60))) rfl (fun h1 => ?_) (fun h1 => ?_)
 ·
  replace h1 := odf h1
  refine Ts hc (Ch.s (.c (.slice none 0 0)) pa (Ch.s (dB false) pa (Ch.nil (T_ret ?_))))
  exact eR [(.c (.slice none 0 0)), (dB false)] [] [] (.cons (.tmp 6 rfl) (.cons (.tmp 7 rfl) .nil)) eC (.tup (.cons (Exp.of (congrArg (D.slice true 1) a29) (.nil true 1)) (.cons (Exp.of (congrArg D.bool a29) (.d _)) .nil)))
 ·
  replace h1 := odt h1
  refine Tk (Tq (Ts hc (Ch.s (dI 0) pm (Ch.nil (Tb ?_)))))
  refine T_loop (ι := Nat) (fun m => { n := 40, sl := [(1, (.d (.slice false 1 (on.map D.str)))), (8, (.d (.slice false 1 ((primL n.toNat on off).map D.str)))), (21, (dI (m : Int)))], hp := [], pin := [] }) (fun m => m ≤ 7 ∧ ∀ j, j < m → (rndI (primL n.toNat on off) on j).2 = false) (fun m => 7 - m) ⟨0, ⟨by omega, fun j hj => by omega⟩, (Wk.of rfl rfl (ar (ar (ai (vI a126) trivial))) trivial)⟩ (fun m hp0 => ?_)
  refine Ts hc (Ch.s (dB (decide ((m : Int) < 7))) (iX rfl rfl rfl) (Ch.nil (Tq ?_)))
  refine T_condD (p := ((m : Int) < 7)) rfl (fun h2 => ?_) (fun h2 => ?_)
  ·
   refine Tk (Tq (Tb (Ts hc (Ch.s (dI (m : Int)) pm (Ch.s (dI (m : Int)) pa (Ch.nil ?_))))))
   refine Ts hc (Ch.s (.d (.slice false 1 ((primL n.toNat on off).map D.str))) pm ?_)
   refine ch_name 24 900101 rfl rfl rfl rfl (fun g1 => ?_)
   refine Ch.s (.agg [(.d (.hole g1)), (.c (.slice none 0 0)), (dB false)]) (.build _ _ rfl stru183 (.cons (.one _ rfl) .nil) rfl) (Ch.s (.ptr 26000 0) (.box 26000 _ _ rfl (.agg _ rfl)) (Ch.s (.ptr 26000 0) pa (Ch.nil (Ts hc (Ch.s (.ptr 26000 0) pm (Ch.s (.d (.slice false 1 (on.map D.str))) pm ?_))))))
   refine Ch.s (dI (m : Int)) pm ?_
   refine Ch.step (v := (.tup [])) rfl (.callG (ms := [900101]) 30000 176 _ _ _ en176 rfl (.inl rfl) (.cons (.box rfl (.cons (.d _) (.cons (.nil true 1) (.cons (.d _) .nil))) rfl) (.cons (.d _) (.cons (.lend (.nil false 1)) (.cons (.d _) .nil)))) rfl (sol rfl (solids_c a100 rfl)) (sp_choose g1 (primL n.toNat on off) n.toNat (by omega) primL_mem hpl2 m (m : Int) on [] ([], false) rfl hon (by assumption) (fun q hq => by cases hq) (by simp; omega) hp7) ⟨rfl, trivial⟩ (.box _ _ (.skip _ _ (.skip _ _ (.skip _ _ .nil)))) rfl) rfl rfl ?_
   refine Ch.opens 26000 8000010 rfl rfl rfl ?_
   refine Ch.nil (Ts hc (Ch.s (.ptr 26000 0) pm (Ch.s (.ptr 26000 0) (.pure (.nilPtr _ rfl rfl)) (Ch.s (.ptr 26000 2) (fP fld183_2 rfl) (Ch.s (dB ((rndI (primL n.toNat on off) on m).2)) (lP ag4 rfl rfl rfl) (Ch.nil ?_))))))
   refine T_cond (b := ((rndI (primL n.toNat on off) on m).2)) rfl (fun h3 => ?_) (fun h3 => ?_)
   ·
    refine Ts hc (Ch.s (.ptr 26000 0) pm (Ch.s (.ptr 26000 0) (.pure (.nilPtr _ rfl rfl)) (Ch.s (.ptr 26000 1) (fP fld183_1 rfl) (Ch.s (.row 8000010) (lP ag23 rfl rfl rfl) (Ch.s (.row 8000010) pa (Ch.s (dB true) pa ?_))))))
    refine Ch.nil (T_ret ?_)
    exact eR [(.row 8000010), (dB true)] [] [8000010] (.cons (.tmp 6 rfl) (.cons (.tmp 7 rfl) .nil)) eC (.tup (.cons (Exp.of (congrArg (D.slice true 1) a29) (.row rfl)) (.cons (Exp.of (congrArg D.bool a29) (.d _)) .nil)))
   ·
    refine Tk (Tz hc (Ch.s (dI ((m : Int) + 1)) (iX rfl rfl intV_addA) (Ch.s (dI ((m : Int) + 1)) pm (Ch.nil ?_))))
    exact nx (m + 1) ⟨by omega, upto_succ hp0.2 (by assumption)⟩ (Wk.of rfl rfl (ar (ar (ai (vI a126) trivial))) trivial)
  ·
   refine T_exit (Ts hc (Ch.s (.c (.slice none 0 0)) pa (Ch.s (dB false) pa (Ch.nil (T_ret ?_)))))
   exact eR [(.c (.slice none 0 0)), (dB false)] [] [] (.cons (.tmp 6 rfl) (.cons (.tmp 7 rfl) .nil)) eC (.tup (.cons (Exp.of (congrArg (D.slice true 1) a29) (.nil true 1)) (.cons (Exp.of (congrArg D.bool a29) (.d _)) .nil)))

def srT (pr on : List (List UInt8)) (m : Nat) (t : List (List UInt8)) (p : List (List UInt8) × Bool) (v : Nat) : List (List UInt8) × Bool := if m = 0 then p else srTo pr on (m - 1) t p v

theorem srT_zero {pr on : List (List UInt8)} {m : Nat} {t : List (List UInt8)} {p : List (List UInt8) × Bool} : srT pr on m t p 0 = p := by
  unfold srT; split
  · rfl
  · rfl

theorem srT_yes {pr on : List (List UInt8)} {m : Nat} {t : List (List UInt8)} {p : List (List UInt8) × Bool} {v : Nat} {c : List UInt8} (h : v < pr.length) (hm : ¬ m = 0) (hc : (unc on t).getD 0 default = c) (hb : hasB (pr.getD v default) c = true) : srF pr on (m - 1) (put14 t (pr.getD v default)) (srT pr on m t p v) = srT pr on m t p (v + 1) := by
 unfold srT
 rw [if_neg hm, if_neg hm, srTo_succ h, hc, if_pos hb]

theorem srT_no1 {pr on : List (List UInt8)} {m : Nat} {t : List (List UInt8)} {p : List (List UInt8) × Bool} {v : Nat} (hm : m = 0) : srT pr on m t p v = srT pr on m t p (v + 1) := by
 unfold srT
 rw [if_pos hm, if_pos hm]

theorem srT_no2 {pr on : List (List UInt8)} {m : Nat} {t : List (List UInt8)} {p : List (List UInt8) × Bool} {v : Nat} {c : List UInt8} (h : v < pr.length) (hc : (unc on t).getD 0 default = c) (hb : hasB (pr.getD v default) c = false) : srT pr on m t p v = srT pr on m t p (v + 1) := by
  unfold srT
  split
  · rfl
  · rw [srTo_succ h, hc, hb]; rfl

theorem srF_all {pr on : List (List UInt8)} {m : Nat} {t : List (List UInt8)} {p : List (List UInt8) × Bool} {v : Nat} (h : ¬ unc on t = []) (hv : pr.length ≤ v) : srF pr on m t p = srT pr on m t p v := by
 cases m with
 | zero => rw [srF_zero h]; rfl
 | succ m => rw [srF_next h hv]; rfl

theorem unc_nil_of {on t : List (List UInt8)} {k : Nat} (h : ∀ j, j < k → inB t (on.getD j default) = true) (hk : on.length ≤ k) : unc on t = [] := by
 unfold unc
 rw [List.filter_eq_nil_iff]
 intro c hc
 obtain ⟨j, hj, e⟩ := List.mem_iff_getElem.1 hc
 have := h j (by omega)
 rw [show on.getD j default = c from by simp [hj, e]] at this
 simp [this]

theorem unc_head {on t : List (List UInt8)} {k : Nat} (h : ∀ j, j < k → inB t (on.getD j default) = true) (hk : k < on.length) (hb : inB t (on.getD k default) = false) : (unc on t).getD 0 default = on.getD k default ∧ ¬ unc on t = [] := by
 have h1 : unc (on.take k) t = [] := unc_nil_of (k := k) (fun j hj => by
  have := h j hj
  rw [show (on.take k).getD j default = on.getD j default from by simp [hj]]
  exact this) (by rw [List.length_take]; omega)
 have hg : on.getD k default = on[k] := by simp [hk]
 have h2 : unc on t = on.getD k default :: unc (on.drop (k + 1)) t := by
  have e : on = on.take k ++ on[k] :: on.drop (k + 1) := by rw [← List.drop_eq_getElem_cons hk, List.take_append_drop]
  have e2 : unc on t = unc (on.take k) t ++ unc (on[k] :: on.drop (k + 1)) t := by
   unfold unc
   rw [← List.filter_append, ← e]
  rw [e2, h1, List.nil_append, hg]
  unfold unc
  rw [List.filter_cons_of_pos (by rw [← hg, hb]; rfl)]
 rw [h2]
 exact ⟨rfl, by simp⟩

theorem lexB_next {l m : List (List UInt8)} {k : Nat} (h1 : k < l.length) (h2 : k < m.length) : lexB (l.drop k) (m.drop k) = if l.getD k default = m.getD k default then lexB (l.drop (k + 1)) (m.drop (k + 1)) else Op.bytesLess (l.getD k default) (m.getD k default) := by
 rw [List.drop_eq_getElem_cons h1, List.drop_eq_getElem_cons h2, lexB]
 simp [h1, h2]

theorem lexB_end {l m : List (List UInt8)} {k : Nat} (h1 : l.length ≤ k) : lexB (l.drop k) m = false := by
 rw [List.drop_of_length_le h1]; unfold lexB; rfl

theorem betB_eq {t l : List (List UInt8)} {f : Bool} : betB t (l, f) = (!f || (decide ((lits t : Int) < (lits l : Int)) || (decide ((lits t : Int) = (lits l : Int)) && lexB t l))) := by
 unfold betB
 rw [show decide ((lits t : Int) < (lits l : Int)) = decide (lits t < lits l) from decide_eq_decide.2 (by omega), show decide ((lits t : Int) = (lits l : Int)) = decide (lits t = lits l) from decide_eq_decide.2 (by omega)]

theorem put14_all {l : List (List UInt8)} {q : List UInt8} {n : Nat} (h : ∀ a ∈ l, a.length = n) (hq : q.length = n) : ∀ a ∈ put14 l q, a.length = n := fun a ha => by
  rcases put14_mem.1 ha with ha | ha
  · exact h a ha
  · rw [ha]; exact hq

theorem srF_ok {pr on : List (List UInt8)} {n N : Nat} (hpr : ∀ q ∈ pr, q.length = n) : ∀ (m : Nat) (t : List (List UInt8)) (p : List (List UInt8) × Bool), t.length + m ≤ N → (∀ q ∈ t, q.length = n) → POk n N p → POk n N (srF pr on m t p) := by
  have hend : ∀ (t : List (List UInt8)) (p : List (List UInt8) × Bool), t.length ≤ N → (∀ q ∈ t, q.length = n) → POk n N p → POk n N (endS t p) := by
    intro t p h1 h2 h3
    unfold endS
    split
    · exact ⟨h1, h2⟩
    · exact h3
  intro m
  induction m with
  | zero =>
    intro t p h1 h2 h3
    rw [srF]
    split
    · exact hend _ _ (by omega) h2 h3
    · exact h3
  | succ m ih =>
    intro t p h1 h2 h3
    rw [srF]
    split
    · exact hend _ _ (by omega) h2 h3
    · refine fold_ok (Q := POk n N) h3 fun p q hq hp => ?_
      split
      · exact ih _ _ (by rw [put14_len]; omega) (put14_all h2 (hpr q hq)) hp
      · exact hp

theorem srT_ok {pr on : List (List UInt8)} {n N m : Nat} {t : List (List UInt8)} {p : List (List UInt8) × Bool} (hpr : ∀ q ∈ pr, q.length = n) (h1 : t.length + m ≤ N) (h2 : ∀ q ∈ t, q.length = n) (h3 : POk n N p) (k : Nat) (hk : k ≤ pr.length) : POk n N (srT pr on m t p k) := by
  unfold srT
  split
  · exact h3
  · unfold srTo
    refine fold_ok (Q := POk n N) h3 fun p q hq hp => ?_
    split
    · exact srF_ok hpr _ _ _ (by rw [put14_len]; omega) (put14_all h2 (hpr q (List.mem_of_mem_take hq))) hp
    · exact hp

theorem srT_bok {pr on : List (List UInt8)} {N m : Nat} {t : List (List UInt8)} {p : List (List UInt8) × Bool} (h1 : t.length + m = N) (h2 : noShort pr on m t) (h3 : BOk N p) (k : Nat) : BOk N (srT pr on m t p k) := by
  unfold srT
  split
  · exact h3
  · obtain ⟨q, rfl⟩ : ∃ q, m = q + 1 := ⟨m - 1, by omega⟩
    unfold srTo
    refine fold_ok (Q := BOk N) h3 fun p c hq hp => ?_
    split
    · rename_i hb
      exact srF_bok _ _ _ (by rw [put14_len, Nat.add_sub_cancel]; omega) (ns_step h2 (List.mem_of_mem_take hq) hb) hp
    · exact hp

theorem ns_at {pr on : List (List UInt8)} {m : Nat} {t : List (List UInt8)} {q c : List UInt8} (hm : ¬ m = 0) (h : noShort pr on m t) (hq : q ∈ pr) (hc : (unc on t).getD 0 default = c) (hb : hasB q c = true) : noShort pr on (m - 1) (put14 t q) := by
 obtain ⟨j, rfl⟩ : ∃ j, m = j + 1 := ⟨m - 1, by omega⟩
 exact ns_step h hq (by rw [hc]; exact hb)

theorem ns_end {pr on : List (List UInt8)} {m : Nat} {t : List (List UInt8)} (h : noShort pr on m t) (e : unc on t = []) : m = 0 := by
 cases m with
 | zero => rfl
 | succ m => exact absurd e (ns_not h)

theorem srF_fin {pr on : List (List UInt8)} {m : Nat} {t : List (List UInt8)} {p : List (List UInt8) × Bool} (e : unc on t = []) : srF pr on m t p = endS t p := srF_end m e

theorem endS_yes {t : List (List UInt8)} {p : List (List UInt8) × Bool} (h : betB t (p.1, p.2) = true) : endS t p = (t, true) := by
 unfold endS; rw [if_pos (show betB t p = true from h)]

theorem endS_no {t : List (List UInt8)} {p : List (List UInt8) × Bool} (h : betB t (p.1, p.2) = false) : endS t p = p := by
 unfold endS; rw [if_neg (by rw [show betB t p = false from h]; simp)]

theorem rndI_of {pr on : List (List UInt8)} {m : Nat} (h : ∀ j, j < m → (rndS pr on j).2 = false) : ∀ j, j < m → (rndI pr on j).2 = false := fun j hj => by
 rw [rnd_eq (fun i hi => h i (by omega))]; exact h j hj

theorem minS_yes {pr on : List (List UInt8)} {m : Nat} (hm : m < 7) (h : ∀ j, j < m → (rndS pr on j).2 = false) (h2 : (rndS pr on m).2 = true) : minF pr on = ((rndS pr on m).1, true) := by
 have e := rnd_eq h
 rw [min_yes hm (rndI_of h) (by rw [e]; exact h2), e]

theorem minS_no {pr on : List (List UInt8)} (h : ∀ j, j < 7 → (rndS pr on j).2 = false) : minF pr on = ([], false) := min_no (rndI_of h)

theorem lst_ok {f : Nat → List (List UInt8) × Bool} {n N : Nat} (h : ∀ j, j < 7 → POk n N (f j)) : ∀ k j, j + k ≤ 7 → POk n N (lstF f k j)
  | 0, j, _ => ⟨Nat.zero_le _, fun q hq => by cases hq⟩
  | k + 1, j, hj => by
    rw [lstF]
    split
    · exact ⟨(h j (by omega)).len, (h j (by omega)).all⟩
    · exact lst_ok h k (j + 1) (by omega)

theorem minF_ok {pr on : List (List UInt8)} {n : Nat} (hpr : ∀ q ∈ pr, q.length = n) : POk n 7 (minF pr on) := by
 unfold minF
 exact lst_ok (fun j hj => chF_ok hpr j on [] ([], false) (by simp; omega) (fun q hq => by cases hq) ⟨Nat.zero_le _, fun q hq => by cases hq⟩) 7 0 (by omega)

def mcvF (n : Int) (on off : List (List UInt8)) : List (List UInt8) × Bool := if primOk n on off then minF (primL n.toNat on off) on else ([], false)

theorem mcvF_len (n : Int) (on off : List (List UInt8)) : (mcvF n on off).1.length ≤ 7 := by
  unfold mcvF
  split
  · exact (minF_ok primL_mem).len
  · exact Nat.zero_le _

theorem mcvF_no0 {n : Int} {on off : List (List UInt8)} (h : onoffB n on off = false) : mcvF n on off = ([], false) := by rw [mcvF, primOk, h]; rfl

theorem mcvF_no {n : Int} {on off : List (List UInt8)} (h : primOk n on off = false) : mcvF n on off = ([], false) := by rw [mcvF, h]; rfl

theorem mcvF_yes {n : Int} {on off : List (List UInt8)} (h : primOk n on off = true) : mcvF n on off = minF (primL n.toNat on off) on := by rw [mcvF, h]; rfl

theorem mcvF_min {n : Int} {on off : List (List UInt8)} (h : onoffB n on off = true) : mcvF n on off = minI n.toNat on off := by
 unfold mcvF minI primOk
 rw [h, Bool.true_and]

theorem primOk_on {n : Int} {on off : List (List UInt8)} (h : primOk n on off = true) : onoffB n on off = true := by
 unfold primOk at h; rw [Bool.and_eq_true] at h; exact h.1

theorem sp_better (u v : Value) (l t : List (List UInt8)) (f : Bool) (hl : bulkS l ≤ 1048576) (ht : bulkS t ≤ 1048576) (hf : f = true → l.length = t.length) : Sp Tryz.prog 255 [(.box [(.hole u), (.hole v), (.slice true 1 (l.map D.str)), (.bool (f))]), (.slice false 1 (t.map D.str))] [(.box [(.hole u), (.hole v), (.slice true 1 (l.map D.str)), (.bool (f))]), .any] (.bool (betB t (l, f))) := by
 refine Sp_intro (lend := false) Tryz.func255 rfl rfl rfl (fun h => nomatch h) (fun c hc hX => ?_)
 refine T_open 1 8000010 rfl rfl rfl ?_
 have hn := bulk_len hl; have hm := bulk_len ht
 refine Ts hc (Ch.s (dB false) pa (Ch.nil (Tq ?_)))
 refine T_regionD hc (by kernel_rfl) ?_
 refine ChD.s (.d (.slice false 1 (t.map D.str))) [] pm (ChD.s (dI (lits t : Int)) [] (.call 9000 200 _ _ _ en200 rfl (.inl rfl) (.cons (.d _) .nil) rfl rfl (sp_spec_l14Literals t a26) (.skip _ _ .nil) rfl) (ChD.s (.ptr 1 0) [] pm (ChD.s (.ptr 1 0) [] (.pure (.nilPtr _ rfl rfl)) (ChD.s (.ptr 1 2) [] (fP fld207_2 rfl) (ChD.s (.row 8000010) [1] (lP ag23 rfl rfl rfl) (ChD.s (dI (lits l : Int)) [8000010] (.call 14000 200 _ _ _ en200 rfl (.inl rfl) (.cons (.lend (.row rfl (frozs_map (fun _ => rfl) _))) .nil) rfl rfl (sp_spec_l14Literals l a26) (.skip _ _ .nil) rfl) (ChD.s (dI (lits t : Int)) [] pa ?_)))))))
 refine ChD.s (dI (lits l : Int)) [] pa ?_
 refine ChD.nil (And.intro ?_ (by kernel_rfl))
 refine Tq (Ts hc (Ch.s (.ptr 1 0) pm (Ch.s (.ptr 1 0) (.pure (.nilPtr _ rfl rfl)) (Ch.s (.ptr 1 3) (fP fld207_3 rfl) (Ch.s (dB (f)) (lP ag4 rfl rfl rfl) (Ch.s (dB (!(f))) (nT rfl) ?_))))))
 refine Ch.s (dB (!(f))) pm ?_
 cases h1 : (f) with
 | true =>
  refine Ch.s (dI (lits t : Int)) pm (Ch.s (dI (lits l : Int)) pm (Ch.s (dB (!(decide ((lits t : Int) = (lits l : Int))))) (iX rfl rfl rfl) (Ch.s (dB (!(decide ((lits t : Int) = (lits l : Int))))) (pF rfl) (Ch.nil ?_))))
  refine T_condN (b := (decide ((lits t : Int) = (lits l : Int)))) rfl (fun h2 => ?_) (fun h2 => ?_)
  ·
   replace h2 := odf h2
   refine Ts hc (Ch.s (.ptr 1 0) pm (Ch.s (.ptr 1 0) (.pure (.nilPtr _ rfl rfl)) (Ch.s (.ptr 1 3) (fP fld207_3 rfl) (Ch.s (dB true) (lP ag4 rfl rfl rfl) (Ch.s (dB false) (.pure (.not (b := true) _ _ rfl rfl)) (Ch.s (dB false) pm ?_))))))
   refine Ch.s (dI (lits t : Int)) pm (Ch.s (dI (lits l : Int)) pm (Ch.s (dB (decide ((lits t : Int) < (lits l : Int)))) (iX rfl rfl rfl) (Ch.s (dB (decide ((lits t : Int) < (lits l : Int)))) (pF rfl) (Ch.s (dB (decide ((lits t : Int) < (lits l : Int)))) pa (Ch.nil (T_ret ?_))))))
   exact eR [(dB (decide ((lits t : Int) < (lits l : Int))))] [1, 8000010] [] (.cons (.tmp 4 rfl) .nil) (.cons (.box rfl (.cons (.d _) (.cons (.d _) (.cons (.row rfl) (.cons (Exp.of (congrArg D.bool a3) (.d _)) .nil)))) rfl) eA) (Exp.of (congrArg D.bool a3) (.d _))
  ·
   replace h2 := odt h2
   refine Tk (Tq (Ts hc (Ch.s (.d (.slice false 1 (t.map D.str))) pm (Ch.s (dI (t.length : Int)) (.pure (.len _ _ 9 rfl Tryz.underlying23 (.sh _ _) (by simp))) (Ch.s (dI 0) pm (Ch.nil ?_))))))
   refine Tb ?_
   refine T_loop (ι := Nat) (fun k => { n := 65, sl := [(0, (.ptr 1 0)), (1, (.d (.slice false 1 (t.map D.str)))), (36, (dI (t.length : Int))), (37, (dI (k : Int)))], hp := [(1, (some (.box [(.d (.hole u)), (.d (.hole v)), (.row 8000010), (dB true)]))), (8000010, (some (.row 1 (l.map D.str))))], pin := [1] }) (fun k => k ≤ t.length ∧ lexB t l = lexB (t.drop k) (l.drop k)) (fun k => t.length - k) ⟨0, ⟨by omega, rfl⟩, (Wk.of rfl rfl (ar (ar (ar (ai (vI a126) trivial)))) (ar (ar trivial)))⟩ (fun k hp0 => ?_)
   have hfl : l.length = t.length := hf (by first | assumption | rfl)
   refine Ts hc (Ch.s (dB (decide ((k : Int) < (t.length : Int)))) (iX rfl rfl rfl) (Ch.nil (Tq ?_)))
   refine T_condD (p := ((k : Int) < (t.length : Int))) rfl (fun h3 => ?_) (fun h3 => ?_)
   ·
    refine Tk (Tq (Tb (Ts hc (Ch.s (dI (k : Int)) pm (Ch.s (dI (k : Int)) pa (Ch.nil ?_))))))
    refine Tq ?_
    refine T_regionD hc (by kernel_rfl) ?_
    refine ChD.s (.d (.slice false 1 (t.map D.str))) [] pm (ChD.s (dI (k : Int)) [] pm (ChD.s (.d (.ref (.str (t.getD k default)))) [] (.pure (.idx _ _ _ 9 (k) rfl Tryz.underlying23 sz9 rfl rfl rfl get_mapA)) (ChD.s (dS (t.getD k default)) [] (rF ag9 rfl rfl) (ChD.s (.ptr 1 0) [] pm (ChD.s (.ptr 1 0) [] (.pure (.nilPtr _ rfl rfl)) (ChD.s (.ptr 1 2) [] (fP fld207_2 rfl) (ChD.s (.row 8000010) [1] (lP ag23 rfl rfl rfl) ?_)))))))
    refine ChD.s (dI (k : Int)) [] pm (ChD.s (.el 8000010 1 k 0) [8000010] (.pure (.idxRow _ _ _ 9 (k) rfl Tryz.underlying23 sz9 rfl rfl rfl rfl a96)) (ChD.s (dS (l.getD k default)) [8000010] (.pure (.loadEl1 _ _ rfl ag9 rfl rfl get_mapA rfl rfl rfl)) (ChD.s (dB (!(decide ((t.getD k default) = (l.getD k default))))) [] (.pure (.str _ _ _ _ _ rfl rfl rfl rfl)) ?_)))
    refine ChD.nil (And.intro ?_ (by kernel_rfl))
    refine T_condN (b := (decide ((t.getD k default) = (l.getD k default)))) rfl (fun h4 => ?_) (fun h4 => ?_)
    ·
     replace h4 := odf h4
     refine Tq ?_
     refine T_regionD hc (by kernel_rfl) ?_
     refine ChD.s (.d (.slice false 1 (t.map D.str))) [] pm (ChD.s (dI (k : Int)) [] pm (ChD.s (.d (.ref (.str (t.getD k default)))) [] (.pure (.idx _ _ _ 9 (k) rfl Tryz.underlying23 sz9 rfl rfl rfl get_mapA)) (ChD.s (dS (t.getD k default)) [] (rF ag9 rfl rfl) (ChD.s (.ptr 1 0) [] pm (ChD.s (.ptr 1 0) [] (.pure (.nilPtr _ rfl rfl)) (ChD.s (.ptr 1 2) [] (fP fld207_2 rfl) (ChD.s (.row 8000010) [1] (lP ag23 rfl rfl rfl) ?_)))))))
     refine ChD.s (dI (k : Int)) [] pm (ChD.s (.el 8000010 1 k 0) [8000010] (.pure (.idxRow _ _ _ 9 (k) rfl Tryz.underlying23 sz9 rfl rfl rfl rfl a96)) (ChD.s (dS (l.getD k default)) [8000010] (.pure (.loadEl1 _ _ rfl ag9 rfl rfl get_mapA rfl rfl rfl)) (ChD.s (dB (Op.bytesLess (t.getD k default) (l.getD k default))) [] (.pure (.str _ _ _ _ _ rfl rfl rfl rfl)) (ChD.s (dB (Op.bytesLess (t.getD k default) (l.getD k default))) [] pa ?_))))
     refine ChD.nil (And.intro ?_ (by kernel_rfl))
     refine T_ret ?_
     exact eR [(dB (Op.bytesLess (t.getD k default) (l.getD k default)))] [1, 8000010] [] (.cons (.tmp 4 rfl) .nil) (.cons (.box rfl (.cons (.d _) (.cons (.d _) (.cons (.row rfl) (.cons (Exp.of (congrArg D.bool a3) (.d _)) .nil)))) rfl) eA) (Exp.of (congrArg D.bool a3) (.d _))
    ·
     replace h4 := odt h4
     refine Tk (Tz hc (Ch.s (dI ((k : Int) + 1)) (iX rfl rfl intV_addA) (Ch.s (dI ((k : Int) + 1)) pm (Ch.nil ?_))))
     exact nx (k + 1) ⟨by omega, by rw [hp0.2, lexB_next (by omega) (by omega), if_pos (by assumption)]⟩ (Wk.of rfl rfl (ar (ar (ar (ai (vI a126) trivial)))) (ar (ar trivial)))
   ·
    refine T_exit (Ts hc (Ch.s (dB false) pa (Ch.nil (T_ret ?_))))
    exact eR [(dB false)] [1, 8000010] [] (.cons (.tmp 4 rfl) .nil) (.cons (.box rfl (.cons (.d _) (.cons (.d _) (.cons (.row rfl) (.cons (Exp.of (congrArg D.bool a3) (.d _)) .nil)))) rfl) eA) (Exp.of (congrArg D.bool a3) (.d _))
 | false =>
  refine Ck (Ck (Ck (Ch.s (dB true) (pT rfl) (Ch.nil ?_))))
  refine T_cond (b := true) rfl (fun _ => ?_) (fun h => nomatch h)
  refine Ts hc (Ch.s (.ptr 1 0) pm (Ch.s (.ptr 1 0) (.pure (.nilPtr _ rfl rfl)) (Ch.s (.ptr 1 3) (fP fld207_3 rfl) (Ch.s (dB false) (lP ag4 rfl rfl rfl) (Ch.s (dB true) (.pure (.not (b := false) _ _ rfl rfl)) (Ch.s (dB true) pm ?_))))))
  refine Ck (Ck (Ck (Ch.s (dB true) (pT rfl) (Ch.s (dB true) pa (Ch.nil (T_ret ?_))))))
  exact eR [(dB true)] [1, 8000010] [] (.cons (.tmp 4 rfl) .nil) (.cons (.box rfl (.cons (.d _) (.cons (.d _) (.cons (.row rfl) (.cons (Exp.of (congrArg D.bool a3) (.d _)) .nil)))) rfl) eA) (Exp.of (congrArg D.bool a3) (.d _))

set_option maxHeartbeats 2000000 in
theorem sp_search_step (u v : Value) (pr on : List (List UInt8)) (n N m : Nat) (z : Int) (t : List (List UInt8)) (p : (List (List UInt8) × Bool)) (hz : z = (m : Int)) (hn8 : n ≤ 8) (hpr : ∀ q ∈ pr, q.length = n) (hprl : pr.length ≤ 1048576) (hon : ∀ c ∈ on, c.length = n) (honl : on.length ≤ 1048576) (hN7 : N ≤ 7) (ht : ∀ q ∈ t, q.length = n) (hN : t.length + m = N) (hns : noShort pr on m t) (hp : POk n 7 p) (hb : BOk N p) (ih : ∀ (j : Nat) (z : Int) (t : List (List UInt8)) (p : (List (List UInt8) × Bool)), j + 1 = m → z = (j : Int) → (∀ q ∈ t, q.length = n) → t.length + j = N → noShort pr on j t → POk n 7 p → BOk N p → SpQ (fun S w _ => DRs S w [.slice false 1 (pr.map D.str), .slice false 1 (on.map D.str)] [u, v] []) Tryz.prog 211 [(.box [(.hole u), (.hole v), (.slice true 1 (p.1.map D.str)), (.bool (p.2))]), .slice true 1 (t.map D.str), .int .i64 z] [(.box [(.hole u), (.hole v), (.slice true 1 (((srF pr on j t p).1).map D.str)), (.bool ((srF pr on j t p).2))]), .any, .any] (.tup [])) : SpQ (fun S w _ => DRs S w [(.slice false 1 (pr.map D.str)), (.slice false 1 (on.map D.str))] [u, v] []) Tryz.prog 211 [(.box [(.hole u), (.hole v), (.slice true 1 (p.1.map D.str)), (.bool (p.2))]), (.slice true 1 (t.map D.str)), (.int .i64 z)] [(.box [(.hole u), (.hole v), (.slice true 1 (((srF pr on m t p).1).map D.str)), (.bool ((srF pr on m t p).2))]), .any, .any] (.tup []) := by
 refine SpG_intro Tryz.func211 rfl [900001, 900002] rfl rfl rfl (fun c hc => ?_)
 refine T_open 1 8000010 rfl rfl rfl ?_
 have htl : t.length ≤ 1048576 := (by omega)
 have hpb := bulk_small hn8 hp.len hp.all
 have htb : bulkS t ≤ 1048576 := bulk_small hn8 (by omega) ht
 refine Tq (Ts hc (Ch.s (.ptr 1 0) pm (Ch.s (.ptr 1 0) (.pure (.nilPtr _ rfl rfl)) (Ch.s (.ptr 1 1) (fP fld207_1 rfl) (Ch.s (.d (.hole v)) (lP ag23 rfl rfl rfl) ?_)))))
 refine Ch.see 13 900002 rfl rfl rfl ?_
 refine Ch.s (dI (on.length : Int)) (.pure (.len _ _ 9 rfl Tryz.underlying23 (.sh _ _) (by simp))) (Ch.s (dI 0) pm (Ch.nil (Tb ?_)))
 refine T_loop (ι := Nat) (fun k => { n := 57, sl := [(0, (.ptr 1 0)), (1, (.row 2)), (2, (dI z)), (13, (.d (.slice false 1 (on.map D.str)))), (14, (dI (on.length : Int))), (15, (dI (k : Int)))], hp := [(1, (some (.box [(.d (.hole u)), (.d (.hole v)), (.row 8000010), (dB (p.2))]))), (2, (some (.row 1 (t.map D.str)))), (900001, (some (.ghost (.slice false 1 (pr.map D.str)) u))), (900002, (some (.ghost (.slice false 1 (on.map D.str)) v))), (8000010, (some (.row 1 (p.1.map D.str))))], pin := [1, 2] }) (fun k => k ≤ on.length ∧ ∀ j, j < k → inB t (on.getD j default) = true) (fun k => on.length - k) ⟨0, ⟨by omega, fun j hj => by omega⟩, (Wk.of rfl rfl (ar (ar (ar (ar (ar (ai (vI a126) trivial)))))) (ar (ar (ar (ar (ar trivial))))))⟩ (fun k hp0 => ?_)
 refine Ts hc (Ch.s (dB (decide ((k : Int) < (on.length : Int)))) (iX rfl rfl rfl) (Ch.nil (Tq ?_)))
 refine T_condD (p := ((k : Int) < (on.length : Int))) rfl (fun h1 => ?_) (fun h1 => ?_)
 ·
  try have hox := hon _ (getD_mem (l := on) (j := k) (d := default) (by omega))
  try have hol : (on.getD k default).length ≤ 1048576 := by omega
  try have htx : ∀ a ∈ t, a.length ≤ (on.getD k default).length := fun a ha => by (have := ht a ha; omega)
  try have hnil := unc_nil_of hp0.2 (by omega)
  try have hm0 := ns_end hns hnil
  try have hfb : p.2 = true → p.1.length = t.length := fun h => by (have := hb.len h; omega)
  refine Tk (Tq (Tb (Ts hc (Ch.s (.d (.ref (.str (on.getD k default)))) (.pure (.idx _ _ _ 9 (k) rfl Tryz.underlying23 sz9 rfl rfl rfl get_mapA)) (Ch.s (dS (on.getD k default)) (rF ag9 rfl rfl) (Ch.s (dS (on.getD k default)) pa ?_))))))
  refine Ch.nil (Tq (Ts hc (Ch.s (.row 2) pm (Ch.s (dS (on.getD k default)) pm (Ch.s (dB (inB t (on.getD k default))) (.call 21000 254 _ _ _ en254 rfl (.inl rfl) (.cons (.lend (.row rfl (frozs_map (fun _ => rfl) _))) (.cons (.d _) .nil)) rfl rfl (sp_spec_l13In t (on.getD k default) a26 a26 a26) (.skip _ _ (.skip _ _ .nil)) rfl) (Ch.nil ?_))))))
  refine T_cond (b := (inB t (on.getD k default))) rfl (fun h2 => ?_) (fun h2 => ?_)
  ·
   try have huh := unc_head hp0.2 (by omega) (by assumption)
   refine T_exit (Tz hc (Ch.s (dI ((k : Int) + 1)) (iX rfl rfl intV_addA) (Ch.s (dI ((k : Int) + 1)) pm (Ch.nil ?_))))
   exact nx (k + 1) ⟨by omega, upto_succ hp0.2 (by assumption)⟩ (Wk.of rfl rfl (ar (ar (ar (ar (ar (ai (vI a126) trivial)))))) (ar (ar (ar (ar (ar trivial))))))
  ·
   try have huh := unc_head hp0.2 (by omega) (by assumption)
   refine Tk (Tq (Ts hc (Ch.s (.ptr 1 0) pm (Ch.s (.ptr 1 0) (.pure (.nilPtr _ rfl rfl)) (Ch.s (.ptr 1 0) (fP fld207_0 rfl) (Ch.s (.d (.hole u)) (lP ag23 rfl rfl rfl) ?_))))))
   refine Ch.see 25 900001 rfl rfl rfl ?_
   refine Ch.s (dI (pr.length : Int)) (.pure (.len _ _ 9 rfl Tryz.underlying23 (.sh _ _) (by simp))) (Ch.s (dI 0) pm (Ch.nil (Tb ?_)))
   refine T_loop (ι := Nat) (fun e => { n := 57, sl := [(0, (.ptr 1 0)), (1, (.row 2)), (2, (dI z)), (7, (dS (on.getD k default))), (25, (.d (.slice false 1 (pr.map D.str)))), (26, (dI (pr.length : Int))), (27, (dI (e : Int)))], hp := [(1, (some (.box [(.d (.hole u)), (.d (.hole v)), (.row 7700), (dB ((srT pr on m t p e).2))]))), (2, (some (.row 1 (t.map D.str)))), (7700, (some (.row 1 (((srT pr on m t p e).1).map D.str)))), (900001, (some (.ghost (.slice false 1 (pr.map D.str)) u))), (900002, (some (.ghost (.slice false 1 (on.map D.str)) v)))], pin := [1, 2] }) (fun e => e ≤ pr.length) (fun e => pr.length - e) ⟨0, (by omega), (Wk.ren [(7700, 8000010)] rfl rfl rfl rfl (ar (ar (ar (ar (ar (ar (ai (vI a126) trivial))))))) (ai (oB (Eq.trans (b := [(.d (.hole u)), (.d (.hole v)), (.row 8000010), (dB (p.2))]) rfl a2)) (ar (ai (oR a7) (ar (ar trivial))))))⟩ (fun e hp1 => ?_)
   have hpk := srT_ok (N := 7) (on := on) (m := m) hpr (by omega) ht hp e hp1; have hbk := srT_bok hN hns hb e
   refine Ts hc (Ch.s (dB (decide ((e : Int) < (pr.length : Int)))) (iX rfl rfl rfl) (Ch.nil (Tq ?_)))
   refine T_condD (p := ((e : Int) < (pr.length : Int))) rfl (fun h3 => ?_) (fun h3 => ?_)
   ·
    try have hqe := hpr _ (getD_mem (l := pr) (j := e) (d := default) (by omega))
    try have hql : (pr.getD e default).length ≤ 1048576 := by omega
    refine Tk (Tq (Tb (Ts hc (Ch.s (.d (.ref (.str (pr.getD e default)))) (.pure (.idx _ _ _ 9 (e) rfl Tryz.underlying23 sz9 rfl rfl rfl get_mapA)) (Ch.s (dS (pr.getD e default)) (rF ag9 rfl rfl) (Ch.s (dS (pr.getD e default)) pa ?_))))))
    refine Ch.nil (Ts hc (Ch.s (dI z) pm (Ch.s (dB (decide (0 < z))) (iX rfl rfl rfl) (Ch.s (dB (decide (0 < z))) pm ?_))))
    cases h4 : (decide (0 < z)) with
    | true =>
     replace h4 := odt h4
     try have hqe := hpr _ (getD_mem (l := pr) (j := e) (d := default) (by omega))
     try have hql : (pr.getD e default).length ≤ 1048576 := by omega
     refine Ch.s (dS (pr.getD e default)) pm (Ch.s (dS (on.getD k default)) pm (Ch.s (dB (hasB (pr.getD e default) (on.getD k default))) (.call 36000 197 _ _ _ en197 rfl (.inl rfl) (.cons (.d _) (.cons (.d _) .nil)) rfl rfl (sp_spec_l13Has (pr.getD e default) (on.getD k default) a26 a26) (.skip _ _ (.skip _ _ .nil)) rfl) (Ch.s (dB (hasB (pr.getD e default) (on.getD k default))) (pT rfl) (Ch.nil ?_))))
     refine T_cond (b := (hasB (pr.getD e default) (on.getD k default))) rfl (fun h5 => ?_) (fun h5 => ?_)
     ·
      refine Tz hc (Ch.s (.ptr 1 0) pm (Ch.s (.row 2) pm (Ch.s (dS (pr.getD e default)) pm ?_)))
      refine Ch.step (v := (.row 41000)) rfl (.call 41000 250 _ _ _ en250 rfl (.inl rfl) (.cons (.lend (.row rfl (frozs_map (fun _ => rfl) _))) (.cons (.d _) .nil)) rfl (sol (solid_row (fun _ => rfl) _) rfl) (sp_spec_l14Put t (pr.getD e default) a46) (.skip _ _ (.skip _ _ .nil)) rfl) rfl rfl ?_
      refine Ch.s (dI z) pm (Ch.s (dI (z - 1)) (iX rfl rfl intV_subA) ?_)
      refine Ch.step (v := (.tup [])) rfl (.callG (ms := [900001, 900002]) 44000 211 _ _ _ en211 rfl (.inl rfl) (.cons (.box rfl (.cons (.d _) (.cons (.d _) (.cons (.row rfl) (.cons (.d _) .nil)))) rfl) (.cons (.row rfl) (.cons (.d _) .nil))) rfl (sol rfl (solids_c a91 rfl)) (ih (m - 1) (z - 1) (put14 t (pr.getD e default)) (srT pr on m t p e) (by omega) (by omega) (put14_all ht (hpr _ (getD_mem (by omega)))) (by rw [put14_len]; omega) (ns_at (by omega) hns (getD_mem (by omega)) huh.1 (by assumption)) hpk hbk) ⟨rfl, ⟨rfl, trivial⟩⟩ (.box _ _ (.skip _ _ (.skip _ _ .nil))) rfl) rfl rfl ?_
      refine Ch.opens 1 8000020 rfl rfl rfl ?_
      refine Ch.nil (Tz hc (Ch.s (dI ((e : Int) + 1)) (iX rfl rfl intV_addA) (Ch.s (dI ((e : Int) + 1)) pm (Ch.nil ?_))))
      exact nx (e + 1) (by omega) (Wk.ren [(7700, 8000020)] rfl rfl rfl rfl (ar (ar (ar (ar (ar (ar (ai (vI a126) trivial))))))) (ai (oB (Eq.trans (b := [(.d (.hole u)), (.d (.hole v)), (.row 8000020), (dB ((srF pr on (m - 1) (put14 t (pr.getD e default)) (srT pr on m t p e)).2))]) rfl a2)) (ar (ai (oR a7) (ar (ar trivial))))))
     ·
      refine Tk (Tz hc (Ch.s (dI ((e : Int) + 1)) (iX rfl rfl intV_addA) (Ch.s (dI ((e : Int) + 1)) pm (Ch.nil ?_))))
      exact nx (e + 1) (by omega) (Wk.of rfl rfl (ar (ar (ar (ar (ar (ar (ai (vI a126) trivial))))))) (ai (oB (Eq.trans (b := [(.d (.hole u)), (.d (.hole v)), (.row 7700), (dB ((srT pr on m t p e).2))]) rfl a2)) (ar (ai (oR a7) (ar (ar trivial))))))
    | false =>
     replace h4 := odf h4
     try have hqe := hpr _ (getD_mem (l := pr) (j := e) (d := default) (by omega))
     try have hql : (pr.getD e default).length ≤ 1048576 := by omega
     refine Ck (Ck (Ck (Ch.s (dB false) (pF rfl) (Ch.nil ?_))))
     refine T_cond (b := false) rfl (fun h => nomatch h) (fun _ => ?_)
     refine Tk (Tz hc (Ch.s (dI ((e : Int) + 1)) (iX rfl rfl intV_addA) (Ch.s (dI ((e : Int) + 1)) pm (Ch.nil ?_))))
     exact nx (e + 1) (by omega) (Wk.of rfl rfl (ar (ar (ar (ar (ar (ar (ai (vI a126) trivial))))))) (ai (oB (Eq.trans (b := [(.d (.hole u)), (.d (.hole v)), (.row 7700), (dB ((srT pr on m t p e).2))]) rfl a2)) (ar (ai (oR a7) (ar (ar trivial))))))
   ·
    try have hqe := hpr _ (getD_mem (l := pr) (j := e) (d := default) (by omega))
    try have hql : (pr.getD e default).length ≤ 1048576 := by omega
    refine T_exit (T_ret ?_)
    exact eR [] [1, 7700] [] .nil (.cons (.box rfl (.cons (.d _) (.cons (.d _) (.cons (Exp.of (congrArg (D.slice true 1) a40) (.row rfl)) (.cons (Exp.of (congrArg D.bool a40) (.d _)) .nil)))) rfl) eB) (.tup .nil)
 ·
  try have hox := hon _ (getD_mem (l := on) (j := k) (d := default) (by omega))
  try have hol : (on.getD k default).length ≤ 1048576 := by omega
  try have htx : ∀ a ∈ t, a.length ≤ (on.getD k default).length := fun a ha => by (have := ht a ha; omega)
  try have hnil := unc_nil_of hp0.2 (by omega)
  try have hm0 := ns_end hns hnil
  try have hfb : p.2 = true → p.1.length = t.length := fun h => by (have := hb.len h; omega)
  refine T_exit (Ts hc (Ch.s (.ptr 1 0) pm (Ch.s (.row 2) pm ?_)))
  refine Ch.step (v := (dB (betB t (p.1, (p.2))))) rfl (.call 49000 255 _ _ _ en255 rfl (.inl rfl) (.cons (.box rfl (.cons (.d _) (.cons (.d _) (.cons (.row rfl) (.cons (.d _) .nil)))) rfl) (.cons (.lend (.row rfl (frozs_map (fun _ => rfl) _))) .nil)) rfl (sol rfl (solids_c a91 rfl)) (sp_better u v p.1 t (p.2) (by assumption) (by assumption) (by assumption)) (.box _ _ (.skip _ _ .nil)) rfl) rfl rfl ?_
  refine Ch.opens 1 8000030 rfl rfl rfl ?_
  refine Ch.nil ?_
  refine T_cond (b := (betB t (p.1, (p.2)))) rfl (fun h6 => ?_) (fun h6 => ?_)
  ·
   refine Ts hc (Ch.s (.ptr 1 0) pm (Ch.s (.row 2) pm (Ch.s (.ptr 1 0) (.pure (.nilPtr _ rfl rfl)) (Ch.s (.ptr 1 2) (fP fld207_2 rfl) (Ch.s .junk (.storePtr _ _ _ rfl rfl rfl (.one _ rfl) sz23 (lb rfl)) (Ch.nil ?_))))))
   refine Tz hc (Ch.s (.ptr 1 0) pm (Ch.s (.ptr 1 0) (.pure (.nilPtr _ rfl rfl)) (Ch.s (.ptr 1 3) (fP fld207_3 rfl) (Ch.s .junk (.storePtr _ _ _ rfl rfl rfl (.one _ rfl) sz4 (lb rfl)) (Ch.nil ?_)))))
   exact endN [] [1, 2] [] .nil (.cons (.box rfl (.cons (.d _) (.cons (.d _) (.cons (Exp.of (congrArg (D.slice true 1) a40) (.row rfl)) (.cons (Exp.of (congrArg D.bool a40) (.d _)) .nil)))) rfl) eB) (.tup .nil) rfl rfl
  ·
   refine Tk ?_
   exact endN [] [1, 8000030] [] .nil (.cons (.box rfl (.cons (.d _) (.cons (.d _) (.cons (Exp.of (congrArg (D.slice true 1) a40) (.row rfl)) (.cons (Exp.of (congrArg D.bool a40) (.d _)) .nil)))) rfl) eB) (.tup .nil) rfl rfl

theorem sp_search (u v : Value) (pr on : List (List UInt8)) (n N : Nat) (hn8 : n ≤ 8) (hpr : ∀ q ∈ pr, q.length = n) (hprl : pr.length ≤ 1048576) (hon : ∀ c ∈ on, c.length = n) (honl : on.length ≤ 1048576) (hN7 : N ≤ 7) : ∀ (m : Nat) (z : Int) (t : List (List UInt8)) (p : (List (List UInt8) × Bool)), z = (m : Int) → (∀ q ∈ t, q.length = n) → t.length + m = N → noShort pr on m t → POk n 7 p → BOk N p → SpQ (fun S w _ => DRs S w [.slice false 1 (pr.map D.str), .slice false 1 (on.map D.str)] [u, v] []) Tryz.prog 211 [(.box [(.hole u), (.hole v), (.slice true 1 (p.1.map D.str)), (.bool (p.2))]), .slice true 1 (t.map D.str), .int .i64 z] [(.box [(.hole u), (.hole v), (.slice true 1 (((srF pr on m t p).1).map D.str)), (.bool ((srF pr on m t p).2))]), .any, .any] (.tup []) := by
 intro m
 induction m with
 | zero => intro z t p hz a b c d e; exact sp_search_step u v pr on n N 0 z t p hz hn8 hpr hprl hon honl hN7 a b c d e (fun j _ _ _ h => by omega)
 | succ m ih =>
  intro z t p hz a b c d e
  exact sp_search_step u v pr on n N (m + 1) z t p hz hn8 hpr hprl hon honl hN7 a b c d e (fun j z2 t2 p2 h hz2 a2 b2 c2 d2 e2 => by
   have e1 : j = m := by omega
   subst e1
   exact ih z2 t2 p2 hz2 a2 b2 c2 d2 e2)

set_option maxHeartbeats 1000000 in
theorem sp_spec_l14Least (n : Int) (on off : List (List UInt8)) (h0 : 0 ≤ n) (h8 : n ≤ 8) (hn1 : on.length ≤ 1048576) (hn2 : off.length ≤ 1048576) (ho1 : ∀ u ∈ on, (u.length : Int) = n) (ho2 : ∀ u ∈ off, (u.length : Int) = n) : Sp Tryz.prog 151 [(.int .i64 n), (.slice false 1 (on.map D.str)), (.slice false 1 (off.map D.str))] [.any, .any, .any] (.tup [(.slice true 1 (((minF (primL n.toNat on off) on).1).map D.str)), (.bool ((minF (primL n.toNat on off) on).2))]) := by
 refine Sp_intro (lend := true) Tryz.func151 rfl rfl rfl (fun _ => rfl) (fun c hc hX => ?_)
 have hon : ∀ c ∈ on, c.length = n.toNat := fun c hc => (by have := ho1 c hc; omega)
 have hpl := primL_le n.toNat on off
 have hp3 : 3 ^ n.toNat ≤ 3 ^ 8 := Nat.pow_le_pow_right (by omega) (by omega)
 have hpl2 : (primL n.toNat on off).length ≤ 1048576 := (by omega)
 have hp7 : POk n.toNat 7 ([], false) := ⟨by simp, fun q hq => by cases hq⟩
 refine Ts hc (Ch.s (.c (.slice none 0 0)) pa (Ch.s (dB false) pa (Ch.nil (Tq (Tq (Tz hc ?_))))))
 refine Ch.s (dI 0) pa (Ch.nil (Tb ?_))
 refine T_loop (ι := Nat) (fun m => { n := 32, sl := [(0, (dI n)), (1, (.d (.slice false 1 (on.map D.str)))), (2, (.d (.slice false 1 (off.map D.str)))), (8, (dI (m : Int)))], hp := [], pin := [] }) (fun m => m ≤ 7 ∧ ∀ j, j < m → (rndS (primL n.toNat on off) on j).2 = false) (fun m => 7 - m) ⟨0, ⟨by omega, fun j hj => by omega⟩, (Wk.of rfl rfl (ar (ar (ar (ai (vI a126) trivial)))) trivial)⟩ (fun m hp0 => ?_)
 refine Tq (Ts hc (Ch.s (dI (m : Int)) pm (Ch.s (dB (decide ((m : Int) ≤ 6))) (iX rfl rfl rfl) (Ch.nil ?_))))
 refine T_condD (p := ((m : Int) ≤ 6)) rfl (fun h1 => ?_) (fun h1 => ?_)
 ·
  refine Tk (Tq (Tb (Ts hc (Ch.s (dI n) pm (Ch.s (.d (.slice false 1 (on.map D.str))) pm (Ch.s (.d (.slice false 1 (off.map D.str))) pm ?_))))))
  refine Ch.s (.d (.slice false 1 ((primL n.toNat on off).map D.str))) (.callFz 17000 210 _ _ _ en210 rfl (.inl rfl) (.cons (.d _) (.cons (.d _) (.cons (.d _) .nil))) (solid_row (fun _ => rfl) _) (sp_spec_l14Primes n on off (by assumption) (by assumption) (by assumption) (by assumption) (by assumption) (by assumption)) (slice_froz (frozs_map (fun _ => rfl) _)) rfl) (Ch.s (.d (.slice false 1 (on.map D.str))) pm ?_)
  refine ch_name 17 900101 rfl rfl rfl rfl (fun g1 => ?_)
  refine ch_name 18 900102 rfl rfl rfl rfl (fun g2 => ?_)
  refine Ch.s (.agg [(.d (.hole g1)), (.d (.hole g2)), (.c (.slice none 0 0)), (dB false)]) (.build _ _ rfl stru207 (.cons (.one _ rfl) (.cons (.one _ rfl) .nil)) rfl) (Ch.s (.ptr 20000 0) (.box 20000 _ _ rfl (.agg _ rfl)) (Ch.s (.ptr 20000 0) pa (Ch.nil (Ts hc (Ch.s (.ptr 20000 0) pm (Ch.s (dI (m : Int)) pm ?_))))))
  refine Ch.step (v := (.tup [])) rfl (.callG (ms := [900101, 900102]) 23000 211 _ _ _ en211 rfl (.inl rfl) (.cons (.box rfl (.cons (.d _) (.cons (.d _) (.cons (.nil true 1) (.cons (.d _) .nil)))) rfl) (.cons (.nil true 1) (.cons (.d _) .nil))) rfl (sol rfl (solids_c a91 rfl)) (sp_search g1 g2 (primL n.toNat on off) on n.toNat m (by omega) primL_mem hpl2 hon (by assumption) (by omega) m (m : Int) [] ([], false) rfl (fun q hq => by cases hq) (by simp) (ns_of hp0.2) hp7 ⟨fun e => by cases e⟩) ⟨rfl, ⟨rfl, trivial⟩⟩ (.box _ _ (.skip _ _ (.skip _ _ .nil))) rfl) rfl rfl ?_
  refine Ch.opens 20000 8000010 rfl rfl rfl ?_
  refine Ch.nil (Ts hc (Ch.s (.ptr 20000 0) pm (Ch.s (.ptr 20000 0) (.pure (.nilPtr _ rfl rfl)) (Ch.s (.ptr 20000 3) (fP fld207_3 rfl) (Ch.s (dB ((rndS (primL n.toNat on off) on m).2)) (lP ag4 rfl rfl rfl) (Ch.nil ?_))))))
  refine T_cond (b := ((rndS (primL n.toNat on off) on m).2)) rfl (fun h2 => ?_) (fun h2 => ?_)
  ·
   refine Ts hc (Ch.s (.ptr 20000 0) pm (Ch.s (.ptr 20000 0) (.pure (.nilPtr _ rfl rfl)) (Ch.s (.ptr 20000 2) (fP fld207_2 rfl) (Ch.s (.row 8000010) (lP ag23 rfl rfl rfl) (Ch.s (.row 8000010) pa (Ch.s (dB true) pa ?_))))))
   refine Ch.nil (T_ret ?_)
   exact eR [(.row 8000010), (dB true)] [] [8000010] (.cons (.tmp 6 rfl) (.cons (.tmp 7 rfl) .nil)) eC (.tup (.cons (Exp.of (congrArg (D.slice true 1) a60) (.row rfl)) (.cons (Exp.of (congrArg D.bool a60) (.d _)) .nil)))
  ·
   refine Tk (Tz hc (Ch.s (dI (m : Int)) pm (Ch.s (dI ((m : Int) + 1)) (iX rfl rfl intV_addA) (Ch.s (dI ((m : Int) + 1)) pa (Ch.nil ?_)))))
   exact nx (m + 1) ⟨by omega, upto_succ hp0.2 (by assumption)⟩ (Wk.of rfl rfl (ar (ar (ar (ai (vI a126) trivial)))) trivial)
 ·
  refine T_exit (Ts hc (Ch.s (.c (.slice none 0 0)) pa (Ch.s (dB false) pa (Ch.nil (T_ret ?_)))))
  exact eR [(.c (.slice none 0 0)), (dB false)] [] [] (.cons (.tmp 6 rfl) (.cons (.tmp 7 rfl) .nil)) eC (.tup (.cons (Exp.of (congrArg (D.slice true 1) a60) (.nil true 1)) (.cons (Exp.of (congrArg D.bool a60) (.d _)) .nil)))

theorem sp_spec_MinimumCover (n : Int) (on off : List (List UInt8)) (hn1 : on.length ≤ 1048576) (hx1 : ∀ x ∈ on, x.length ≤ 1048576) (hn2 : off.length ≤ 1048576) (hx2 : ∀ x ∈ off, x.length ≤ 1048576) : Sp Tryz.prog 82 [(.int .i64 n), (.slice false 1 (on.map D.str)), (.slice false 1 (off.map D.str))] [.any, .any, .any] (.tup [(.slice true 1 (((mcvF n on off).1).map D.str)), (.bool ((mcvF n on off).2))]) := by
 refine Sp_intro (lend := true) Tryz.func82 rfl rfl rfl (fun _ => rfl) (fun c hc hX => ?_)
 refine Ts hc (Ch.s (.c (.slice none 0 0)) pa (Ch.s (dB false) pa (Ch.nil (Tq (Tq (Tz hc ?_))))))
 refine Ch.s (dI n) pm (Ch.s (.d (.slice false 1 (on.map D.str))) pm (Ch.s (.d (.slice false 1 (off.map D.str))) pm ?_))
 refine Ch.step (v := (.tup [(.row 14000), (dB (primOk n on off))])) rfl (.call 14000 150 _ _ _ en150 rfl (.inl rfl) (.cons (.d _) (.cons (.d _) (.cons (.d _) .nil))) rfl (sol a115 rfl) (sp_spec_Primes n on off a26 a26 a26 a26) (.skip _ _ (.skip _ _ (.skip _ _ .nil))) rfl) rfl rfl ?_
 refine Ch.s (.tup [(.row 14000), (dB (primOk n on off))]) pm (Ch.s (.row 14000) (xT rfl rfl) (Ch.s (dB (primOk n on off)) (xT rfl rfl) (Ch.s (.row 14000) pa (Ch.s (dB (primOk n on off)) pa (Ch.nil (Tq (Tz hc ?_)))))))
 refine Ch.s (dB (primOk n on off)) pm (Ch.s (dB (!(primOk n on off))) (nT rfl) (Ch.nil ?_))
 refine T_condN (b := (primOk n on off)) rfl (fun h1 => ?_) (fun h1 => ?_)
 ·
  try have hop := onoff_parts (by first | assumption | exact primOk_on (by assumption) : onoffB n on off = true)
  try have h0 : 0 ≤ n := by (have := hop.1; omega)
  try have h8 : n ≤ 8 := by (have := hop.1.2; omega)
  try have ho1 := hop.2.2.2.1
  try have ho2 := hop.2.2.2.2
  refine Ts hc (Ch.s (.c (.slice none 0 0)) pa (Ch.s (dB false) pa (Ch.nil (T_ret ?_))))
  exact eR [(.c (.slice none 0 0)), (dB false)] [] [] (.cons (.tmp 6 rfl) (.cons (.tmp 7 rfl) .nil)) eC (.tup (.cons (Exp.of (congrArg (D.slice true 1) a36) (.nil true 1)) (.cons (Exp.of (congrArg D.bool a36) (.d _)) .nil)))
 ·
  try have hop := onoff_parts (by first | assumption | exact primOk_on (by assumption) : onoffB n on off = true)
  try have h0 : 0 ≤ n := by (have := hop.1; omega)
  try have h8 : n ≤ 8 := by (have := hop.1.2; omega)
  try have ho1 := hop.2.2.2.1
  try have ho2 := hop.2.2.2.2
  refine Tk (Ts hc (Ch.s (dI n) pm (Ch.s (.d (.slice false 1 (on.map D.str))) pm (Ch.s (.d (.slice false 1 (off.map D.str))) pm ?_))))
  refine Ch.step (v := (.tup [(.row 22000), (dB ((minF (primL n.toNat on off) on).2))])) rfl (.call 22000 151 _ _ _ en151 rfl (.inl rfl) (.cons (.d _) (.cons (.d _) (.cons (.d _) .nil))) rfl (sol a115 rfl) (sp_spec_l14Least n on off a137 a137 a137 a137 a137 a137) (.skip _ _ (.skip _ _ (.skip _ _ .nil))) rfl) rfl rfl ?_
  refine Ch.s (.row 22000) (xT rfl rfl) (Ch.s (dB ((minF (primL n.toNat on off) on).2)) (xT rfl rfl) (Ch.s (.row 22000) pa (Ch.s (dB ((minF (primL n.toNat on off) on).2)) pa (Ch.nil (T_ret ?_)))))
  exact eR [(.row 22000), (dB ((minF (primL n.toNat on off) on).2))] [] [22000] (.cons (.tmp 6 rfl) (.cons (.tmp 7 rfl) .nil)) eC (.tup (.cons (Exp.of (congrArg (D.slice true 1) a36) (.row rfl)) (.cons (Exp.of (congrArg D.bool a36) (.d _)) .nil)))

theorem en82 : Enters Tryz.prog 82 := ⟨_, Tryz.func82, by kernel_rfl, rfl⟩

def nsf (x : Sgr) (sig : Int) : List (List UInt8) × Bool := if osOk x sig 0 then mcvF (x.sigs.length : Int) (osOn x sig 0) (osOff x sig 0) else ([], false)

theorem nsf_no {x : Sgr} {sig : Int} (h : osOk x sig 0 = false) : nsf x sig = ([], false) := by rw [nsf, h]; rfl

theorem nsf_yes {x : Sgr} {sig : Int} (h : osOk x sig 0 = true) : nsf x sig = mcvF (x.sigs.length : Int) (osOn x sig 0) (osOff x sig 0) := by rw [nsf, h]; rfl

theorem nsf_len (x : Sgr) (sig : Int) : (nsf x sig).1.length ≤ 7 := by
  unfold nsf
  split
  · exact mcvF_len _ _ _
  · exact Nat.zero_le _

theorem osOn_in (x : Sgr) (sig : Int) (w : Nat) : ∀ u ∈ osOn x sig w, u ∈ x.codes := fun u hu => by
  unfold osOn at hu
  split at hu
  · unfold setsOn at hu
    split at hu
    · exact osTo_in (Nat.le_refl _) u hu
    · cases hu
  · cases hu

theorem osOff_in (x : Sgr) (sig : Int) (w : Nat) : ∀ u ∈ osOff x sig w, u ∈ x.codes := fun u hu => by
  unfold osOff at hu
  split at hu
  · unfold setsOff at hu
    split at hu
    · exact osTo_in (Nat.le_refl _) u hu
    · cases hu
  · cases hu

theorem zr63 : (Tryz.prog.info? 63).bind (·.zero) = some (.agg #[.slice none 0 0, .slice none 0 0]) := by kernel_rfl

theorem zer63 : ∃ i z, Tryz.prog.info? 63 = some i ∧ i.zero = some z ∧ z.cells = List.toArray [.slice none 0 0, .slice none 0 0] := zero_mk zr63 rfl

theorem stru63 : StructIs Tryz.prog 63 [.slice none 0 0, .slice none 0 0] [(0, 1), (1, 1)] := structIs_mk (by kernel_rfl) Tryz.underlying63 (by kernel_rfl)

theorem sz63 : SizeIs Tryz.prog 63 2 := by unfold SizeIs; kernel_rfl

theorem stru113 : StructIs Tryz.prog 113 [.int .i64 0, .int .i64 0, .slice none 0 0, .slice none 0 0] [(0, 1), (1, 1), (2, 1), (3, 1)] := structIs_mk (by kernel_rfl) Tryz.underlying113 (by kernel_rfl)

theorem zr113 : (Tryz.prog.info? 113).bind (·.zero) = some (.agg #[.int .i64 0, .int .i64 0, .slice none 0 0, .slice none 0 0]) := by kernel_rfl

theorem zer113 : ∃ i z, Tryz.prog.info? 113 = some i ∧ i.zero = some z ∧ z.cells = List.toArray [.int .i64 0, .int .i64 0, .slice none 0 0, .slice none 0 0] := zero_mk zr113 rfl

theorem ag63 : AggIs Tryz.prog 63 true := by unfold AggIs; kernel_rfl

theorem sty61 : SlotTy Tryz.prog 61 113 4 64 := slotTy_mk (by kernel_rfl)

theorem en170 : Enters Tryz.prog 170 := ⟨_, Tryz.func170, by kernel_rfl, rfl⟩

theorem en95 : Enters Tryz.prog 95 := ⟨_, Tryz.func95, by kernel_rfl, rfl⟩

theorem en172 : Enters Tryz.prog 172 := ⟨_, Tryz.func172, by kernel_rfl, rfl⟩

theorem en96 : Enters Tryz.prog 96 := ⟨_, Tryz.func96, by kernel_rfl, rfl⟩

theorem en103 : Enters Tryz.prog 103 := ⟨_, Tryz.func103, by kernel_rfl, rfl⟩

theorem en102 : Enters Tryz.prog 102 := ⟨_, Tryz.func102, by kernel_rfl, rfl⟩

def gtL (gt : Int → Gat × Bool) (l : List Int) (k : Nat) : List Gat := (l.take k).map fun s => (gt s).1

def gtB (gt : Int → Gat × Bool) (l : List Int) : Bool := l.all fun s => (gt s).2

def cirB (gt : Int → Gat × Bool) (x : Sgr) : Bool := madeB x && gtB gt (outsL x.sigs)

def cirV (gt : Int → Gat × Bool) (x : Sgr) : Cir := if cirB gt x then Cir.mk x.sigs (gtL gt (outsL x.sigs) (outsL x.sigs).length) else Cir.mk [] []

theorem gt_succ {gt : Int → Gat × Bool} {l : List Int} {k : Nat} (h : k < l.length) : gtL gt l k ++ [(gt (l.getD k default)).1] = gtL gt l (k + 1) := by
 have hg : l.getD k default = l[k] := by simp [h]
 unfold gtL
 rw [hg, List.take_succ_eq_append_getElem h, List.map_append]; rfl

theorem gt_le (gt : Int → Gat × Bool) (l : List Int) (k : Nat) : (gtL gt l k).length ≤ l.length := by
 unfold gtL
 rw [List.length_map, List.length_take]; omega

theorem gtB_no {gt : Int → Gat × Bool} {l : List Int} (k : Nat) (hk : k < l.length) (h : (gt (l.getD k default)).2 = false) : gtB gt l = false := by
 cases e : gtB gt l with
 | false => rfl
 | true =>
  unfold gtB at e
  have := List.all_eq_true.1 e _ (getD_mem (d := default) hk)
  rw [h] at this; cases this

theorem gtB_yes {gt : Int → Gat × Bool} {l : List Int} (h : ∀ j, j < l.length → (gt (l.getD j default)).2 = true) : gtB gt l = true := by
 unfold gtB
 rw [List.all_eq_true]
 intro s hs
 obtain ⟨j, hj, e⟩ := List.mem_iff_getElem.1 hs
 have := h j hj
 rw [show l.getD j default = s from by simp [hj, e]] at this
 exact this

theorem cir_no1 {gt : Int → Gat × Bool} {x : Sgr} (h : madeB x = false) : cirB gt x = false := by rw [cirB, h]; rfl

theorem cir_no2 {gt : Int → Gat × Bool} {x : Sgr} (h : gtB gt (outsL x.sigs) = false) : cirB gt x = false := by rw [cirB, h, Bool.and_false]

theorem cir_yes {gt : Int → Gat × Bool} {x : Sgr} (h : madeB x = true) (h2 : gtB gt (outsL x.sigs) = true) : cirB gt x = true := by rw [cirB, h, h2]; rfl

theorem cirV_no {gt : Int → Gat × Bool} {x : Sgr} (h : cirB gt x = false) : cirV gt x = Cir.mk [] [] := by rw [cirV, h]; rfl

theorem cirV_yes {gt : Int → Gat × Bool} {x : Sgr} (h : cirB gt x = true) {k : Nat} (hk : (outsL x.sigs).length ≤ k) : cirV gt x = Cir.mk x.sigs (gtL gt (outsL x.sigs) k) := by
 rw [cirV, h, if_pos rfl]
 unfold gtL
 rw [List.take_of_length_le hk, List.take_of_length_le (Nat.le_refl _)]

def mkV (gt : Int → Gat × Bool) (x : Sgr) : Cir := if gtB gt (outsL x.sigs) then Cir.mk x.sigs (gtL gt (outsL x.sigs) (outsL x.sigs).length) else Cir.mk [] []

theorem mkV_no {gt : Int → Gat × Bool} {x : Sgr} (h : gtB gt (outsL x.sigs) = false) : mkV gt x = Cir.mk [] [] := by rw [mkV, h]; rfl

theorem mkV_yes {gt : Int → Gat × Bool} {x : Sgr} (h : gtB gt (outsL x.sigs) = true) {k : Nat} (hk : (outsL x.sigs).length ≤ k) : mkV gt x = Cir.mk x.sigs (gtL gt (outsL x.sigs) k) := by
 rw [mkV, h, if_pos rfl]
 unfold gtL
 rw [List.take_of_length_le hk, List.take_of_length_le (Nat.le_refl _)]

theorem cir_made {gt : Int → Gat × Bool} {x : Sgr} (h : madeB x = true) : cirV gt x = mkV gt x := by
 unfold cirV mkV cirB
 rw [h, Bool.true_and]

theorem cirB_made {gt : Int → Gat × Bool} {x : Sgr} (h : madeB x = true) : cirB gt x = gtB gt (outsL x.sigs) := by
 unfold cirB
 rw [h, Bool.true_and]

def mcW (x : Sgr) (sig : Int) (w : Nat) : List (List UInt8) × Bool := mcvF (x.sigs.length : Int) (osOn x sig w) (osOff x sig w)

def gtM (x : Sgr) (sig : Int) : Gat × Bool := if osOk x sig 1 && osOk x sig 2 then (Gat.mk sig 2 (mcW x sig 1).1 (mcW x sig 2).1, (mcW x sig 1).2 && (mcW x sig 2).2) else (Gat.mk 0 0 [] [], false)

def gtK (x : Sgr) (kd sig : Int) : Gat × Bool := if kd = 2 then gtM x sig else (Gat.mk sig kd (nsf x sig).1 [], (nsf x sig).2)

theorem gtK_c {x : Sgr} {kd s : Int} (h : ¬ kd = 2) (h1 : osOk x s 0 = true) : gtK x kd s = (Gat.mk s kd (mcW x s 0).1 [], (mcW x s 0).2) := by
 unfold gtK
 rw [if_neg h, nsf_yes h1]; rfl

theorem gtK_m {x : Sgr} {kd s : Int} (h : kd = 2) (h1 : osOk x s 1 = true) (h2 : osOk x s 2 = true) : gtK x kd s = (Gat.mk s kd (mcW x s 1).1 (mcW x s 2).1, (mcW x s 1).2 && (mcW x s 2).2) := by
 unfold gtK gtM
 rw [if_pos h, h1, h2, h]; rfl

theorem gtK_ok_c {x : Sgr} {kd s : Int} (h : ¬ kd = 2) (h1 : osOk x s 0 = true) (h2 : (mcvF (x.sigs.length : Int) (osOn x s 0) (osOff x s 0)).2 = true) : (gtK x kd s).2 = true := by rw [gtK_c h h1]; exact h2

theorem gtK_ok_m {x : Sgr} {kd s : Int} (h : kd = 2) (h1 : osOk x s 1 = true) (h2 : osOk x s 2 = true) (h3 : (mcvF (x.sigs.length : Int) (osOn x s 1) (osOff x s 1)).2 = true) (h4 : (mcvF (x.sigs.length : Int) (osOn x s 2) (osOff x s 2)).2 = true) : (gtK x kd s).2 = true := by
 rw [gtK_m h h1 h2]
 show ((mcW x s 1).2 && (mcW x s 2).2) = true
 rw [show (mcW x s 1).2 = true from h3, show (mcW x s 2).2 = true from h4]; rfl

theorem gtK_no_c1 {x : Sgr} {kd s : Int} (h : ¬ kd = 2) (h1 : osOk x s 0 = false) : (gtK x kd s).2 = false := by
 unfold gtK
 rw [if_neg h, nsf_no h1]

theorem gtK_no_c2 {x : Sgr} {kd s : Int} (h : ¬ kd = 2) (h2 : (mcvF (x.sigs.length : Int) (osOn x s 0) (osOff x s 0)).2 = false) : (gtK x kd s).2 = false := by
 cases h1 : osOk x s 0 with
 | false => exact gtK_no_c1 h h1
 | true => rw [gtK_c h h1]; exact h2

theorem gtK_no_m1 {x : Sgr} {kd s : Int} (h : kd = 2) (h1 : osOk x s 1 = false ∨ osOk x s 2 = false) : (gtK x kd s).2 = false := by
  unfold gtK gtM
  rw [if_pos h]
  rcases h1 with h1 | h1 <;> rw [h1] <;> simp

theorem gtK_no_m2 {x : Sgr} {kd s : Int} (h : kd = 2) (h2 : (mcvF (x.sigs.length : Int) (osOn x s 1) (osOff x s 1)).2 = false ∨ (mcvF (x.sigs.length : Int) (osOn x s 2) (osOff x s 2)).2 = false) : (gtK x kd s).2 = false := by
  cases ha : osOk x s 1 with
  | false => exact gtK_no_m1 h (.inl ha)
  | true =>
    cases hb : osOk x s 2 with
    | false => exact gtK_no_m1 h (.inr hb)
    | true =>
      rw [gtK_m h ha hb]
      show ((mcW x s 1).2 && (mcW x s 2).2) = false
      rcases h2 with h2 | h2
      · rw [show (mcW x s 1).2 = false from h2]; rfl
      · rw [show (mcW x s 2).2 = false from h2, Bool.and_false]

theorem gtM_on {x : Sgr} {s : Int} {w : Nat} (h : osOk x s w = true) : onoffB (x.sigs.length : Int) (osOn x s w) (osOff x s w) = true := by
 unfold osOk at h
 rw [Bool.and_eq_true] at h
 unfold osOn osOff setsOn setsOff
 rw [h.1, h.2, if_pos rfl, if_pos rfl, if_pos rfl, if_pos rfl]
 exact h.2

set_option maxHeartbeats 2000000 in
theorem sp_l16Make2 (x : Sgr) (kd : Int) (hb : x.bulk ≤ 1048576) (hk : kd = 2) : Sp Tryz.prog 95 [(.agg [(.slice false 2 (x.sigs.map Sgn.d)), (.slice false 1 (x.codes.map D.str)), (.slice false 4 (x.arcs.map Arc.d))]), (.int .i64 kd)] [.any, .any] (.tup [(.agg [(.slice true 2 (((mkV (gtK x kd) x).sigs).map Sgn.d)), (.slice true 4 (((mkV (gtK x kd) x).gates).map Gat.u))]), (.bool (gtB (gtK x kd) (outsL x.sigs)))]) := by
 refine Sp_intro (lend := true) Tryz.func95 rfl rfl rfl (fun _ => rfl) (fun c hc hX => ?_)
 obtain ⟨hp0, hp1, hp2⟩ := Sgr.parts hb
 have hn0 := bulkF_len hp0
 have hn1 := bulk_len hp1
 have hx1 := bulk_mem hp1
 have hn2 := bulkF_len hp2; have hol := outs_len x.sigs
 refine Ts hc (Ch.s (.ptr 2000 0) (.box 2000 _ _ rfl (.aggD _)) (Ch.s (.ptr 4000 0) (.alloc 4000 _ rfl zer63) (Ch.s (dB false) pa (Ch.nil (Tq (Tz hc ?_))))))
 refine Ch.s (.row 19000) (.slice 19000 _ 154 _ rfl sty32 (xs := []) rfl rfl .nil rfl rfl (by decide)) (Ch.s (.ptr 2000 0) (fP fld35_0 rfl) (Ch.s (.d (.slice false 2 (x.sigs.map Sgn.d))) (lP ag32 rfl rfl rfl) ?_))
 refine Ch.step (v := (.row 22000)) rfl (.append 22000 _ _ _ 154 rfl sty32 (by decide) (.rowK rfl) (.inr ⟨_, rfl, rfl⟩) (.sh _ _) rfl a69) rfl rfl ?_
 refine Ch.s (.agg [(.row 22000), (.c (.slice none 0 0))]) (.build _ _ rfl stru63 (.cons (.one _ rfl) .nil) rfl) (Ch.s (.ptr 6000 0) (.alloc 6000 _ rfl zer63) (Ch.s .junk (.storePtr _ _ _ rfl rfl rfl (.agg _ rfl) sz63 (lb rfl)) (Ch.nil (Ts hc (Ch.s (.ptr 2000 0) (fP fld35_0 rfl) (Ch.s (.d (.slice false 2 (x.sigs.map Sgn.d))) (lP ag32 rfl rfl rfl) ?_))))))
 refine Ch.s (dI (x.sigs.length : Int)) (.pure (.len _ _ 154 rfl Tryz.underlying32 (.sh _ _) (by simp))) (Ch.s (dI (x.sigs.length : Int)) pa (Ch.nil (Tq (Ts hc (Ch.s (.agg (vX x)) (lA ag35 sz35 rfl rfl (lb rfl) rfl) ?_)))))
 refine Ch.step (v := (.row 28000)) rfl (.call 28000 131 _ _ _ en131 rfl (.inl rfl) (.cons lX .nil) rfl (sol (solid_row (fun _ => rfl) _) rfl) (sp_spec_l6Owned x a46) (.skip _ _ .nil) rfl) rfl rfl ?_
 refine Ch.s (dI ((outsL x.sigs).length : Int)) (.pure (.len _ _ 3 rfl Tryz.underlying55 (.row rfl) (by simp))) (Ch.s (dI 0) pm (Ch.nil (Tb ?_)))
 refine T_loop (ι := Nat) (fun k => { n := 103, sl := [(1, (dI kd)), (2, (.ptr 2000 0)), (4, (.ptr 4000 0)), (6, (.ptr 6000 0)), (7, (dI (x.sigs.length : Int))), (28, (.row 28000)), (29, (dI ((outsL x.sigs).length : Int))), (30, (dI (k : Int)))], hp := [(2000, (some (.box (vX x)))), (4000, (some (.box [(.c (.slice none 0 0)), (.c (.slice none 0 0))]))), (6000, (some (.box [(.row 7700), (.row 7701)]))), (7700, (some (.row 2 (x.sigs.map Sgn.d)))), (7701, (some (.row 4 ((gtL (gtK x kd) (outsL x.sigs) k).map Gat.u)))), (28000, (some (.row 1 ((outsL x.sigs).map (fun n : Int => D.int .i64 n)))))], pin := [] }) (fun k => k ≤ (outsL x.sigs).length ∧ ∀ j, j < k → (gtK x kd ((outsL x.sigs).getD j default)).2 = true) (fun k => (outsL x.sigs).length - k) ⟨0, ⟨by omega, fun j hj => by omega⟩, (Wk.trans (Wk.nilcell 6000 1 970001 4 rfl rfl rfl) (Wk.ren [(7700, 22000), (7701, 970001)] rfl rfl rfl rfl (ar (ar (ar (ar (ar (ar (ar (ai (vI a126) trivial)))))))) (ar (ar (ai (oB (Eq.trans (b := [(.row 22000), (.row 970001)]) rfl (by rfl))) (ar (ai (oR a27) (ar trivial))))))))⟩ (fun k hp0 => ?_)
 have hgl := gt_le (gtK x kd) (outsL x.sigs) k; have hlo0 := Nat.le_trans (osOn_le x ((outsL x.sigs).getD k default) 0) hn1; have hlf0 := Nat.le_trans (osOff_le x ((outsL x.sigs).getD k default) 0) hn1; have hxo0 : ∀ u ∈ osOn x ((outsL x.sigs).getD k default) 0, u.length ≤ 1048576 := fun u hu => hx1 u (osOn_in x ((outsL x.sigs).getD k default) 0 u hu); have hxf0 : ∀ u ∈ osOff x ((outsL x.sigs).getD k default) 0, u.length ≤ 1048576 := fun u hu => hx1 u (osOff_in x ((outsL x.sigs).getD k default) 0 u hu); have hlo1 := Nat.le_trans (osOn_le x ((outsL x.sigs).getD k default) 1) hn1; have hlf1 := Nat.le_trans (osOff_le x ((outsL x.sigs).getD k default) 1) hn1; have hxo1 : ∀ u ∈ osOn x ((outsL x.sigs).getD k default) 1, u.length ≤ 1048576 := fun u hu => hx1 u (osOn_in x ((outsL x.sigs).getD k default) 1 u hu); have hxf1 : ∀ u ∈ osOff x ((outsL x.sigs).getD k default) 1, u.length ≤ 1048576 := fun u hu => hx1 u (osOff_in x ((outsL x.sigs).getD k default) 1 u hu); have hlo2 := Nat.le_trans (osOn_le x ((outsL x.sigs).getD k default) 2) hn1; have hlf2 := Nat.le_trans (osOff_le x ((outsL x.sigs).getD k default) 2) hn1; have hxo2 : ∀ u ∈ osOn x ((outsL x.sigs).getD k default) 2, u.length ≤ 1048576 := fun u hu => hx1 u (osOn_in x ((outsL x.sigs).getD k default) 2 u hu); have hxf2 : ∀ u ∈ osOff x ((outsL x.sigs).getD k default) 2, u.length ≤ 1048576 := fun u hu => hx1 u (osOff_in x ((outsL x.sigs).getD k default) 2 u hu)
 refine Ts hc (Ch.s (dB (decide ((k : Int) < ((outsL x.sigs).length : Int)))) (iX rfl rfl rfl) (Ch.nil (Tq ?_)))
 refine T_condD (p := ((k : Int) < ((outsL x.sigs).length : Int))) rfl (fun h1 => ?_) (fun h1 => ?_)
 ·
  refine Tk (Tq (Tb (Ts hc (Ch.s (.el 28000 1 k 0) (.pure (.idxRow _ _ _ 3 (k) rfl Tryz.underlying55 sz3 rfl rfl rfl rfl a96)) (Ch.s (dI ((outsL x.sigs).getD k default)) (.pure (.loadEl1 _ _ rfl ag3 rfl rfl get_mapA rfl rfl rfl)) (Ch.s (dI ((outsL x.sigs).getD k default)) pa ?_))))))
  refine Ch.nil (Ts hc (Ch.s (dI ((outsL x.sigs).getD k default)) pm (Ch.s (dI kd) pm (Ch.s (.agg [(dI ((outsL x.sigs).getD k default)), (dI kd), (.c (.slice none 0 0)), (.c (.slice none 0 0))]) (.build _ _ rfl stru113 (.cons (.one _ rfl) (.cons (.one _ rfl) .nil)) rfl) (Ch.s (.ptr 10000 0) (.alloc 10000 _ rfl zer113) (Ch.s .junk (.storePtr _ _ _ rfl rfl rfl (.agg _ rfl) sz113 (lb rfl)) ?_))))))
  refine Ch.nil (Ts hc (Ch.s (.agg (vX x)) (lA ag35 sz35 rfl rfl (lb rfl) rfl) (Ch.s (dI ((outsL x.sigs).getD k default)) pm ?_)))
  refine Ch.step (v := (.tup [(.agg [(.row 40000), (.row 40001)]), (dB (osOk x ((outsL x.sigs).getD k default) 0))])) rfl (.call 40000 78 _ _ _ en78 rfl (.inl rfl) (.cons lX (.cons (.d _) .nil)) rfl (sol a68 rfl) (sp_spec_NextStateSets x ((outsL x.sigs).getD k default) a46) (.skip _ _ (.skip _ _ .nil)) rfl) rfl rfl ?_
  refine Ch.s (.tup [(.agg [(.row 40000), (.row 40001)]), (dB (osOk x ((outsL x.sigs).getD k default) 0))]) pm (Ch.s (.agg [(.row 40000), (.row 40001)]) (xT rfl rfl) (Ch.s (dB (osOk x ((outsL x.sigs).getD k default) 0)) (xT rfl rfl) (Ch.s (.ptr 11000 0) (.alloc 11000 _ rfl zer29) (Ch.s .junk (.storePtr _ _ _ rfl rfl rfl (.agg _ rfl) sz29 (lb rfl)) (Ch.s (dB (osOk x ((outsL x.sigs).getD k default) 0)) pa (Ch.nil (Tq ?_)))))))
  refine Ts hc (Ch.s (dI kd) pm (Ch.s (dB (decide (kd = 2))) (iX rfl rfl rfl) (Ch.nil ?_)))
  refine T_condD (p := (kd = 2)) rfl (fun h2 => ?_) (fun h2 => ?_)
  ·
   refine Tz hc (Ch.s (.agg (vX x)) (lA ag35 sz35 rfl rfl (lb rfl) rfl) (Ch.s (dI ((outsL x.sigs).getD k default)) pm ?_))
   refine Ch.step (v := (.tup [(.agg [(.row 48000), (.row 48001)]), (dB (osOk x ((outsL x.sigs).getD k default) 1))])) rfl (.call 48000 170 _ _ _ en170 rfl (.inl rfl) (.cons lX (.cons (.d _) .nil)) rfl (sol a68 rfl) (sp_spec_SetFunctionSets x ((outsL x.sigs).getD k default) a46) (.skip _ _ (.skip _ _ .nil)) rfl) rfl rfl ?_
   refine Ch.s (.tup [(.agg [(.row 48000), (.row 48001)]), (dB (osOk x ((outsL x.sigs).getD k default) 1))]) pm (Ch.s (.agg [(.row 48000), (.row 48001)]) (xT rfl rfl) (Ch.s (dB (osOk x ((outsL x.sigs).getD k default) 1)) (xT rfl rfl) (Ch.s .junk (.storePtr _ _ _ rfl rfl rfl (.agg _ rfl) sz29 (lb rfl)) (Ch.s (dB (osOk x ((outsL x.sigs).getD k default) 1)) pa (Ch.nil (Tq (Tz hc ?_)))))))
   refine Ch.s (dI (x.sigs.length : Int)) pm (Ch.s (.ptr 11000 0) (fP fld29_0 rfl) (Ch.s (.row 48000) (lP ag23 rfl rfl rfl) (Ch.s (.ptr 11000 1) (fP fld29_1 rfl) (Ch.s (.row 48001) (lP ag23 rfl rfl rfl) ?_))))
   refine Ch.step (v := (.tup [(.row 57000), (dB ((mcvF (x.sigs.length : Int) (osOn x ((outsL x.sigs).getD k default) 1) (osOff x ((outsL x.sigs).getD k default) 1)).2))])) rfl (.call 57000 82 _ _ _ en82 rfl (.inl rfl) (.cons (.d _) (.cons (.lend (.row rfl (frozs_map (fun _ => rfl) _))) (.cons (.lend (.row rfl (frozs_map (fun _ => rfl) _))) .nil))) rfl (sol a115 rfl) (sp_spec_MinimumCover (x.sigs.length : Int) (osOn x ((outsL x.sigs).getD k default) 1) (osOff x ((outsL x.sigs).getD k default) 1) (by assumption) (by assumption) (by assumption) (by assumption)) (.skip _ _ (.skip _ _ (.skip _ _ .nil))) rfl) rfl rfl ?_
   refine Ch.s (.tup [(.row 57000), (dB ((mcvF (x.sigs.length : Int) (osOn x ((outsL x.sigs).getD k default) 1) (osOff x ((outsL x.sigs).getD k default) 1)).2))]) pm (Ch.s (.row 57000) (xT rfl rfl) (Ch.s (dB ((mcvF (x.sigs.length : Int) (osOn x ((outsL x.sigs).getD k default) 1) (osOff x ((outsL x.sigs).getD k default) 1)).2)) (xT rfl rfl) (Ch.s (.row 57000) pa (Ch.s (dB ((mcvF (x.sigs.length : Int) (osOn x ((outsL x.sigs).getD k default) 1) (osOff x ((outsL x.sigs).getD k default) 1)).2)) pa (Ch.nil (Tq (Tq ?_)))))))
   refine Tz hc (Ch.s (dB (osOk x ((outsL x.sigs).getD k default) 1)) pm (Ch.s (dB (!(osOk x ((outsL x.sigs).getD k default) 1))) (nT rfl) (Ch.s (dB (!(osOk x ((outsL x.sigs).getD k default) 1))) pm ?_)))
   cases h3 : (osOk x ((outsL x.sigs).getD k default) 1) with
   | true =>
    refine Ch.s (dB ((mcvF (x.sigs.length : Int) (osOn x ((outsL x.sigs).getD k default) 1) (osOff x ((outsL x.sigs).getD k default) 1)).2)) pm (Ch.s (dB (!((mcvF (x.sigs.length : Int) (osOn x ((outsL x.sigs).getD k default) 1) (osOff x ((outsL x.sigs).getD k default) 1)).2))) (nT rfl) (Ch.s (dB (!((mcvF (x.sigs.length : Int) (osOn x ((outsL x.sigs).getD k default) 1) (osOff x ((outsL x.sigs).getD k default) 1)).2))) (pF rfl) (Ch.nil ?_)))
    refine T_condN (b := ((mcvF (x.sigs.length : Int) (osOn x ((outsL x.sigs).getD k default) 1) (osOff x ((outsL x.sigs).getD k default) 1)).2)) rfl (fun h4 => ?_) (fun h4 => ?_)
    ·
     refine Ts hc (Ch.s (.agg [(.c (.slice none 0 0)), (.c (.slice none 0 0))]) (.build _ _ rfl stru63 .nil rfl) (Ch.s .junk (.storePtr _ _ _ rfl rfl rfl (.agg _ rfl) sz63 (lb rfl)) (Ch.s (dB false) pa (Ch.nil (T_ret ?_)))))
     exact eR [(.agg [(.c (.slice none 0 0)), (.c (.slice none 0 0))]), (dB false)] [] [] (.cons (.cellA _ _ rfl rfl ag63 sz63) (.cons (.tmp 5 rfl) .nil)) eB (.tup (.cons (.agg (.cons (Exp.of (congrArg (D.slice true 2) a1) (.nil true 2)) (.cons (Exp.of (congrArg (D.slice true 4) a1) (.nil true 4)) .nil)) rfl) (.cons (Exp.of (congrArg D.bool a1) (.d _)) .nil)))
    ·
     refine Tk (Ts hc (Ch.s (.row 57000) pm (Ch.s (.ptr 10000 2) (fP fld113_2 rfl) (Ch.s .junk (.storePtr _ _ _ rfl rfl rfl (.one _ rfl) sz23 (lb rfl)) (Ch.nil (Tq ?_))))))
     refine Ts hc (Ch.s (dI kd) pm (Ch.s (dB (decide (kd = 2))) (iX rfl rfl rfl) (Ch.nil ?_)))
     refine T_condD (p := (kd = 2)) rfl (fun h5 => ?_) (fun h5 => ?_)
     ·
      refine Ts hc (Ch.s (.agg (vX x)) (lA ag35 sz35 rfl rfl (lb rfl) rfl) (Ch.s (dI ((outsL x.sigs).getD k default)) pm ?_))
      refine Ch.step (v := (.tup [(.agg [(.row 74000), (.row 74001)]), (dB (osOk x ((outsL x.sigs).getD k default) 2))])) rfl (.call 74000 17 _ _ _ en17 rfl (.inl rfl) (.cons lX (.cons (.d _) .nil)) rfl (sol a68 rfl) (sp_spec_ResetFunctionSets x ((outsL x.sigs).getD k default) a46) (.skip _ _ (.skip _ _ .nil)) rfl) rfl rfl ?_
      refine Ch.s (.tup [(.agg [(.row 74000), (.row 74001)]), (dB (osOk x ((outsL x.sigs).getD k default) 2))]) pm (Ch.s (.agg [(.row 74000), (.row 74001)]) (xT rfl rfl) (Ch.s (dB (osOk x ((outsL x.sigs).getD k default) 2)) (xT rfl rfl) (Ch.s (.ptr 15000 0) (.alloc 15000 _ rfl zer29) (Ch.s .junk (.storePtr _ _ _ rfl rfl rfl (.agg _ rfl) sz29 (lb rfl)) (Ch.s (dB (osOk x ((outsL x.sigs).getD k default) 2)) pa (Ch.nil (Tq ?_)))))))
      refine Tz hc (Ch.s (dI (x.sigs.length : Int)) pm (Ch.s (.ptr 15000 0) (fP fld29_0 rfl) (Ch.s (.row 74000) (lP ag23 rfl rfl rfl) (Ch.s (.ptr 15000 1) (fP fld29_1 rfl) (Ch.s (.row 74001) (lP ag23 rfl rfl rfl) ?_)))))
      refine Ch.step (v := (.tup [(.row 83000), (dB ((mcvF (x.sigs.length : Int) (osOn x ((outsL x.sigs).getD k default) 2) (osOff x ((outsL x.sigs).getD k default) 2)).2))])) rfl (.call 83000 82 _ _ _ en82 rfl (.inl rfl) (.cons (.d _) (.cons (.lend (.row rfl (frozs_map (fun _ => rfl) _))) (.cons (.lend (.row rfl (frozs_map (fun _ => rfl) _))) .nil))) rfl (sol a115 rfl) (sp_spec_MinimumCover (x.sigs.length : Int) (osOn x ((outsL x.sigs).getD k default) 2) (osOff x ((outsL x.sigs).getD k default) 2) (by assumption) (by assumption) (by assumption) (by assumption)) (.skip _ _ (.skip _ _ (.skip _ _ .nil))) rfl) rfl rfl ?_
      refine Ch.s (.tup [(.row 83000), (dB ((mcvF (x.sigs.length : Int) (osOn x ((outsL x.sigs).getD k default) 2) (osOff x ((outsL x.sigs).getD k default) 2)).2))]) pm (Ch.s (.row 83000) (xT rfl rfl) (Ch.s (dB ((mcvF (x.sigs.length : Int) (osOn x ((outsL x.sigs).getD k default) 2) (osOff x ((outsL x.sigs).getD k default) 2)).2)) (xT rfl rfl) (Ch.s (.row 83000) pa (Ch.s (dB ((mcvF (x.sigs.length : Int) (osOn x ((outsL x.sigs).getD k default) 2) (osOff x ((outsL x.sigs).getD k default) 2)).2)) pa (Ch.nil (Tq (Tq ?_)))))))
      refine Tz hc (Ch.s (dB (osOk x ((outsL x.sigs).getD k default) 2)) pm (Ch.s (dB (!(osOk x ((outsL x.sigs).getD k default) 2))) (nT rfl) (Ch.s (dB (!(osOk x ((outsL x.sigs).getD k default) 2))) pm ?_)))
      cases h6 : (osOk x ((outsL x.sigs).getD k default) 2) with
      | true =>
       refine Ch.s (dB ((mcvF (x.sigs.length : Int) (osOn x ((outsL x.sigs).getD k default) 2) (osOff x ((outsL x.sigs).getD k default) 2)).2)) pm (Ch.s (dB (!((mcvF (x.sigs.length : Int) (osOn x ((outsL x.sigs).getD k default) 2) (osOff x ((outsL x.sigs).getD k default) 2)).2))) (nT rfl) (Ch.s (dB (!((mcvF (x.sigs.length : Int) (osOn x ((outsL x.sigs).getD k default) 2) (osOff x ((outsL x.sigs).getD k default) 2)).2))) (pF rfl) (Ch.nil ?_)))
       refine T_condN (b := ((mcvF (x.sigs.length : Int) (osOn x ((outsL x.sigs).getD k default) 2) (osOff x ((outsL x.sigs).getD k default) 2)).2)) rfl (fun h7 => ?_) (fun h7 => ?_)
       ·
        refine Ts hc (Ch.s (.agg [(.c (.slice none 0 0)), (.c (.slice none 0 0))]) (.build _ _ rfl stru63 .nil rfl) (Ch.s .junk (.storePtr _ _ _ rfl rfl rfl (.agg _ rfl) sz63 (lb rfl)) (Ch.s (dB false) pa (Ch.nil (T_ret ?_)))))
        exact eR [(.agg [(.c (.slice none 0 0)), (.c (.slice none 0 0))]), (dB false)] [] [] (.cons (.cellA _ _ rfl rfl ag63 sz63) (.cons (.tmp 5 rfl) .nil)) eB (.tup (.cons (.agg (.cons (Exp.of (congrArg (D.slice true 2) a1) (.nil true 2)) (.cons (Exp.of (congrArg (D.slice true 4) a1) (.nil true 4)) .nil)) rfl) (.cons (Exp.of (congrArg D.bool a1) (.d _)) .nil)))
       ·
        refine Tk (Tz hc (Ch.s (.row 83000) pm (Ch.s (.ptr 10000 3) (fP fld113_3 rfl) (Ch.s .junk (.storePtr _ _ _ rfl rfl rfl (.one _ rfl) sz23 (lb rfl)) (Ch.nil (Tz hc (Ch.s (.ptr 6000 1) (fP fld63_1 rfl) ?_)))))))
        refine Ch.s (.row 7701) (lP ag61 rfl rfl rfl) (Ch.s (.agg [(dI ((outsL x.sigs).getD k default)), (dI kd), (.row 57000), (.row 83000)]) (lA ag113 sz113 rfl rfl (lb rfl) rfl) (Ch.s (.row 98000) (.slice 98000 _ 113 _ rfl sty61 (xs := [.tmp 97]) rfl rfl (.cons (.agg (.cons (.d _) (.cons (.d _) (.cons (.row rfl) (.cons (.row rfl) .nil)))) rfl) .nil) rfl rfl (by decide)) ?_))
        refine Ch.step (v := (.row 99000)) rfl (.append 99000 _ _ _ 113 rfl sty61 (by decide) (.rowK rfl) (.inr ⟨_, rfl, rfl⟩) (.rowK rfl) rfl a69) rfl rfl ?_
        refine Ch.s (.ptr 6000 1) (fP fld63_1 rfl) (Ch.s .junk (.storePtr _ _ _ rfl rfl rfl (.one _ rfl) sz61 (lb rfl)) (Ch.nil (Tz hc (Ch.s (dI ((k : Int) + 1)) (iX rfl rfl intV_addA) (Ch.s (dI ((k : Int) + 1)) pm (Ch.nil ?_))))))
        exact nx (k + 1) ⟨by omega, upto_succ hp0.2 (by first | exact gtK_ok_c (by assumption) (by assumption) (by assumption) | exact gtK_ok_m (by assumption) (by assumption) (by assumption) (by assumption) (by assumption) | (exfalso; contradiction))⟩ (Wk.ren [(7701, 99000)] rfl rfl rfl rfl (ar (ar (ar (ar (ar (ar (ar (ai (vI a126) trivial)))))))) (ar (ar (ai (oB (Eq.trans (b := [(.row 7700), (.row 99000)]) rfl (by rfl))) (ar (ai (oR a27) (ar trivial)))))))
      | false =>
       refine Ck (Ck (Ch.s (dB true) (pT rfl) (Ch.nil ?_)))
       refine T_cond (b := true) rfl (fun _ => ?_) (fun h => nomatch h)
       refine Ts hc (Ch.s (.agg [(.c (.slice none 0 0)), (.c (.slice none 0 0))]) (.build _ _ rfl stru63 .nil rfl) (Ch.s .junk (.storePtr _ _ _ rfl rfl rfl (.agg _ rfl) sz63 (lb rfl)) (Ch.s (dB false) pa (Ch.nil (T_ret ?_)))))
       exact eR [(.agg [(.c (.slice none 0 0)), (.c (.slice none 0 0))]), (dB false)] [] [] (.cons (.cellA _ _ rfl rfl ag63 sz63) (.cons (.tmp 5 rfl) .nil)) eB (.tup (.cons (.agg (.cons (Exp.of (congrArg (D.slice true 2) a1) (.nil true 2)) (.cons (Exp.of (congrArg (D.slice true 4) a1) (.nil true 4)) .nil)) rfl) (.cons (Exp.of (congrArg D.bool a1) (.d _)) .nil)))
     ·
      exfalso; omega
   | false =>
    refine Ck (Ck (Ch.s (dB true) (pT rfl) (Ch.nil ?_)))
    refine T_cond (b := true) rfl (fun _ => ?_) (fun h => nomatch h)
    refine Ts hc (Ch.s (.agg [(.c (.slice none 0 0)), (.c (.slice none 0 0))]) (.build _ _ rfl stru63 .nil rfl) (Ch.s .junk (.storePtr _ _ _ rfl rfl rfl (.agg _ rfl) sz63 (lb rfl)) (Ch.s (dB false) pa (Ch.nil (T_ret ?_)))))
    exact eR [(.agg [(.c (.slice none 0 0)), (.c (.slice none 0 0))]), (dB false)] [] [] (.cons (.cellA _ _ rfl rfl ag63 sz63) (.cons (.tmp 5 rfl) .nil)) eB (.tup (.cons (.agg (.cons (Exp.of (congrArg (D.slice true 2) a1) (.nil true 2)) (.cons (Exp.of (congrArg (D.slice true 4) a1) (.nil true 4)) .nil)) rfl) (.cons (Exp.of (congrArg D.bool a1) (.d _)) .nil)))
  ·
   exfalso; omega
 ·
  refine T_exit (Ts hc (Ch.s (.agg [(.row 7700), (.row 7701)]) (lA ag63 sz63 rfl rfl (lb rfl) rfl) (Ch.s .junk (.storePtr _ _ _ rfl rfl rfl (.agg _ rfl) sz63 (lb rfl)) (Ch.s (dB true) pa (Ch.nil (T_ret ?_))))))
  exact eR [(.agg [(.row 7700), (.row 7701)]), (dB true)] [] [7700, 7701] (.cons (.cellA _ _ rfl rfl ag63 sz63) (.cons (.tmp 5 rfl) .nil)) eB (.tup (.cons (.agg (.cons (Exp.of (congrArg (D.slice true 2) a1) (.row rfl)) (.cons (Exp.of (congrArg (D.slice true 4) a1) (.row rfl)) .nil)) rfl) (.cons (Exp.of (congrArg D.bool a1) (.d _)) .nil)))

theorem sp_spec_GeneralizedCCircuit (x : Sgr) (hb : x.bulk ≤ 1048576) : Sp Tryz.prog 47 [(.agg [(.slice false 2 (x.sigs.map Sgn.d)), (.slice false 1 (x.codes.map D.str)), (.slice false 4 (x.arcs.map Arc.d))])] [.any] (.tup [(.agg [(.slice true 2 (((cirV (gtK x 2) x).sigs).map Sgn.d)), (.slice true 4 (((cirV (gtK x 2) x).gates).map Gat.u))]), (.bool (cirB (gtK x 2) x))]) := by
 refine Sp_intro (lend := true) Tryz.func47 rfl rfl rfl (fun _ => rfl) (fun c hc hX => ?_)
 obtain ⟨hp0, hp1, hp2⟩ := Sgr.parts hb
 have hn0 := bulkF_len hp0
 have hn1 := bulk_len hp1
 have hx1 := bulk_mem hp1
 have hn2 := bulkF_len hp2; have hol := outs_len x.sigs
 refine Ts hc (Ch.s (.ptr 1000 0) (.box 1000 _ _ rfl (.aggD _)) (Ch.s (.ptr 2000 0) (.alloc 2000 _ rfl zer63) (Ch.s (dB false) pa (Ch.nil (Tq (Tq ?_))))))
 refine Tz hc (Ch.s (.agg (vX x)) (lA ag35 sz35 rfl rfl (lb rfl) rfl) (Ch.s (dB (sgB x)) (.call 5000 93 _ _ _ en93 rfl (.inl rfl) (.cons lX .nil) rfl rfl (sp_spec_l5Good x a46) (.skip _ _ .nil) rfl) (Ch.s (dB (!(sgB x))) (nT rfl) (Ch.s (dB (!(sgB x))) pm ?_))))
 cases h1 : (sgB x) with
 | true =>
  try have hx := sg_has (by first | assumption | exact made_sg h1)
  try have hmd : madeB x = true := by first | assumption | (rw [madeB, h1, Bool.true_and]; exact decide_eq_true h2)
  refine Ch.s (.agg (vX x)) (lA ag35 sz35 rfl rfl (lb rfl) rfl) (Ch.s (dS (whyW x)) (.call 9000 94 _ _ _ en94 rfl (.inl rfl) (.cons lX .nil) rfl rfl (sp_spec_l6Why x a46 (by assumption)) (.skip _ _ .nil) rfl) (Ch.s (dB (!(decide ((whyW x) = [109, 97, 100, 101])))) (.pure (.str _ _ _ _ _ rfl rfl rfl rfl)) (Ch.s (dB (!(decide ((whyW x) = [109, 97, 100, 101])))) (pF rfl) (Ch.nil ?_))))
  refine T_condN (b := (decide ((whyW x) = [109, 97, 100, 101]))) rfl (fun h2 => ?_) (fun h2 => ?_)
  ·
   replace h2 := odf h2
   try have hmd : madeB x = true := by first | assumption | (rw [madeB, h1, Bool.true_and]; exact decide_eq_true h2)
   refine Ts hc (Ch.s (.agg [(.c (.slice none 0 0)), (.c (.slice none 0 0))]) (.build _ _ rfl stru63 .nil rfl) (Ch.s .junk (.storePtr _ _ _ rfl rfl rfl (.agg _ rfl) sz63 (lb rfl)) (Ch.s (dB false) pa (Ch.nil (T_ret ?_)))))
   exact eR [(.agg [(.c (.slice none 0 0)), (.c (.slice none 0 0))]), (dB false)] [] [] (.cons (.cellA _ _ rfl rfl ag63 sz63) (.cons (.tmp 3 rfl) .nil)) eA (.tup (.cons (.agg (.cons (Exp.of (congrArg (D.slice true 2) a24) (.nil true 2)) (.cons (Exp.of (congrArg (D.slice true 4) a24) (.nil true 4)) .nil)) rfl) (.cons (Exp.of (congrArg D.bool a24) (.d _)) .nil)))
  ·
   replace h2 := odt h2
   try have hmd : madeB x = true := by first | assumption | (rw [madeB, h1, Bool.true_and]; exact decide_eq_true h2)
   refine Tk (Ts hc (Ch.s (.agg (vX x)) (lA ag35 sz35 rfl rfl (lb rfl) rfl) ?_))
   refine Ch.step (v := (.tup [(.agg [(.row 14000), (.row 14001)]), (dB (gtB (gtK x 2) (outsL x.sigs)))])) rfl (.call 14000 95 _ _ _ en95 rfl (.inl rfl) (.cons lX (.cons (.d _) .nil)) rfl (sol a129 rfl) (sp_l16Make2 x 2 a46 rfl) (.skip _ _ (.skip _ _ .nil)) rfl) rfl rfl ?_
   refine Ch.s (.agg [(.row 14000), (.row 14001)]) (xT rfl rfl) (Ch.s (dB (gtB (gtK x 2) (outsL x.sigs))) (xT rfl rfl) (Ch.s .junk (.storePtr _ _ _ rfl rfl rfl (.agg _ rfl) sz63 (lb rfl)) (Ch.s (dB (gtB (gtK x 2) (outsL x.sigs))) pa (Ch.nil (T_ret ?_)))))
   exact eR [(.agg [(.row 14000), (.row 14001)]), (dB (gtB (gtK x 2) (outsL x.sigs)))] [] [14000, 14001] (.cons (.cellA _ _ rfl rfl ag63 sz63) (.cons (.tmp 3 rfl) .nil)) eA (.tup (.cons (.agg (.cons (Exp.of (congrArg (D.slice true 2) a24) (.row rfl)) (.cons (Exp.of (congrArg (D.slice true 4) a24) (.row rfl)) .nil)) rfl) (.cons (Exp.of (congrArg D.bool a24) (.d _)) .nil)))
 | false =>
  try have hx := sg_has (by first | assumption | exact made_sg h1)
  try have hmd : madeB x = true := by first | assumption | (rw [madeB, h1, Bool.true_and]; exact decide_eq_true h2)
  refine Ck (Ck (Ck (Ch.s (dB true) (pT rfl) (Ch.nil ?_))))
  refine T_cond (b := true) rfl (fun _ => ?_) (fun h => nomatch h)
  refine Ts hc (Ch.s (.agg [(.c (.slice none 0 0)), (.c (.slice none 0 0))]) (.build _ _ rfl stru63 .nil rfl) (Ch.s .junk (.storePtr _ _ _ rfl rfl rfl (.agg _ rfl) sz63 (lb rfl)) (Ch.s (dB false) pa (Ch.nil (T_ret ?_)))))
  exact eR [(.agg [(.c (.slice none 0 0)), (.c (.slice none 0 0))]), (dB false)] [] [] (.cons (.cellA _ _ rfl rfl ag63 sz63) (.cons (.tmp 3 rfl) .nil)) eA (.tup (.cons (.agg (.cons (Exp.of (congrArg (D.slice true 2) a24) (.nil true 2)) (.cons (Exp.of (congrArg (D.slice true 4) a24) (.nil true 4)) .nil)) rfl) (.cons (Exp.of (congrArg D.bool a24) (.d _)) .nil)))

theorem sp_Clone_sgn (xs : List Sgn) (hn : xs.length ≤ 1048576) : Sp Tryz.prog 172 [(.slice false 2 (xs.map Sgn.d))] [.any] (.slice true 2 (xs.map Sgn.d)) := by
 refine Sp_intro (lend := true) Tryz.func172 rfl rfl rfl (fun _ => rfl) (fun c hc hX => ?_)
 refine Ts hc (Ch.s (.c (.slice none 0 0)) pa (Ch.nil (Tq (Ts hc (Ch.s (.d (.slice false 2 (xs.map Sgn.d))) pm ?_)))))
 refine Ch.nilq (sz := 2) (xs := (xs.map Sgn.d)) _ _ _ _ 154 rfl rfl Tryz.underlying32 (.sh _ _) rfl rfl (fun q1 hzq1 => ?_)
 refine Ch.nil ?_
 refine T_cond (b := (q1)) rfl (fun h1 => ?_) (fun h1 => ?_)
 ·
  try have hz := hzq1 h1
  refine Ts hc (Ch.s (.c (.slice none 0 0)) pa (Ch.nil (T_ret ?_)))
  exact eR [(.c (.slice none 0 0))] [] [] (.cons (.tmp 2 rfl) .nil) eA (Exp.of (congrArg (D.slice true 2) (by first | rfl | (rw [hz]; done))) (.nil true 2))
 ·
  try have hz := hzq1 h1
  refine Tk (Ts hc (Ch.s (.row 5000) (.slice 5000 _ 154 _ rfl sty32 (xs := []) rfl rfl .nil rfl rfl (by decide)) (Ch.s (.d (.slice false 2 (xs.map Sgn.d))) pm ?_)))
  refine Ch.step (v := (.row 7000)) rfl (.append 7000 _ _ _ 154 rfl sty32 (by decide) (.rowK rfl) (.inr ⟨_, rfl, rfl⟩) (.sh _ _) rfl a69) rfl rfl ?_
  refine Ch.s (.row 7000) pa (Ch.nil (T_ret ?_))
  exact eR [(.row 7000)] [] [7000] (.cons (.tmp 2 rfl) .nil) eA (.row rfl)

set_option maxHeartbeats 2000000 in
theorem sp_impl_circuitOf (x : Sgr) (f : FuncId) (caps : List D) (gt : Int → Gat × Bool) (hf : Enters Tryz.prog f) (hg : ∀ s ∈ outsL x.sigs, Sp Tryz.prog f (.int .i64 s :: caps) (.any :: anys caps) (.tup [(.agg [(.int .i64 (((gt s).1).sig)), (.int .i64 (((gt s).1).kind)), (.slice true 1 ((((gt s).1).ups).map D.str)), (.slice true 1 ((((gt s).1).downs).map D.str))]), (.bool ((gt s).2))])) (hb : x.bulk ≤ 1048576) : Sp Tryz.prog 96 [(.agg [(.slice false 2 (x.sigs.map Sgn.d)), (.slice false 1 (x.codes.map D.str)), (.slice false 4 (x.arcs.map Arc.d))]), (.fn f caps)] [.any, .any] (.tup [(.agg [(.slice true 2 (((cirV gt x).sigs).map Sgn.d)), (.slice true 4 (((cirV gt x).gates).map Gat.u))]), (.bool (cirB gt x))]) := by
 refine Sp_intro (lend := true) Tryz.func96 rfl rfl rfl (fun _ => rfl) (fun c hc hX => ?_)
 obtain ⟨hp0, hp1, hp2⟩ := Sgr.parts hb
 have hn0 := bulkF_len hp0
 have hn1 := bulk_len hp1
 have hx1 := bulk_mem hp1
 have hn2 := bulkF_len hp2; have hol := outs_len x.sigs
 refine Ts hc (Ch.s (.ptr 2000 0) (.box 2000 _ _ rfl (.aggD _)) (Ch.s (.ptr 4000 0) (.alloc 4000 _ rfl zer63) (Ch.s (dB false) pa (Ch.nil (Tq (Tq ?_))))))
 refine Tz hc (Ch.s (.agg (vX x)) (lA ag35 sz35 rfl rfl (lb rfl) rfl) (Ch.s (.tup [(dB (madeB x)), (dB (sgB x))]) (.call 15000 171 _ _ _ en171 rfl (.inl rfl) (.cons lX .nil) rfl rfl (sp_impl_IsImplementable x a46) (.skip _ _ .nil) rfl) (Ch.s (.tup [(dB (madeB x)), (dB (sgB x))]) pm (Ch.s (dB (madeB x)) (xT rfl rfl) (Ch.s (dB (sgB x)) (xT rfl rfl) (Ch.s (dB (madeB x)) pa (Ch.s (dB (sgB x)) pa ?_)))))))
 refine Ch.nil (Ts hc (Ch.s (dB (sgB x)) pm (Ch.s (dB (!(sgB x))) (nT rfl) (Ch.s (dB (!(sgB x))) pm ?_))))
 cases h1 : (sgB x) with
 | true =>
  refine Ch.s (dB (madeB x)) pm (Ch.s (dB (!(madeB x))) (nT rfl) (Ch.s (dB (!(madeB x))) (pF rfl) (Ch.nil ?_)))
  refine T_condN (b := (madeB x)) rfl (fun h2 => ?_) (fun h2 => ?_)
  ·
   refine Ts hc (Ch.s (.agg [(.c (.slice none 0 0)), (.c (.slice none 0 0))]) (.build _ _ rfl stru63 .nil rfl) (Ch.s .junk (.storePtr _ _ _ rfl rfl rfl (.agg _ rfl) sz63 (lb rfl)) (Ch.s (dB false) pa (Ch.nil (T_ret ?_)))))
   exact eR [(.agg [(.c (.slice none 0 0)), (.c (.slice none 0 0))]), (dB false)] [] [] (.cons (.cellA _ _ rfl rfl ag63 sz63) (.cons (.tmp 5 rfl) .nil)) eB (.tup (.cons (.agg (.cons (Exp.of (congrArg (D.slice true 2) a9) (.nil true 2)) (.cons (Exp.of (congrArg (D.slice true 4) a9) (.nil true 4)) .nil)) rfl) (.cons (Exp.of (congrArg D.bool a9) (.d _)) .nil)))
  ·
   refine Tk (Ts hc (Ch.s (.ptr 2000 0) (fP fld35_0 rfl) (Ch.s (.d (.slice false 2 (x.sigs.map Sgn.d))) (lP ag32 rfl rfl rfl) ?_)))
   refine Ch.step (v := (.row 27000)) rfl (.call 27000 172 _ _ _ en172 rfl (.inl rfl) (.cons (.d _) .nil) rfl (sol (solid_row (fun _ => rfl) _) rfl) (sp_Clone_sgn x.sigs a46) (.skip _ _ .nil) rfl) rfl rfl ?_
   refine Ch.s (.agg [(.row 27000), (.c (.slice none 0 0))]) (.build _ _ rfl stru63 (.cons (.one _ rfl) .nil) rfl) (Ch.s (.ptr 8000 0) (.alloc 8000 _ rfl zer63) (Ch.s .junk (.storePtr _ _ _ rfl rfl rfl (.agg _ rfl) sz63 (lb rfl)) (Ch.nil (Tq (Ts hc (Ch.s (.agg (vX x)) (lA ag35 sz35 rfl rfl (lb rfl) rfl) ?_))))))
   refine Ch.step (v := (.row 30000)) rfl (.call 30000 173 _ _ _ en173 rfl (.inl rfl) (.cons lX .nil) rfl (sol (solid_row (fun _ => rfl) _) rfl) (sp_impl_outputs x a51) (.skip _ _ .nil) rfl) rfl rfl ?_
   refine Ch.s (dI ((outsL x.sigs).length : Int)) (.pure (.len _ _ 3 rfl Tryz.underlying55 (.row rfl) (by simp))) (Ch.s (dI 0) pm (Ch.nil (Tb ?_)))
   refine T_loop (ι := Nat) (fun k => { n := 53, sl := [(1, (.d (.fn f caps))), (4, (.ptr 4000 0)), (8, (.ptr 8000 0)), (30, (.row 30000)), (31, (dI ((outsL x.sigs).length : Int))), (32, (dI (k : Int)))], hp := [(4000, (some (.box [(.c (.slice none 0 0)), (.c (.slice none 0 0))]))), (7700, (some (.row 2 (x.sigs.map Sgn.d)))), (7701, (some (.row 4 ((gtL gt (outsL x.sigs) k).map Gat.u)))), (8000, (some (.box [(.row 7700), (.row 7701)]))), (30000, (some (.row 1 ((outsL x.sigs).map (fun n : Int => D.int .i64 n)))))], pin := [] }) (fun k => k ≤ (outsL x.sigs).length ∧ ∀ j, j < k → (gt ((outsL x.sigs).getD j default)).2 = true) (fun k => (outsL x.sigs).length - k) ⟨0, ⟨by omega, fun j hj => by omega⟩, (Wk.trans (Wk.nilcell 8000 1 990001 4 rfl rfl rfl) (Wk.ren [(7700, 27000), (7701, 990001)] rfl rfl rfl rfl (ar (ar (ar (ar (ar (ai (vI a126) trivial)))))) (ar (ar (ai (oR (by first | rfl | (exact push rfl (gt_succ (by omega))))) (ai (oB (Eq.trans (b := [(.row 27000), (.row 990001)]) rfl (by rfl))) (ar trivial)))))))⟩ (fun k hp0 => ?_)
   have hgl := gt_le gt (outsL x.sigs) k
   refine Ts hc (Ch.s (dB (decide ((k : Int) < ((outsL x.sigs).length : Int)))) (iX rfl rfl rfl) (Ch.nil (Tq ?_)))
   refine T_condD (p := ((k : Int) < ((outsL x.sigs).length : Int))) rfl (fun h3 => ?_) (fun h3 => ?_)
   ·
    refine Tk (Tq (Tb (Ts hc (Ch.s (.el 30000 1 k 0) (.pure (.idxRow _ _ _ 3 (k) rfl Tryz.underlying55 sz3 rfl rfl rfl rfl a96)) (Ch.s (dI ((outsL x.sigs).getD k default)) (.pure (.loadEl1 _ _ rfl ag3 rfl rfl get_mapA rfl rfl rfl)) (Ch.s (dI ((outsL x.sigs).getD k default)) pa ?_))))))
    refine Ch.nil (Ts hc (Ch.s (.d (.fn f caps)) pm (Ch.s (dI ((outsL x.sigs).getD k default)) pm ?_)))
    refine Ch.step (v := (.tup [(.agg [(dI (((gt ((outsL x.sigs).getD k default)).1).sig)), (dI (((gt ((outsL x.sigs).getD k default)).1).kind)), (.row 39000), (.row 39001)]), (dB ((gt ((outsL x.sigs).getD k default)).2))])) rfl (.callS 39000 f _ #[.tmp 38] _ hf rfl (.inr ⟨caps, rfl, rfl⟩) (.cons (.d _) (exps_ds caps)) rfl (hg _ (getD_mem (by omega))) (.skip _ _ (back_anys caps)) rfl) rfl rfl ?_
    refine Ch.s (.tup [(.agg [(dI (((gt ((outsL x.sigs).getD k default)).1).sig)), (dI (((gt ((outsL x.sigs).getD k default)).1).kind)), (.row 39000), (.row 39001)]), (dB ((gt ((outsL x.sigs).getD k default)).2))]) pm (Ch.s (.agg [(dI (((gt ((outsL x.sigs).getD k default)).1).sig)), (dI (((gt ((outsL x.sigs).getD k default)).1).kind)), (.row 39000), (.row 39001)]) (xT rfl rfl) (Ch.s (dB ((gt ((outsL x.sigs).getD k default)).2)) (xT rfl rfl) (Ch.s (.ptr 11000 0) (.alloc 11000 _ rfl zer113) (Ch.s .junk (.storePtr _ _ _ rfl rfl rfl (.agg _ rfl) sz113 (lb rfl)) (Ch.s (dB ((gt ((outsL x.sigs).getD k default)).2)) pa (Ch.nil (Tq ?_)))))))
    refine Ts hc (Ch.s (dB ((gt ((outsL x.sigs).getD k default)).2)) pm (Ch.s (dB (!((gt ((outsL x.sigs).getD k default)).2))) (nT rfl) (Ch.nil ?_)))
    refine T_condN (b := ((gt ((outsL x.sigs).getD k default)).2)) rfl (fun h4 => ?_) (fun h4 => ?_)
    ·
     refine Ts hc (Ch.s (.agg [(.c (.slice none 0 0)), (.c (.slice none 0 0))]) (.build _ _ rfl stru63 .nil rfl) (Ch.s .junk (.storePtr _ _ _ rfl rfl rfl (.agg _ rfl) sz63 (lb rfl)) (Ch.s (dB false) pa (Ch.nil (T_ret ?_)))))
     exact eR [(.agg [(.c (.slice none 0 0)), (.c (.slice none 0 0))]), (dB false)] [] [] (.cons (.cellA _ _ rfl rfl ag63 sz63) (.cons (.tmp 5 rfl) .nil)) eB (.tup (.cons (.agg (.cons (Exp.of (congrArg (D.slice true 2) a9) (.nil true 2)) (.cons (Exp.of (congrArg (D.slice true 4) a9) (.nil true 4)) .nil)) rfl) (.cons (Exp.of (congrArg D.bool a9) (.d _)) .nil)))
    ·
     refine Tk (Tz hc (Ch.s (.ptr 8000 1) (fP fld63_1 rfl) (Ch.s (.row 7701) (lP ag61 rfl rfl rfl) (Ch.s (.agg [(dI (((gt ((outsL x.sigs).getD k default)).1).sig)), (dI (((gt ((outsL x.sigs).getD k default)).1).kind)), (.row 39000), (.row 39001)]) (lA ag113 sz113 rfl rfl (lb rfl) rfl) (Ch.s (.row 48000) (.slice 48000 _ 113 _ rfl sty61 (xs := [.tmp 47]) rfl rfl (.cons (.agg (.cons (.d _) (.cons (.d _) (.cons (.row rfl) (.cons (.row rfl) .nil)))) rfl) .nil) rfl rfl (by decide)) ?_)))))
     refine Ch.step (v := (.row 49000)) rfl (.append 49000 _ _ _ 113 rfl sty61 (by decide) (.rowK rfl) (.inr ⟨_, rfl, rfl⟩) (.rowK rfl) rfl a69) rfl rfl ?_
     refine Ch.s (.ptr 8000 1) (fP fld63_1 rfl) (Ch.s .junk (.storePtr _ _ _ rfl rfl rfl (.one _ rfl) sz61 (lb rfl)) (Ch.nil (Tz hc (Ch.s (dI ((k : Int) + 1)) (iX rfl rfl intV_addA) (Ch.s (dI ((k : Int) + 1)) pm (Ch.nil ?_))))))
     exact nx (k + 1) ⟨by omega, upto_succ hp0.2 (by assumption)⟩ (Wk.ren [(7701, 49000)] rfl rfl rfl rfl (ar (ar (ar (ar (ar (ai (vI a126) trivial)))))) (ar (ar (ai (oR (by first | rfl | (exact push rfl (gt_succ (by omega))))) (ai (oB (Eq.trans (b := [(.row 7700), (.row 49000)]) rfl (by rfl))) (ar trivial))))))
   ·
    refine T_exit (Ts hc (Ch.s (.agg [(.row 7700), (.row 7701)]) (lA ag63 sz63 rfl rfl (lb rfl) rfl) (Ch.s .junk (.storePtr _ _ _ rfl rfl rfl (.agg _ rfl) sz63 (lb rfl)) (Ch.s (dB true) pa (Ch.nil (T_ret ?_))))))
    exact eR [(.agg [(.row 7700), (.row 7701)]), (dB true)] [] [7700, 7701] (.cons (.cellA _ _ rfl rfl ag63 sz63) (.cons (.tmp 5 rfl) .nil)) eB (.tup (.cons (.agg (.cons (Exp.of (congrArg (D.slice true 2) a9) (.row rfl)) (.cons (Exp.of (congrArg (D.slice true 4) a9) (.row rfl)) .nil)) rfl) (.cons (Exp.of (congrArg D.bool a9) (.d _)) .nil)))
 | false =>
  refine Ck (Ck (Ch.s (dB true) (pT rfl) (Ch.nil ?_)))
  refine T_cond (b := true) rfl (fun _ => ?_) (fun h => nomatch h)
  refine Ts hc (Ch.s (.agg [(.c (.slice none 0 0)), (.c (.slice none 0 0))]) (.build _ _ rfl stru63 .nil rfl) (Ch.s .junk (.storePtr _ _ _ rfl rfl rfl (.agg _ rfl) sz63 (lb rfl)) (Ch.s (dB false) pa (Ch.nil (T_ret ?_)))))
  exact eR [(.agg [(.c (.slice none 0 0)), (.c (.slice none 0 0))]), (dB false)] [] [] (.cons (.cellA _ _ rfl rfl ag63 sz63) (.cons (.tmp 5 rfl) .nil)) eB (.tup (.cons (.agg (.cons (Exp.of (congrArg (D.slice true 2) a9) (.nil true 2)) (.cons (Exp.of (congrArg (D.slice true 4) a9) (.nil true 4)) .nil)) rfl) (.cons (Exp.of (congrArg D.bool a9) (.d _)) .nil)))

theorem sp_min_is (n : Int) (on off : List (List UInt8)) (hn1 : on.length ≤ 1048576) (hn2 : off.length ≤ 1048576) (h : onoffB n on off = true) : Sp Tryz.prog 104 [.int .i64 n, .slice false 1 (on.map D.str), .slice false 1 (off.map D.str)] [.any, .any, .any] (.tup [.slice true 1 ((mcvF n on off).1.map D.str), .bool (mcvF n on off).2]) := by
 have hop := onoff_parts h
 have h1 := hop.1
 rw [mcvF_min h]
 exact sp_impl_minimum n on off (by omega) (by omega) hn1 hn2 hop.2.2.2.1 hop.2.2.2.2

set_option maxHeartbeats 1000000 in
theorem sp_impl_GeneralizedCCircuit_1 (s : Int) (x : Sgr) (hb : x.bulk ≤ 1048576) : Sp Tryz.prog 102 [(.int .i64 s), (.ref (.agg [(.slice false 2 (x.sigs.map Sgn.d)), (.slice false 1 (x.codes.map D.str)), (.slice false 4 (x.arcs.map Arc.d))]))] [.any, .any] (.tup [(.agg [(.int .i64 (((gtK x 2 s).1).sig)), (.int .i64 (((gtK x 2 s).1).kind)), (.slice true 1 ((((gtK x 2 s).1).ups).map D.str)), (.slice true 1 ((((gtK x 2 s).1).downs).map D.str))]), (.bool ((gtK x 2 s).2))]) := by
 refine Sp_intro (lend := true) Tryz.func102 rfl rfl rfl (fun _ => rfl) (fun c hc hX => ?_)
 obtain ⟨hp0, hp1, hp2⟩ := Sgr.parts hb
 have hn0 := bulkF_len hp0
 have hn1 := bulk_len hp1
 have hx1 := bulk_mem hp1
 have hn2 := bulkF_len hp2; have hol := outs_len x.sigs; have hlo1 := Nat.le_trans (osOn_le x s 1) hn1; have hlf1 := Nat.le_trans (osOff_le x s 1) hn1; have hxo1 : ∀ u ∈ osOn x s 1, u.length ≤ 1048576 := fun u hu => hx1 u (osOn_in x s 1 u hu); have hxf1 : ∀ u ∈ osOff x s 1, u.length ≤ 1048576 := fun u hu => hx1 u (osOff_in x s 1 u hu); have hlo2 := Nat.le_trans (osOn_le x s 2) hn1; have hlf2 := Nat.le_trans (osOff_le x s 2) hn1; have hxo2 : ∀ u ∈ osOn x s 2, u.length ≤ 1048576 := fun u hu => hx1 u (osOn_in x s 2 u hu); have hxf2 : ∀ u ∈ osOff x s 2, u.length ≤ 1048576 := fun u hu => hx1 u (osOff_in x s 2 u hu)
 refine Ts hc (Ch.s (.ptr 3000 0) (.alloc 3000 _ rfl zer113) (Ch.s (dB false) pa (Ch.nil (Ts hc (Ch.s (.d (.agg [(.slice false 2 (x.sigs.map Sgn.d)), (.slice false 1 (x.codes.map D.str)), (.slice false 4 (x.arcs.map Arc.d))])) (.pure (.loadRefA _ _ rfl ag35 sz35 rfl)) ?_)))))
 refine Ch.s (dI s) pm ?_
 refine Ch.step (v := (.tup [(.agg [(.row 16000), (.row 16001)]), (dB (osOk x s 1))])) rfl (.call 16000 103 _ _ _ en103 rfl (.inl rfl) (.cons (.d _) (.cons (.d _) .nil)) rfl (sol a68 rfl) (sp_impl_SetFunctionSets x s a46) (.skip _ _ (.skip _ _ .nil)) rfl) rfl rfl ?_
 refine Ch.s (.tup [(.agg [(.row 16000), (.row 16001)]), (dB (osOk x s 1))]) pm (Ch.s (.agg [(.row 16000), (.row 16001)]) (xT rfl rfl) (Ch.s (dB (osOk x s 1)) (xT rfl rfl) (Ch.s (.ptr 5000 0) (.alloc 5000 _ rfl zer29) (Ch.s .junk (.storePtr _ _ _ rfl rfl rfl (.agg _ rfl) sz29 (lb rfl)) (Ch.s (dB (osOk x s 1)) pa (Ch.nil (Tq ?_)))))))
 refine Tz hc (Ch.s (.d (.agg [(.slice false 2 (x.sigs.map Sgn.d)), (.slice false 1 (x.codes.map D.str)), (.slice false 4 (x.arcs.map Arc.d))])) (.pure (.loadRefA _ _ rfl ag35 sz35 rfl)) (Ch.s (dI s) pm ?_))
 refine Ch.step (v := (.tup [(.agg [(.row 22000), (.row 22001)]), (dB (osOk x s 2))])) rfl (.call 22000 19 _ _ _ en19 rfl (.inl rfl) (.cons (.d _) (.cons (.d _) .nil)) rfl (sol a68 rfl) (sp_impl_ResetFunctionSets x s a46) (.skip _ _ (.skip _ _ .nil)) rfl) rfl rfl ?_
 refine Ch.s (.tup [(.agg [(.row 22000), (.row 22001)]), (dB (osOk x s 2))]) pm (Ch.s (.agg [(.row 22000), (.row 22001)]) (xT rfl rfl) (Ch.s (dB (osOk x s 2)) (xT rfl rfl) (Ch.s (.ptr 7000 0) (.alloc 7000 _ rfl zer29) (Ch.s .junk (.storePtr _ _ _ rfl rfl rfl (.agg _ rfl) sz29 (lb rfl)) (Ch.s (dB (osOk x s 2)) pa (Ch.nil (Tq ?_)))))))
 refine Ts hc (Ch.s (dB (osOk x s 1)) pm (Ch.s (dB (!(osOk x s 1))) (nT rfl) (Ch.s (dB (!(osOk x s 1))) pm ?_)))
 cases h1 : (osOk x s 1) with
 | true =>
  refine Ch.s (dB (osOk x s 2)) pm (Ch.s (dB (!(osOk x s 2))) (nT rfl) (Ch.s (dB (!(osOk x s 2))) (pF rfl) (Ch.nil ?_)))
  refine T_condN (b := (osOk x s 2)) rfl (fun h2 => ?_) (fun h2 => ?_)
  ·
   refine Ts hc (Ch.s (.agg [(dI 0), (dI 0), (.c (.slice none 0 0)), (.c (.slice none 0 0))]) (.build _ _ rfl stru113 .nil rfl) (Ch.s .junk (.storePtr _ _ _ rfl rfl rfl (.agg _ rfl) sz113 (lb rfl)) (Ch.s (dB false) pa (Ch.nil (T_ret ?_)))))
   exact eR [(.agg [(dI 0), (dI 0), (.c (.slice none 0 0)), (.c (.slice none 0 0))]), (dB false)] [] [] (.cons (.cellA _ _ rfl rfl ag113 sz113) (.cons (.tmp 4 rfl) .nil)) eB (.tup (.cons (.agg (.cons (Exp.of (congrArg (D.int .i64) a25) (.d _)) (.cons (Exp.of (congrArg (D.int .i64) a25) (.d _)) (.cons (Exp.of (congrArg (D.slice true 1) a25) (.nil true 1)) (.cons (Exp.of (congrArg (D.slice true 1) a25) (.nil true 1)) .nil)))) rfl) (.cons (Exp.of (congrArg D.bool a25) (.d _)) .nil)))
  ·
   refine Tk (Ts hc (Ch.s (.d (.ref (.slice false 2 (x.sigs.map Sgn.d)))) (.pure (.fldRef _ _ _ rfl fld35_0 rfl rfl rfl)) (Ch.s (.d (.slice false 2 (x.sigs.map Sgn.d))) (rF ag32 rfl rfl) (Ch.s (dI (x.sigs.length : Int)) (.pure (.len _ _ 154 rfl Tryz.underlying32 (.sh _ _) (by simp))) (Ch.s (.ptr 5000 0) (fP fld29_0 rfl) (Ch.s (.row 16000) (lP ag23 rfl rfl rfl) ?_))))))
   refine Ch.s (.ptr 5000 1) (fP fld29_1 rfl) (Ch.s (.row 16001) (lP ag23 rfl rfl rfl) ?_)
   refine Ch.step (v := (.tup [(.row 40000), (dB ((mcvF (x.sigs.length : Int) (osOn x s 1) (osOff x s 1)).2))])) rfl (.call 40000 104 _ _ _ en104 rfl (.inl rfl) (.cons (.d _) (.cons (.lend (.row rfl (frozs_map (fun _ => rfl) _))) (.cons (.lend (.row rfl (frozs_map (fun _ => rfl) _))) .nil))) rfl (sol a115 rfl) (sp_min_is (x.sigs.length : Int) (osOn x s 1) (osOff x s 1) (by assumption) (by assumption) (gtM_on (by assumption))) (.skip _ _ (.skip _ _ (.skip _ _ .nil))) rfl) rfl rfl ?_
   refine Ch.s (.tup [(.row 40000), (dB ((mcvF (x.sigs.length : Int) (osOn x s 1) (osOff x s 1)).2))]) pm (Ch.s (.row 40000) (xT rfl rfl) (Ch.s (dB ((mcvF (x.sigs.length : Int) (osOn x s 1) (osOff x s 1)).2)) (xT rfl rfl) (Ch.s (.row 40000) pa (Ch.s (dB ((mcvF (x.sigs.length : Int) (osOn x s 1) (osOff x s 1)).2)) pa (Ch.nil (Tq (Tz hc ?_)))))))
   refine Ch.s (.d (.ref (.slice false 2 (x.sigs.map Sgn.d)))) (.pure (.fldRef _ _ _ rfl fld35_0 rfl rfl rfl)) (Ch.s (.d (.slice false 2 (x.sigs.map Sgn.d))) (rF ag32 rfl rfl) (Ch.s (dI (x.sigs.length : Int)) (.pure (.len _ _ 154 rfl Tryz.underlying32 (.sh _ _) (by simp))) (Ch.s (.ptr 7000 0) (fP fld29_0 rfl) (Ch.s (.row 22000) (lP ag23 rfl rfl rfl) (Ch.s (.ptr 7000 1) (fP fld29_1 rfl) (Ch.s (.row 22001) (lP ag23 rfl rfl rfl) ?_))))))
   refine Ch.step (v := (.tup [(.row 51000), (dB ((mcvF (x.sigs.length : Int) (osOn x s 2) (osOff x s 2)).2))])) rfl (.call 51000 104 _ _ _ en104 rfl (.inl rfl) (.cons (.d _) (.cons (.lend (.row rfl (frozs_map (fun _ => rfl) _))) (.cons (.lend (.row rfl (frozs_map (fun _ => rfl) _))) .nil))) rfl (sol a115 rfl) (sp_min_is (x.sigs.length : Int) (osOn x s 2) (osOff x s 2) (by assumption) (by assumption) (gtM_on (by assumption))) (.skip _ _ (.skip _ _ (.skip _ _ .nil))) rfl) rfl rfl ?_
   refine Ch.s (.tup [(.row 51000), (dB ((mcvF (x.sigs.length : Int) (osOn x s 2) (osOff x s 2)).2))]) pm (Ch.s (.row 51000) (xT rfl rfl) (Ch.s (dB ((mcvF (x.sigs.length : Int) (osOn x s 2) (osOff x s 2)).2)) (xT rfl rfl) (Ch.s (.row 51000) pa (Ch.s (dB ((mcvF (x.sigs.length : Int) (osOn x s 2) (osOff x s 2)).2)) pa (Ch.nil (Tq (Tz hc ?_)))))))
   refine Ch.s (dI s) pm (Ch.s (.row 40000) pm (Ch.s (.row 51000) pm (Ch.s (.agg [(dI s), (dI 2), (.row 40000), (.row 51000)]) (.build _ _ rfl stru113 (.cons (.one _ rfl) (.cons (.one _ rfl) (.cons (.one _ rfl) (.cons (.one _ rfl) .nil)))) rfl) (Ch.s (dB ((mcvF (x.sigs.length : Int) (osOn x s 1) (osOff x s 1)).2)) pm (Ch.s (dB ((mcvF (x.sigs.length : Int) (osOn x s 1) (osOff x s 1)).2)) pm ?_)))))
   cases h3 : ((mcvF (x.sigs.length : Int) (osOn x s 1) (osOff x s 1)).2) with
   | true =>
    refine Ch.s (dB ((mcvF (x.sigs.length : Int) (osOn x s 2) (osOff x s 2)).2)) pm (Ch.s (dB ((mcvF (x.sigs.length : Int) (osOn x s 2) (osOff x s 2)).2)) (pT rfl) (Ch.s .junk (.storePtr _ _ _ rfl rfl rfl (.agg _ rfl) sz113 (lb rfl)) (Ch.s (dB ((mcvF (x.sigs.length : Int) (osOn x s 2) (osOff x s 2)).2)) pa (Ch.nil (T_ret ?_)))))
    exact eR [(.agg [(dI s), (dI 2), (.row 40000), (.row 51000)]), (dB ((mcvF (x.sigs.length : Int) (osOn x s 2) (osOff x s 2)).2))] [] [40000, 51000] (.cons (.cellA _ _ rfl rfl ag113 sz113) (.cons (.tmp 4 rfl) .nil)) eB (.tup (.cons (.agg (.cons (Exp.of (congrArg (D.int .i64) a25) (.d _)) (.cons (Exp.of (congrArg (D.int .i64) a25) (.d _)) (.cons (Exp.of (congrArg (D.slice true 1) a25) (.row rfl)) (.cons (Exp.of (congrArg (D.slice true 1) a25) (.row rfl)) .nil)))) rfl) (.cons (Exp.of (congrArg D.bool a25) (.d _)) .nil)))
   | false =>
    refine Ck (Ch.s (dB false) (pF rfl) (Ch.s .junk (.storePtr _ _ _ rfl rfl rfl (.agg _ rfl) sz113 (lb rfl)) (Ch.s (dB false) pa (Ch.nil (T_ret ?_)))))
    exact eR [(.agg [(dI s), (dI 2), (.row 40000), (.row 51000)]), (dB false)] [] [40000, 51000] (.cons (.cellA _ _ rfl rfl ag113 sz113) (.cons (.tmp 4 rfl) .nil)) eB (.tup (.cons (.agg (.cons (Exp.of (congrArg (D.int .i64) a25) (.d _)) (.cons (Exp.of (congrArg (D.int .i64) a25) (.d _)) (.cons (Exp.of (congrArg (D.slice true 1) a25) (.row rfl)) (.cons (Exp.of (congrArg (D.slice true 1) a25) (.row rfl)) .nil)))) rfl) (.cons (Exp.of (congrArg D.bool a25) (.d _)) .nil)))
 | false =>
  refine Ck (Ck (Ch.s (dB true) (pT rfl) (Ch.nil ?_)))
  refine T_cond (b := true) rfl (fun _ => ?_) (fun h => nomatch h)
  refine Ts hc (Ch.s (.agg [(dI 0), (dI 0), (.c (.slice none 0 0)), (.c (.slice none 0 0))]) (.build _ _ rfl stru113 .nil rfl) (Ch.s .junk (.storePtr _ _ _ rfl rfl rfl (.agg _ rfl) sz113 (lb rfl)) (Ch.s (dB false) pa (Ch.nil (T_ret ?_)))))
  exact eR [(.agg [(dI 0), (dI 0), (.c (.slice none 0 0)), (.c (.slice none 0 0))]), (dB false)] [] [] (.cons (.cellA _ _ rfl rfl ag113 sz113) (.cons (.tmp 4 rfl) .nil)) eB (.tup (.cons (.agg (.cons (Exp.of (congrArg (D.int .i64) a25) (.d _)) (.cons (Exp.of (congrArg (D.int .i64) a25) (.d _)) (.cons (Exp.of (congrArg (D.slice true 1) a25) (.nil true 1)) (.cons (Exp.of (congrArg (D.slice true 1) a25) (.nil true 1)) .nil)))) rfl) (.cons (Exp.of (congrArg D.bool a25) (.d _)) .nil)))

theorem sp_impl_GeneralizedCCircuit (x : Sgr) (hb : x.bulk ≤ 1048576) : Sp Tryz.prog 48 [(.agg [(.slice false 2 (x.sigs.map Sgn.d)), (.slice false 1 (x.codes.map D.str)), (.slice false 4 (x.arcs.map Arc.d))])] [.any] (.tup [(.agg [(.slice true 2 (((cirV (gtK x 2) x).sigs).map Sgn.d)), (.slice true 4 (((cirV (gtK x 2) x).gates).map Gat.u))]), (.bool (cirB (gtK x 2) x))]) := by
 refine Sp_intro (lend := true) Tryz.func48 rfl rfl rfl (fun _ => rfl) (fun c hc hX => ?_)
 obtain ⟨hp0, hp1, hp2⟩ := Sgr.parts hb
 have hn0 := bulkF_len hp0
 have hn1 := bulk_len hp1
 have hx1 := bulk_mem hp1
 have hn2 := bulkF_len hp2; have hol := outs_len x.sigs
 refine Ts hc (Ch.s (.ptr 1000 0) (.box 1000 _ _ rfl (.aggD _)) (Ch.s (.ptr 2000 0) (.alloc 2000 _ rfl zer63) (Ch.s (dB false) pa (Ch.nil (Tq (Tz hc ?_))))))
 refine Ch.s (.agg (vX x)) (lA ag35 sz35 rfl rfl (lb rfl) rfl) (Ch.s (.fn 102 [(.ptr 1000 0)]) (.pure (.func _ _ rfl rfl)) ?_)
 refine Ch.step (v := (.tup [(.agg [(.row 6000), (.row 6001)]), (dB (cirB (gtK x 2) x))])) rfl (.call 6000 96 _ _ _ en96 rfl (.inl rfl) (.cons lX (.cons (.lend (.fn (.cons (.ptr rfl (.agg (.cons (.d _) (.cons (.d _) (.cons (.d _) .nil))) rfl)) .nil))) .nil)) rfl (sol a129 rfl) (sp_impl_circuitOf x 102 [(.ref (.agg [(.slice false 2 (x.sigs.map Sgn.d)), (.slice false 1 (x.codes.map D.str)), (.slice false 4 (x.arcs.map Arc.d))]))] (gtK x 2) en102 (fun s _ => sp_impl_GeneralizedCCircuit_1 s x a46) a46) (.skip _ _ (.skip _ _ .nil)) rfl) rfl rfl ?_
 refine Ch.s (.agg [(.row 6000), (.row 6001)]) (xT rfl rfl) (Ch.s (dB (cirB (gtK x 2) x)) (xT rfl rfl) (Ch.s .junk (.storePtr _ _ _ rfl rfl rfl (.agg _ rfl) sz63 (lb rfl)) (Ch.s (dB (cirB (gtK x 2) x)) pa (Ch.nil (T_ret ?_)))))
 exact eR [(.agg [(.row 6000), (.row 6001)]), (dB (cirB (gtK x 2) x))] [] [6000, 6001] (.cons (.cellA _ _ rfl rfl ag63 sz63) (.cons (.tmp 3 rfl) .nil)) eA (.tup (.cons (.agg (.cons (.row rfl) (.cons (.row rfl) .nil)) rfl) (.cons (.d _) .nil)))

theorem en100 : Enters Tryz.prog 100 := ⟨_, Tryz.func100, by kernel_rfl, rfl⟩

theorem en101 : Enters Tryz.prog 101 := ⟨_, Tryz.func101, by kernel_rfl, rfl⟩

theorem en44 : Enters Tryz.prog 44 := ⟨_, Tryz.func44, by kernel_rfl, rfl⟩

theorem en45 : Enters Tryz.prog 45 := ⟨_, Tryz.func45, by kernel_rfl, rfl⟩

theorem en46 : Enters Tryz.prog 46 := ⟨_, Tryz.func46, by kernel_rfl, rfl⟩

theorem en47 : Enters Tryz.prog 47 := ⟨_, Tryz.func47, by kernel_rfl, rfl⟩

theorem en48 : Enters Tryz.prog 48 := ⟨_, Tryz.func48, by kernel_rfl, rfl⟩

def smO (k m : Nat) : Sgn := Sgn.mk (mtext (k + 2 * m)) ((k + 2 * m + 1 : Nat) : Int)

def smTo (xs : List Sgn) (k : Nat) : Nat → List Sgn
 | 0 => xs
 | m + 1 => (smTo xs k m).set m (smO k m)

theorem smTo_len (xs : List Sgn) (k : Nat) : ∀ m, (smTo xs k m).length = xs.length
 | 0 => rfl
 | m + 1 => by rw [smTo, List.length_set, smTo_len xs k m]

theorem smTo_get {xs : List Sgn} {k j : Nat} : ∀ m, m ≤ xs.length → (smTo xs k m).getD j default = if j < m then smO k j else xs.getD j default
  | 0, _ => by rw [if_neg (by omega)]; rfl
  | m + 1, hm => by
    rw [smTo, getD_set, smTo_len]
    by_cases h : m = j
    · subst h
      rw [if_pos ⟨rfl, by omega⟩, if_pos (by omega)]
    · rw [if_neg (fun q => h q.1), smTo_get m (by omega)]
      by_cases h2 : j < m
      · rw [if_pos h2, if_pos (by omega)]
      · rw [if_neg h2, if_neg (by omega)]

def smk (k : Nat) (xs : List Sgn) : List Sgn := smTo xs k xs.length

theorem smk_len (k : Nat) (xs : List Sgn) : (smk k xs).length = xs.length := smTo_len _ _ _

def SHeld (xs : List Sgn) (k : Nat) : Prop := ∀ j, j < xs.length → (xs.getD j default).name = mtext (k + 2 * j) ∧ (xs.getD j default).kind = ((k + 2 * j + 1 : Nat) : Int)

theorem smk_held (k : Nat) (xs : List Sgn) : SHeld (smk k xs) k := fun j hj => by
 rw [smk_len] at hj
 have e : (smk k xs).getD j default = smO k j := by
  unfold smk
  rw [smTo_get _ (Nat.le_refl _), if_pos hj]
 rw [e]; exact ⟨rfl, rfl⟩

def gml (xs : List Gat) (m : Nat) : Nat := ((xs.take m).map fun r => 2 + r.ups.length + r.downs.length).sum

theorem gml_succ {xs : List Gat} {m : Nat} (h : m < xs.length) : gml xs (m + 1) = gml xs m + 2 + (xs.getD m default).ups.length + (xs.getD m default).downs.length := by
 have hg : xs.getD m default = xs[m] := by simp [h]
 unfold gml
 rw [List.take_succ_eq_append_getElem h, List.map_append, List.sum_append, hg]
 simp only [List.map_cons, List.map_nil, List.sum_cons, List.sum_nil]; omega

theorem gml_all {xs : List Gat} {m : Nat} (h : xs.length ≤ m) : gml xs m = gml xs xs.length := by
 unfold gml
 rw [List.take_of_length_le h, List.take_of_length_le (Nat.le_refl _)]

theorem sum_bdN {l : List Nat} {n : Nat} (h : ∀ a ∈ l, a ≤ n) : l.sum ≤ l.length * n := by
 induction l with
 | nil => simp
 | cons a l ih =>
  have := ih fun b hb => h b (List.mem_cons_of_mem _ hb)
  have := h a (List.mem_cons_self ..)
  rw [List.sum_cons, List.length_cons, Nat.add_mul]; omega

def GSm (xs : List Gat) : Prop := xs.length ≤ 8 ∧ ∀ r ∈ xs, r.ups.length ≤ 7 ∧ r.downs.length ≤ 7

theorem gml_bd {xs : List Gat} (h : GSm xs) : ∀ m, gml xs m ≤ 8 * 16 := fun m => by
 have := sum_bdN (l := (xs.take m).map fun r => 2 + r.ups.length + r.downs.length) (n := 16) (fun a ha => by
  obtain ⟨r, hr, e⟩ := List.mem_map.1 ha
  subst e
  have := h.2 r (List.mem_of_mem_take hr); omega)
 rw [List.length_map, List.length_take] at this
 have h2 : min m xs.length * 16 ≤ 8 * 16 := Nat.mul_le_mul_right _ (by have := h.1; omega)
 exact Nat.le_trans this h2

def gmO (k : Nat) (r : Gat) : Gat := Gat.mk (k : Int) ((k + 1 : Nat) : Int) (marks (k + 1 + 1) r.ups.length) (marks (k + 1 + 1 + r.ups.length) r.downs.length)

def gmTo (xs : List Gat) (k : Nat) : Nat → List Gat
 | 0 => xs
 | m + 1 => (gmTo xs k m).set m (gmO (k + gml xs m) (xs.getD m default))

theorem gmTo_len (xs : List Gat) (k : Nat) : ∀ m, (gmTo xs k m).length = xs.length
 | 0 => rfl
 | m + 1 => by rw [gmTo, List.length_set, gmTo_len xs k m]

theorem gmTo_get {xs : List Gat} {k j : Nat} : ∀ m, m ≤ xs.length → (gmTo xs k m).getD j default = if j < m then gmO (k + gml xs j) (xs.getD j default) else xs.getD j default
  | 0, _ => by rw [if_neg (by omega)]; rfl
  | m + 1, hm => by
    rw [gmTo, getD_set, gmTo_len]
    by_cases h : m = j
    · subst h
      rw [if_pos ⟨rfl, by omega⟩, if_pos (by omega)]
    · rw [if_neg (fun q => h q.1), gmTo_get m (by omega)]
      by_cases h2 : j < m
      · rw [if_pos h2, if_pos (by omega)]
      · rw [if_neg h2, if_neg (by omega)]

theorem gmTo_at {xs : List Gat} {k m : Nat} (h : m ≤ xs.length) : (gmTo xs k m).getD m default = xs.getD m default := by rw [gmTo_get m h, if_neg (Nat.lt_irrefl m)]

def gmk (k : Nat) (xs : List Gat) : List Gat := gmTo xs k xs.length

theorem gmk_len (k : Nat) (xs : List Gat) : (gmk k xs).length = xs.length := gmTo_len _ _ _

theorem gmk_at {k : Nat} {xs : List Gat} {j : Nat} (h : j < xs.length) : (gmk k xs).getD j default = gmO (k + gml xs j) (xs.getD j default) := by
 unfold gmk
 rw [gmTo_get _ (Nat.le_refl _), if_pos h]

theorem gmk_gml {k : Nat} {xs : List Gat} : ∀ m, m ≤ xs.length → gml (gmk k xs) m = gml xs m
 | 0, _ => rfl
 | m + 1, hm => by
  rw [gml_succ (by rw [gmk_len]; omega), gml_succ (by omega), gmk_gml m (by omega), gmk_at (by omega)]
  unfold gmO
  rw [marks_length, marks_length]

theorem gmk_sm {k : Nat} {xs : List Gat} (h : GSm xs) : GSm (gmk k xs) := by
 refine ⟨by rw [gmk_len]; exact h.1, fun r hr => ?_⟩
 obtain ⟨j, hj, e⟩ := List.mem_iff_getElem.1 hr
 have hj2 : j < xs.length := by rwa [gmk_len] at hj
 have h1 := gmk_at (k := k) hj2
 rw [show (gmk k xs).getD j default = r from by simp [hj, e]] at h1
 rw [h1]
 unfold gmO
 rw [marks_length, marks_length]
 exact h.2 _ (getD_mem hj2)

theorem gm_set {xs : List Gat} {k m : Nat} : ((gmTo xs k m).map Gat.u).set m (Gat.u (gmO (k + gml xs m) (xs.getD m default))) = (gmTo xs k (m + 1)).map Gat.u := by
 rw [gmTo, List.map_set]

def GHeld (xs : List Gat) (k : Nat) : Prop := ∀ j, j < xs.length → (xs.getD j default).sig = ((k + gml xs j : Nat) : Int) ∧ (xs.getD j default).kind = ((k + gml xs j + 1 : Nat) : Int) ∧ heldR (xs.getD j default).ups (k + gml xs j + 1 + 1) = ((k + gml xs j + 1 + 1 + (xs.getD j default).ups.length : Nat) : Int) ∧ heldR (xs.getD j default).downs (k + gml xs j + 1 + 1 + (xs.getD j default).ups.length) = ((k + gml xs j + 1 + 1 + (xs.getD j default).ups.length + (xs.getD j default).downs.length : Nat) : Int)

theorem gmk_held (k : Nat) (xs : List Gat) : GHeld (gmk k xs) k := fun j hj => by
 rw [gmk_len] at hj
 rw [gmk_gml j (by omega), gmk_at hj]
 refine ⟨rfl, rfl, heldq_marks _ _, ?_⟩
 have h := heldq_marks (k + gml xs j + 1 + 1 + (xs.getD j default).ups.length) (xs.getD j default).downs.length
 unfold gmO
 rw [marks_length]
 exact h

def cmk (k : Nat) (c : Cir) : Cir := Cir.mk (smk k c.sigs) (gmk (k + 2 * c.sigs.length) c.gates)

theorem cmk_gml (k : Nat) (c : Cir) : gml (cmk k c).gates (cmk k c).gates.length = gml c.gates c.gates.length := by
 show gml (gmk _ c.gates) (gmk _ c.gates).length = _
 rw [gmk_len]; exact gmk_gml _ (Nat.le_refl _)

theorem gtK_sm (x : Sgr) (kd s : Int) : (gtK x kd s).1.ups.length ≤ 7 ∧ (gtK x kd s).1.downs.length ≤ 7 := by
  unfold gtK
  split
  · unfold gtM
    split
    · exact ⟨mcvF_len _ _ _, mcvF_len _ _ _⟩
    · exact ⟨Nat.zero_le _, Nat.zero_le _⟩
  · exact ⟨nsf_len _ _, Nat.zero_le _⟩

theorem minF_bd {n : Int} {on off : List (List UInt8)} : bulkS (mcvF n on off).1 ≤ 100 := by
  unfold mcvF
  split
  · rename_i h
    have hop := onoff_parts (primOk_on h)
    have hok := minF_ok (pr := primL n.toNat on off) (on := on) (n := n.toNat) primL_mem
    have hn : n.toNat ≤ 8 := by have := hop.1.2; omega
    have h2 := sum_bdN (l := (minF (primL n.toNat on off) on).1.map List.length) (n := 8) (fun a ha => by
      obtain ⟨c, hc, e⟩ := List.mem_map.1 ha
      subst e
      rw [hok.all c hc]; exact hn)
    have h3 := hok.len
    rw [List.length_map] at h2
    unfold bulkS; omega
  · unfold bulkS; simp

theorem nsf_bd (x : Sgr) (s : Int) : bulkS (nsf x s).1 ≤ 100 := by
  unfold nsf
  split
  · exact minF_bd
  · unfold bulkS; simp

theorem gtK_bd (x : Sgr) (kd s : Int) : Gat.bulk (gtK x kd s).1 ≤ 200 := by
  unfold Gat.bulk gtK
  split
  · unfold gtM
    split
    · have h1 := minF_bd (n := (x.sigs.length : Int)) (on := osOn x s 1) (off := osOff x s 1)
      have h2 := minF_bd (n := (x.sigs.length : Int)) (on := osOn x s 2) (off := osOff x s 2)
      show bulkS (mcW x s 1).1 + bulkS (mcW x s 2).1 ≤ 200
      unfold mcW; omega
    · show bulkS [] + bulkS [] ≤ 200
      unfold bulkS; simp
  · have h1 := nsf_bd x s
    show bulkS (nsf x s).1 + bulkS [] ≤ 200
    have : bulkS ([] : List (List UInt8)) = 0 := rfl
    omega

theorem cir_bd (x : Sgr) (kd : Int) : (cirV (gtK x kd) x).bulk ≤ 10000 ∧ (cirV (gtK x kd) x).sigs.length ≤ 8 ∧ GSm (cirV (gtK x kd) x).gates := by
 cases hb : cirB (gtK x kd) x with
 | false => rw [cirV_no hb]; exact ⟨by unfold Cir.bulk bulkF; simp, Nat.zero_le _, Nat.zero_le _, fun r hr => by cases hr⟩
 | true =>
  have hm : madeB x = true := by unfold cirB at hb; rw [Bool.and_eq_true] at hb; exact hb.1
  have hx := sg_has (made_sg hm)
  have hsg := sgOk_of hx.sigs
  rw [cirV_yes hb (Nat.le_refl _)]
  have hol := outs_len x.sigs
  have hgl := gt_le (gtK x kd) (outsL x.sigs) (outsL x.sigs).length
  have h8 := hsg.1
  have hr : ∀ r ∈ gtL (gtK x kd) (outsL x.sigs) (outsL x.sigs).length, (r.ups.length ≤ 7 ∧ r.downs.length ≤ 7) ∧ Gat.bulk r ≤ 200 := by
   intro r hr
   unfold gtL at hr
   obtain ⟨s, _, e⟩ := List.mem_map.1 hr
   subst e
   exact ⟨gtK_sm x kd s, gtK_bd x kd s⟩
  refine ⟨?_, h8, Nat.le_trans hgl (Nat.le_trans hol h8), fun r h => (hr r h).1⟩
  have h1 := sum_bdN (l := x.sigs.map Sgn.bulk) (n := 6) (fun a ha => by
   obtain ⟨y, hy, e⟩ := List.mem_map.1 ha
   subst e
   have := (hsg.2 y hy).2
   unfold Sgn.bulk; omega)
  have h2 := sum_bdN (l := (gtL (gtK x kd) (outsL x.sigs) (outsL x.sigs).length).map Gat.bulk) (n := 200) (fun a ha => by
   obtain ⟨y, hy, e⟩ := List.mem_map.1 ha
   subst e
   exact (hr y hy).2)
  rw [List.length_map] at h1 h2
  show bulkF Sgn.bulk x.sigs + bulkF Gat.bulk (gtL (gtK x kd) (outsL x.sigs) (outsL x.sigs).length) ≤ 10000
  unfold bulkF; omega

theorem sp_markSgn (xs : List Sgn) (k : Nat) (hn : xs.length ≤ 1048576) (hk : k ≤ 1) : Sp Tryz.prog 76 [(.slice true 2 (xs.map Sgn.d)), (.int .i64 (k : Int))] [(.slice true 2 ((smk k xs).map Sgn.d)), .any] (.int .i64 ((k + 2 * xs.length : Nat) : Int)) := by
 refine Sp_intro (lend := false) Tryz.func76 rfl rfl rfl (fun h => nomatch h) (fun c hc hX => ?_)
 refine Ts hc (Ch.s (dI 0) pa (Ch.nil (Tq (Ts hc (Ch.s (dI 0) pa ?_)))))
 refine Ch.nil (Tb ?_)
 refine T_loop (ι := Nat) (fun m => { n := 28, sl := [(0, (.row 1)), (1, (dI ((k + 2 * m : Nat) : Int))), (5, (dI (m : Int)))], hp := [(1, (some (.row 2 ((smTo xs k m).map Sgn.d))))], pin := [1] }) (fun m => m ≤ xs.length) (fun m => xs.length - m) ⟨0, (by omega), (Wk.of rfl rfl (ar (ai (vI a126) (ai (vI a126) trivial))) (ai (oR a118) trivial))⟩ (fun m hp0 => ?_)
 have hml := smTo_len xs k m
 refine Tq (Ts hc (Ch.s (dI (m : Int)) pm (Ch.s (.row 1) pm (Ch.s (dI ((smTo xs k m).length : Int)) (.pure (.len _ _ 154 rfl Tryz.underlying32 (.row rfl) (by simp))) (Ch.s (dB (decide ((m : Int) < ((smTo xs k m).length : Int)))) (iX rfl rfl rfl) (Ch.nil ?_))))))
 refine T_condD (p := ((m : Int) < ((smTo xs k m).length : Int))) rfl (fun h1 => ?_) (fun h1 => ?_)
 ·
  refine Tk (Tq (Tb (Ts hc (Ch.s (.row 1) pm (Ch.s (dI (m : Int)) pm (Ch.s (dI ((k + 2 * m : Nat) : Int)) pm ?_))))))
  refine Ch.s (dS (mtext (k + 2 * m))) (.call 15000 84 _ _ _ en84 rfl (.inl rfl) (.cons (.d _) .nil) rfl rfl (sp_laws_markText (k + 2 * m) a26) (.skip _ _ .nil) rfl) (Ch.s (.el 1 2 m 0) (.pure (.idxRow _ _ _ 154 (m) rfl Tryz.underlying32 sz154 rfl rfl rfl rfl a96)) (Ch.s (.el 1 2 m 0) (.pure (.fldEl _ _ _ rfl fld154_0 rfl)) (Ch.s .junk (.storeEl (y' := (.agg [(.str (mtext (k + 2 * m))), (.int .i64 (((smTo xs k m).getD m default).kind))])) _ _ _ rfl rfl rfl (.d _) rfl sz9 rfl get_mapA rfl rfl) (Ch.nil (Ts hc (Ch.s (dI ((k + 2 * m : Nat) : Int)) pm ?_))))))
  refine Ch.s (dI (((k + 2 * m : Nat) : Int) + 1)) (iX rfl rfl intV_addA) (Ch.s (dI (((k + 2 * m : Nat) : Int) + 1)) pa (Ch.nil (Ts hc (Ch.s (.row 1) pm (Ch.s (dI (m : Int)) pm (Ch.s (dI (((k + 2 * m : Nat) : Int) + 1)) pm ?_))))))
  refine Ch.s (.el 1 2 m 0) (.pure (.idxRow _ _ _ 154 (m) rfl Tryz.underlying32 sz154 rfl rfl rfl rfl a96)) (Ch.s (.el 1 2 m 1) (.pure (.fldEl _ _ _ rfl fld154_1 rfl)) (Ch.s .junk (.storeEl (y' := (.agg [(.str (mtext (k + 2 * m))), (.int .i64 (((k + 2 * m : Nat) : Int) + 1))])) _ _ _ rfl rfl rfl (.d _) rfl sz3 rfl (get_set a96) rfl rfl) (Ch.nil (Tz hc (Ch.s (dI (((k + 2 * m : Nat) : Int) + 1)) pm (Ch.s (dI ((((k + 2 * m : Nat) : Int) + 1) + 1)) (iX rfl rfl intV_addA) (Ch.s (dI ((((k + 2 * m : Nat) : Int) + 1) + 1)) pa ?_)))))))
  refine Ch.nil (Tz hc (Ch.s (dI (m : Int)) pm (Ch.s (dI ((m : Int) + 1)) (iX rfl rfl intV_addA) (Ch.s (dI ((m : Int) + 1)) pa (Ch.nil ?_)))))
  exact nx (m + 1) (by omega) (Wk.of rfl rfl (ar (ai (vI a126) (ai (vI a126) trivial))) (ai (oR a118) trivial))
 ·
  refine T_exit (Ts hc (Ch.s (dI ((k + 2 * m : Nat) : Int)) pm (Ch.s (dI ((k + 2 * m : Nat) : Int)) pa (Ch.nil (T_ret ?_)))))
  exact eR [(dI ((k + 2 * m : Nat) : Int))] [1] [] (.cons (.tmp 4 rfl) .nil) (.cons (Exp.of (congrArg (D.slice true 2) (by rw [smk, show xs.length = m by omega])) (.row rfl)) eA) (Exp.of (congrArg (D.int .i64) (by omega)) (.d _))

theorem sp_heldSgn (xs : List Sgn) (k : Nat) (hn : xs.length ≤ 1048576) (hk : k ≤ 1) (hq : SHeld xs k) : Sp Tryz.prog 100 [(.slice false 2 (xs.map Sgn.d)), (.int .i64 (k : Int))] [.any, .any] (.int .i64 ((k + 2 * xs.length : Nat) : Int)) := by
 refine Sp_intro (lend := true) Tryz.func100 rfl rfl rfl (fun _ => rfl) (fun c hc hX => ?_)
 refine Ts hc (Ch.s (dI 0) pa (Ch.nil (Tq (Ts hc (Ch.s (dI 0) pa ?_)))))
 refine Ch.nil (Tb ?_)
 refine T_loop (ι := Nat) (fun m => { n := 32, sl := [(0, (.d (.slice false 2 (xs.map Sgn.d)))), (1, (dI ((k + 2 * m : Nat) : Int))), (5, (dI (m : Int)))], hp := [], pin := [] }) (fun m => m ≤ xs.length) (fun m => xs.length - m) ⟨0, (by omega), (Wk.of rfl rfl (ar (ai (vI a126) (ai (vI a126) trivial))) trivial)⟩ (fun m hp0 => ?_)
 refine Tq (Ts hc (Ch.s (dI (m : Int)) pm (Ch.s (.d (.slice false 2 (xs.map Sgn.d))) pm (Ch.s (dI (xs.length : Int)) (.pure (.len _ _ 154 rfl Tryz.underlying32 (.sh _ _) (by simp))) (Ch.s (dB (decide ((m : Int) < (xs.length : Int)))) (iX rfl rfl rfl) (Ch.nil ?_))))))
 refine T_condD (p := ((m : Int) < (xs.length : Int))) rfl (fun h1 => ?_) (fun h1 => ?_)
 ·
  try have hq1 := (hq m (by omega)).1
  try have hq2 := (hq m (by omega)).2
  refine Tk (Tq (Tb (Tq (Tq ?_))))
  refine T_regionD hc (by kernel_rfl) ?_
  refine ChD.s (.d (.slice false 2 (xs.map Sgn.d))) [] pm (ChD.s (dI (m : Int)) [] pm (ChD.s (.d (.ref (.agg [(.str ((xs.getD m default).name)), (.int .i64 ((xs.getD m default).kind))]))) [] (.pure (.idx _ _ _ 154 (m) rfl Tryz.underlying32 sz154 rfl rfl rfl get_mapA)) (ChD.s (.d (.ref (.str ((xs.getD m default).name)))) [] (.pure (.fldRef _ _ _ rfl fld154_0 rfl rfl rfl)) (ChD.s (dS ((xs.getD m default).name)) [] (rF ag9 rfl rfl) (ChD.s (dI ((k + 2 * m : Nat) : Int)) [] pm (ChD.s (dS (mtext (k + 2 * m))) [] (.call 18000 84 _ _ _ en84 rfl (.inl rfl) (.cons (.d _) .nil) rfl rfl (sp_laws_markText (k + 2 * m) a26) (.skip _ _ .nil) rfl) (ChD.s (dB (!(decide (((xs.getD m default).name) = (mtext (k + 2 * m)))))) [] (.pure (.str _ _ _ _ _ rfl rfl rfl rfl)) ?_)))))))
  refine ChD.nil (And.intro ?_ (by kernel_rfl))
  refine T_condN (b := (decide (((xs.getD m default).name) = (mtext (k + 2 * m))))) rfl (fun h2 => ?_) (fun h2 => ?_)
  ·
   replace h2 := odf h2
   refine Ts hc (Ch.s (dI (-1)) pa (Ch.nil (T_ret ?_)))
   exact eR [(dI (-1))] [] [] (.cons (.tmp 4 rfl) .nil) eB (Exp.of (congrArg (D.int .i64) a101) (.d _))
  ·
   replace h2 := odt h2
   refine Tk (Ts hc (Ch.s (dI ((k + 2 * m : Nat) : Int)) pm (Ch.s (dI (((k + 2 * m : Nat) : Int) + 1)) (iX rfl rfl intV_addA) (Ch.s (dI (((k + 2 * m : Nat) : Int) + 1)) pa (Ch.nil (Tq ?_))))))
   refine Ts hc (Ch.s (.d (.slice false 2 (xs.map Sgn.d))) pm (Ch.s (dI (m : Int)) pm (Ch.s (.d (.ref (.agg [(.str ((xs.getD m default).name)), (.int .i64 ((xs.getD m default).kind))]))) (.pure (.idx _ _ _ 154 (m) rfl Tryz.underlying32 sz154 rfl rfl rfl get_mapA)) (Ch.s (.d (.ref (.int .i64 ((xs.getD m default).kind)))) (.pure (.fldRef _ _ _ rfl fld154_1 rfl rfl rfl)) (Ch.s (dI ((xs.getD m default).kind)) (rF ag3 rfl rfl) (Ch.s (dI (((k + 2 * m : Nat) : Int) + 1)) pm ?_))))))
   refine Ch.s (dB (!(decide (((xs.getD m default).kind) = (((k + 2 * m : Nat) : Int) + 1))))) (iX rfl rfl rfl) (Ch.nil ?_)
   refine T_condN (b := (decide (((xs.getD m default).kind) = (((k + 2 * m : Nat) : Int) + 1)))) rfl (fun h3 => ?_) (fun h3 => ?_)
   ·
    replace h3 := odf h3
    refine Ts hc (Ch.s (dI (-1)) pa (Ch.nil (T_ret ?_)))
    exact eR [(dI (-1))] [] [] (.cons (.tmp 4 rfl) .nil) eB (Exp.of (congrArg (D.int .i64) a101) (.d _))
   ·
    replace h3 := odt h3
    refine Tk (Tz hc (Ch.s (dI (((k + 2 * m : Nat) : Int) + 1)) pm (Ch.s (dI ((((k + 2 * m : Nat) : Int) + 1) + 1)) (iX rfl rfl intV_addA) (Ch.s (dI ((((k + 2 * m : Nat) : Int) + 1) + 1)) pa (Ch.nil (Tz hc (Ch.s (dI (m : Int)) pm ?_)))))))
    refine Ch.s (dI ((m : Int) + 1)) (iX rfl rfl intV_addA) (Ch.s (dI ((m : Int) + 1)) pa (Ch.nil ?_))
    exact nx (m + 1) (by omega) (Wk.of rfl rfl (ar (ai (vI a126) (ai (vI a126) trivial))) trivial)
 ·
  try have hq1 := (hq m (by omega)).1
  try have hq2 := (hq m (by omega)).2
  refine T_exit (Ts hc (Ch.s (dI ((k + 2 * m : Nat) : Int)) pm (Ch.s (dI ((k + 2 * m : Nat) : Int)) pa (Ch.nil (T_ret ?_)))))
  exact eR [(dI ((k + 2 * m : Nat) : Int))] [] [] (.cons (.tmp 4 rfl) .nil) eB (Exp.of (congrArg (D.int .i64) a101) (.d _))

set_option maxHeartbeats 1000000 in
theorem sp_markGat (xs : List Gat) (k : Nat) (hs : GSm xs) (hk : k ≤ 3000000) : Sp Tryz.prog 99 [(.slice true 4 (xs.map Gat.u)), (.int .i64 (k : Int))] [(.slice true 4 ((gmk k xs).map Gat.u)), .any] (.int .i64 ((k + gml xs xs.length : Nat) : Int)) := by
 refine Sp_intro (lend := false) Tryz.func99 rfl rfl rfl (fun h => nomatch h) (fun c hc hX => ?_)
 have hgb := gml_bd hs; have hn := hs.1
 refine Ts hc (Ch.s (dI 0) pa (Ch.nil (Tq (Ts hc (Ch.s (dI 0) pa ?_)))))
 refine Ch.nil (Tb ?_)
 refine T_loop (ι := Nat) (fun m => { n := 41, sl := [(0, (.row 1)), (1, (dI ((k + gml xs m : Nat) : Int))), (5, (dI (m : Int)))], hp := [(1, (some (.row 4 ((gmTo xs k m).map Gat.u))))], pin := [1] }) (fun m => m ≤ xs.length) (fun m => xs.length - m) ⟨0, (by omega), (Wk.of rfl rfl (ar (ai (vI a90) (ai (vI a126) trivial))) (ai (oR a117) trivial))⟩ (fun m hp0 => ?_)
 have hml := gmTo_len xs k m; have hrm := hgb m; have hmg := gmTo_at (k := k) hp0
 refine Tq (Ts hc (Ch.s (dI (m : Int)) pm (Ch.s (.row 1) pm (Ch.s (dI ((gmTo xs k m).length : Int)) (.pure (.len _ _ 113 rfl Tryz.underlying61 (.row rfl) (by simp))) (Ch.s (dB (decide ((m : Int) < ((gmTo xs k m).length : Int)))) (iX rfl rfl rfl) (Ch.nil ?_))))))
 refine T_condD (p := ((m : Int) < ((gmTo xs k m).length : Int))) rfl (fun h1 => ?_) (fun h1 => ?_)
 ·
  try have hsm := hs.2 _ (getD_mem (l := xs) (j := m) (d := default) (by omega))
  try have hls := gml_succ (xs := xs) (m := m) (by omega)
  try have hgl := congrArg (fun r => r.ups.length) hmg
  try dsimp only at hgl
  try have hgl2 := congrArg (fun r => r.downs.length) hmg
  try dsimp only at hgl2
  refine Tk (Tq (Tb (Tq ?_)))
  refine T_takeF 1 m 2 7000002 7000003 rfl get_mapA rfl rfl rfl (fun u1 => ?_)
  refine T_takeF 1 m 3 7000004 7000005 rfl (get_set a96) rfl rfl rfl (fun u2 => ?_)
  refine Tz hc (Ch.s (.row 1) pm (Ch.s (dI (m : Int)) pm (Ch.s (dI ((k + gml xs m : Nat) : Int)) pm (Ch.s (.el 1 4 m 0) (.pure (.idxRow _ _ _ 113 (m) rfl Tryz.underlying61 sz113 rfl rfl rfl rfl a96)) (Ch.s (.el 1 4 m 0) (.pure (.fldEl _ _ _ rfl fld113_0 rfl)) (Ch.s .junk (.storeEl (y' := (.agg [(.int .i64 ((k + gml xs m : Nat) : Int)), (.int .i64 (((gmTo xs k m).getD m default).kind)), (.hole u1), (.hole u2)])) _ _ _ rfl rfl rfl (.d _) rfl sz3 rfl (get_set a96) rfl rfl) (Ch.nil ?_)))))))
  refine Ts hc (Ch.s (dI ((k + gml xs m : Nat) : Int)) pm (Ch.s (dI (((k + gml xs m : Nat) : Int) + 1)) (iX rfl rfl intV_addA) (Ch.s (dI (((k + gml xs m : Nat) : Int) + 1)) pa (Ch.nil (Tq (Tz hc ?_))))))
  refine Ch.s (.row 1) pm (Ch.s (dI (m : Int)) pm (Ch.s (dI (((k + gml xs m : Nat) : Int) + 1)) pm (Ch.s (.el 1 4 m 0) (.pure (.idxRow _ _ _ 113 (m) rfl Tryz.underlying61 sz113 rfl rfl rfl rfl a96)) (Ch.s (.el 1 4 m 1) (.pure (.fldEl _ _ _ rfl fld113_1 rfl)) (Ch.s .junk (.storeEl (y' := (.agg [(.int .i64 ((k + gml xs m : Nat) : Int)), (.int .i64 (((k + gml xs m : Nat) : Int) + 1)), (.hole u1), (.hole u2)])) _ _ _ rfl rfl rfl (.d _) rfl sz3 rfl (get_set a96) rfl rfl) (Ch.nil (Tq ?_)))))))
  refine Tz hc (Ch.s (dI (((k + gml xs m : Nat) : Int) + 1)) pm (Ch.s (dI ((((k + gml xs m : Nat) : Int) + 1) + 1)) (iX rfl rfl intV_addA) (Ch.s (dI ((((k + gml xs m : Nat) : Int) + 1) + 1)) pa (Ch.nil (Ts hc (Ch.s (.row 1) pm ?_))))))
  refine Ch.s (dI (m : Int)) pm (Ch.s (.el 1 4 m 0) (.pure (.idxRow _ _ _ 113 (m) rfl Tryz.underlying61 sz113 rfl rfl rfl rfl a96)) (Ch.s (.el 1 4 m 2) (.pure (.fldEl _ _ _ rfl fld113_2 rfl)) (Ch.s (.row 7000002) (.pure (.loadHoleF (n := 7000002) (m := 7000003) (u := u1) _ _ rfl ag23 rfl rfl (get_set a96) rfl rfl rfl rfl rfl)) (Ch.s (dI ((((k + gml xs m : Nat) : Int) + 1) + 1)) pm ?_))))
  refine Ch.step (v := (dI ((((k + gml xs m + 1) + 1) + (((gmTo xs k m).getD m default).ups).length : Nat) : Int))) rfl (.call 32000 30 _ _ _ en30 rfl (.inl rfl) (.cons (.row rfl) (.cons (.d _) .nil)) rfl (sol rfl (solids_c (solid_row (fun _ => rfl) _) rfl)) (sp_laws_markStringS (((gmTo xs k m).getD m default).ups) ((k + gml xs m + 1) + 1) a26 a26) (.row _ _ _ (.skip _ _ .nil)) rfl) rfl rfl ?_
  refine Ch.s (dI ((((k + gml xs m + 1) + 1) + (((gmTo xs k m).getD m default).ups).length : Nat) : Int)) pa (Ch.nil (Tz hc (Ch.s (.row 1) pm (Ch.s (dI (m : Int)) pm (Ch.s (.el 1 4 m 0) (.pure (.idxRow _ _ _ 113 (m) rfl Tryz.underlying61 sz113 rfl rfl rfl rfl a96)) (Ch.s (.el 1 4 m 3) (.pure (.fldEl _ _ _ rfl fld113_3 rfl)) (Ch.s (.row 7000004) (.pure (.loadHoleF (n := 7000004) (m := 7000005) (u := u2) _ _ rfl ag23 rfl rfl (get_set a96) rfl rfl rfl rfl rfl)) ?_)))))))
  refine Ch.s (dI ((((k + gml xs m + 1) + 1) + (((gmTo xs k m).getD m default).ups).length : Nat) : Int)) pm ?_
  refine Ch.step (v := (dI (((((k + gml xs m + 1) + 1) + (((gmTo xs k m).getD m default).ups).length) + (((gmTo xs k m).getD m default).downs).length : Nat) : Int))) rfl (.call 39000 30 _ _ _ en30 rfl (.inl rfl) (.cons (.row rfl) (.cons (.d _) .nil)) rfl (sol rfl (solids_c (solid_row (fun _ => rfl) _) rfl)) (sp_laws_markStringS (((gmTo xs k m).getD m default).downs) (((k + gml xs m + 1) + 1) + (((gmTo xs k m).getD m default).ups).length) a26 a26) (.row _ _ _ (.skip _ _ .nil)) rfl) rfl rfl ?_
  refine Ch.s (dI (((((k + gml xs m + 1) + 1) + (((gmTo xs k m).getD m default).ups).length) + (((gmTo xs k m).getD m default).downs).length : Nat) : Int)) pa (Ch.nil (Tz hc (Ch.s (dI (m : Int)) pm (Ch.s (dI ((m : Int) + 1)) (iX rfl rfl intV_addA) (Ch.s (dI ((m : Int) + 1)) pa (Ch.nil ?_))))))
  exact nx (m + 1) (by omega) (Wk.trans (Wk.giveF 1 m 2 7000002 7000003 rfl (get_set a96) rfl rfl rfl rfl rfl) (Wk.trans (Wk.giveF 1 m 3 7000004 7000005 rfl (get_set a96) rfl rfl rfl rfl rfl) (Wk.of rfl rfl (ar (ai (vI a90) (ai (vI a126) trivial))) (ai (oR a117) trivial))))
 ·
  try have hsm := hs.2 _ (getD_mem (l := xs) (j := m) (d := default) (by omega))
  try have hls := gml_succ (xs := xs) (m := m) (by omega)
  try have hgl := congrArg (fun r => r.ups.length) hmg
  try dsimp only at hgl
  try have hgl2 := congrArg (fun r => r.downs.length) hmg
  try dsimp only at hgl2
  refine T_exit (Ts hc (Ch.s (dI ((k + gml xs m : Nat) : Int)) pm (Ch.s (dI ((k + gml xs m : Nat) : Int)) pa (Ch.nil (T_ret ?_)))))
  exact eR [(dI ((k + gml xs m : Nat) : Int))] [1] [] (.cons (.tmp 4 rfl) .nil) (.cons (Exp.of (congrArg (D.slice true 4) (by rw [gmk, show xs.length = m by omega])) (.row rfl)) eA) (Exp.of (congrArg (D.int .i64) (by rw [gml_all (m := m) (by omega)])) (.d _))

set_option maxHeartbeats 1000000 in
theorem sp_heldGat (xs : List Gat) (k : Nat) (hs : GSm xs) (hk : k ≤ 3000000) (hq : GHeld xs k) : Sp Tryz.prog 101 [(.slice false 4 (xs.map Gat.d)), (.int .i64 (k : Int))] [.any, .any] (.int .i64 ((k + gml xs xs.length : Nat) : Int)) := by
 refine Sp_intro (lend := true) Tryz.func101 rfl rfl rfl (fun _ => rfl) (fun c hc hX => ?_)
 have hgb := gml_bd hs; have hn := hs.1
 refine Ts hc (Ch.s (dI 0) pa (Ch.nil (Tq (Ts hc (Ch.s (dI 0) pa ?_)))))
 refine Ch.nil (Tb ?_)
 refine T_loop (ι := Nat) (fun m => { n := 49, sl := [(0, (.d (.slice false 4 (xs.map Gat.d)))), (1, (dI ((k + gml xs m : Nat) : Int))), (5, (dI (m : Int)))], hp := [], pin := [] }) (fun m => m ≤ xs.length) (fun m => xs.length - m) ⟨0, (by omega), (Wk.of rfl rfl (ar (ai (vI (by first | rfl | (rw [gml_succ (by omega)]; omega))) (ai (vI a126) trivial))) trivial)⟩ (fun m hp0 => ?_)
 have hrm := hgb m
 refine Tq (Ts hc (Ch.s (dI (m : Int)) pm (Ch.s (.d (.slice false 4 (xs.map Gat.d))) pm (Ch.s (dI (xs.length : Int)) (.pure (.len _ _ 113 rfl Tryz.underlying61 (.sh _ _) (by simp))) (Ch.s (dB (decide ((m : Int) < (xs.length : Int)))) (iX rfl rfl rfl) (Ch.nil ?_))))))
 refine T_condD (p := ((m : Int) < (xs.length : Int))) rfl (fun h1 => ?_) (fun h1 => ?_)
 ·
  try have hsm := hs.2 _ (getD_mem (l := xs) (j := m) (d := default) (by omega))
  try have hls := gml_succ (xs := xs) (m := m) (by omega)
  try have hq1 := (hq m (by omega)).1
  try have hq2 := (hq m (by omega)).2.1
  try have hq3 := (hq m (by omega)).2.2.1
  try have hq4 := (hq m (by omega)).2.2.2
  refine Tk (Tq (Tb (Tq (Ts hc (Ch.s (.d (.slice false 4 (xs.map Gat.d))) pm (Ch.s (dI (m : Int)) pm ?_))))))
  refine Ch.s (.d (.ref (.agg [(.int .i64 ((xs.getD m default).sig)), (.int .i64 ((xs.getD m default).kind)), (.slice false 1 (((xs.getD m default).ups).map D.str)), (.slice false 1 (((xs.getD m default).downs).map D.str))]))) (.pure (.idx _ _ _ 113 (m) rfl Tryz.underlying61 sz113 rfl rfl rfl get_mapA)) (Ch.s (.d (.ref (.int .i64 ((xs.getD m default).sig)))) (.pure (.fldRef _ _ _ rfl fld113_0 rfl rfl rfl)) (Ch.s (dI ((xs.getD m default).sig)) (rF ag3 rfl rfl) (Ch.s (dI ((k + gml xs m : Nat) : Int)) pm (Ch.s (dB (!(decide (((xs.getD m default).sig) = ((k + gml xs m : Nat) : Int))))) (iX rfl rfl rfl) (Ch.nil ?_)))))
  refine T_condN (b := (decide (((xs.getD m default).sig) = ((k + gml xs m : Nat) : Int)))) rfl (fun h2 => ?_) (fun h2 => ?_)
  ·
   replace h2 := odf h2
   refine Ts hc (Ch.s (dI (-1)) pa (Ch.nil (T_ret ?_)))
   exact eR [(dI (-1))] [] [] (.cons (.tmp 4 rfl) .nil) eB (Exp.of (congrArg (D.int .i64) a82) (.d _))
  ·
   replace h2 := odt h2
   refine Tk (Ts hc (Ch.s (dI ((k + gml xs m : Nat) : Int)) pm (Ch.s (dI (((k + gml xs m : Nat) : Int) + 1)) (iX rfl rfl intV_addA) (Ch.s (dI (((k + gml xs m : Nat) : Int) + 1)) pa (Ch.nil (Tq ?_))))))
   refine Ts hc (Ch.s (.d (.slice false 4 (xs.map Gat.d))) pm (Ch.s (dI (m : Int)) pm (Ch.s (.d (.ref (.agg [(.int .i64 ((xs.getD m default).sig)), (.int .i64 ((xs.getD m default).kind)), (.slice false 1 (((xs.getD m default).ups).map D.str)), (.slice false 1 (((xs.getD m default).downs).map D.str))]))) (.pure (.idx _ _ _ 113 (m) rfl Tryz.underlying61 sz113 rfl rfl rfl get_mapA)) (Ch.s (.d (.ref (.int .i64 ((xs.getD m default).kind)))) (.pure (.fldRef _ _ _ rfl fld113_1 rfl rfl rfl)) (Ch.s (dI ((xs.getD m default).kind)) (rF ag3 rfl rfl) (Ch.s (dI (((k + gml xs m : Nat) : Int) + 1)) pm ?_))))))
   refine Ch.s (dB (!(decide (((xs.getD m default).kind) = (((k + gml xs m : Nat) : Int) + 1))))) (iX rfl rfl rfl) (Ch.nil ?_)
   refine T_condN (b := (decide (((xs.getD m default).kind) = (((k + gml xs m : Nat) : Int) + 1)))) rfl (fun h3 => ?_) (fun h3 => ?_)
   ·
    replace h3 := odf h3
    refine Ts hc (Ch.s (dI (-1)) pa (Ch.nil (T_ret ?_)))
    exact eR [(dI (-1))] [] [] (.cons (.tmp 4 rfl) .nil) eB (Exp.of (congrArg (D.int .i64) a82) (.d _))
   ·
    replace h3 := odt h3
    refine Tk (Ts hc (Ch.s (dI (((k + gml xs m : Nat) : Int) + 1)) pm (Ch.s (dI ((((k + gml xs m : Nat) : Int) + 1) + 1)) (iX rfl rfl intV_addA) (Ch.s (dI ((((k + gml xs m : Nat) : Int) + 1) + 1)) pa (Ch.nil (Tq ?_))))))
    refine Tz hc (Ch.s (.d (.slice false 4 (xs.map Gat.d))) pm (Ch.s (dI (m : Int)) pm (Ch.s (.d (.ref (.agg [(.int .i64 ((xs.getD m default).sig)), (.int .i64 ((xs.getD m default).kind)), (.slice false 1 (((xs.getD m default).ups).map D.str)), (.slice false 1 (((xs.getD m default).downs).map D.str))]))) (.pure (.idx _ _ _ 113 (m) rfl Tryz.underlying61 sz113 rfl rfl rfl get_mapA)) (Ch.s (.d (.ref (.slice false 1 (((xs.getD m default).ups).map D.str)))) (.pure (.fldRef _ _ _ rfl fld113_2 rfl rfl rfl)) (Ch.s (.d (.slice false 1 (((xs.getD m default).ups).map D.str))) (rF ag23 rfl rfl) (Ch.s (dI ((((k + gml xs m : Nat) : Int) + 1) + 1)) pm (Ch.s (dI ((((k + gml xs m + 1) + 1) + ((xs.getD m default).ups).length : Nat) : Int)) (.call 36000 31 _ _ _ en31 rfl (.inl rfl) (.cons (.d _) (.cons (.d _) .nil)) rfl rfl (sp_heldq ((xs.getD m default).ups) ((k + gml xs m + 1) + 1) a46 a46 (by assumption)) (.skip _ _ (.skip _ _ .nil)) rfl) ?_)))))))
    refine Ch.s (dI ((((k + gml xs m + 1) + 1) + ((xs.getD m default).ups).length : Nat) : Int)) pa (Ch.nil (Tq (Ts hc (Ch.s (dI ((((k + gml xs m + 1) + 1) + ((xs.getD m default).ups).length : Nat) : Int)) pm (Ch.s (dB (decide (((((k + gml xs m + 1) + 1) + ((xs.getD m default).ups).length : Nat) : Int) < 0))) (iX rfl rfl rfl) (Ch.nil ?_))))))
    refine T_condD (p := (((((k + gml xs m + 1) + 1) + ((xs.getD m default).ups).length : Nat) : Int) < 0)) rfl (fun h4 => ?_) (fun h4 => ?_)
    ·
     refine Ts hc (Ch.s (dI (-1)) pa (Ch.nil (T_ret ?_)))
     exact eR [(dI (-1))] [] [] (.cons (.tmp 4 rfl) .nil) eB (Exp.of (congrArg (D.int .i64) a82) (.d _))
    ·
     refine Tk (Ts hc (Ch.s (.d (.slice false 4 (xs.map Gat.d))) pm (Ch.s (dI (m : Int)) pm (Ch.s (.d (.ref (.agg [(.int .i64 ((xs.getD m default).sig)), (.int .i64 ((xs.getD m default).kind)), (.slice false 1 (((xs.getD m default).ups).map D.str)), (.slice false 1 (((xs.getD m default).downs).map D.str))]))) (.pure (.idx _ _ _ 113 (m) rfl Tryz.underlying61 sz113 rfl rfl rfl get_mapA)) (Ch.s (.d (.ref (.slice false 1 (((xs.getD m default).downs).map D.str)))) (.pure (.fldRef _ _ _ rfl fld113_3 rfl rfl rfl)) (Ch.s (.d (.slice false 1 (((xs.getD m default).downs).map D.str))) (rF ag23 rfl rfl) ?_))))))
     refine Ch.s (dI ((((k + gml xs m + 1) + 1) + ((xs.getD m default).ups).length : Nat) : Int)) pm (Ch.s (dI (((((k + gml xs m + 1) + 1) + ((xs.getD m default).ups).length) + ((xs.getD m default).downs).length : Nat) : Int)) (.call 45000 31 _ _ _ en31 rfl (.inl rfl) (.cons (.d _) (.cons (.d _) .nil)) rfl rfl (sp_heldq ((xs.getD m default).downs) (((k + gml xs m + 1) + 1) + ((xs.getD m default).ups).length) a46 a46 (by assumption)) (.skip _ _ (.skip _ _ .nil)) rfl) (Ch.s (dI (((((k + gml xs m + 1) + 1) + ((xs.getD m default).ups).length) + ((xs.getD m default).downs).length : Nat) : Int)) pa (Ch.nil (Ts hc (Ch.s (dI (((((k + gml xs m + 1) + 1) + ((xs.getD m default).ups).length) + ((xs.getD m default).downs).length : Nat) : Int)) pm (Ch.s (dB (decide ((((((k + gml xs m + 1) + 1) + ((xs.getD m default).ups).length) + ((xs.getD m default).downs).length : Nat) : Int) < 0))) (iX rfl rfl rfl) ?_))))))
     refine Ch.nil ?_
     refine T_condD (p := ((((((k + gml xs m + 1) + 1) + ((xs.getD m default).ups).length) + ((xs.getD m default).downs).length : Nat) : Int) < 0)) rfl (fun h5 => ?_) (fun h5 => ?_)
     ·
      refine Ts hc (Ch.s (dI (-1)) pa (Ch.nil (T_ret ?_)))
      exact eR [(dI (-1))] [] [] (.cons (.tmp 4 rfl) .nil) eB (Exp.of (congrArg (D.int .i64) a82) (.d _))
     ·
      refine Tk (Tz hc (Ch.s (dI (m : Int)) pm (Ch.s (dI ((m : Int) + 1)) (iX rfl rfl intV_addA) (Ch.s (dI ((m : Int) + 1)) pa (Ch.nil ?_)))))
      exact nx (m + 1) (by omega) (Wk.of rfl rfl (ar (ai (vI (by first | rfl | (rw [gml_succ (by omega)]; omega))) (ai (vI a126) trivial))) trivial)
 ·
  try have hsm := hs.2 _ (getD_mem (l := xs) (j := m) (d := default) (by omega))
  try have hls := gml_succ (xs := xs) (m := m) (by omega)
  try have hq1 := (hq m (by omega)).1
  try have hq2 := (hq m (by omega)).2.1
  try have hq3 := (hq m (by omega)).2.2.1
  try have hq4 := (hq m (by omega)).2.2.2
  refine T_exit (Ts hc (Ch.s (dI ((k + gml xs m : Nat) : Int)) pm (Ch.s (dI ((k + gml xs m : Nat) : Int)) pa (Ch.nil (T_ret ?_)))))
  exact eR [(dI ((k + gml xs m : Nat) : Int))] [] [] (.cons (.tmp 4 rfl) .nil) eB (Exp.of (congrArg (D.int .i64) a82) (.d _))

theorem sp_markCir (x : Cir) (k : Nat) (hn : x.sigs.length ≤ 1048576) (hs : GSm x.gates) (hk : k ≤ 1) : Sp Tryz.prog 45 [(.agg [(.slice true 2 (x.sigs.map Sgn.d)), (.slice true 4 (x.gates.map Gat.u))]), (.int .i64 (k : Int))] [(.agg [(.slice true 2 (((cmk k x).sigs).map Sgn.d)), (.slice true 4 (((cmk k x).gates).map Gat.u))]), .any] (.int .i64 ((k + 2 * x.sigs.length + gml x.gates x.gates.length : Nat) : Int)) := by
 refine Sp_intro (lend := false) Tryz.func45 rfl rfl rfl (fun h => nomatch h) (fun c hc hX => ?_)
 have hgb := gml_bd hs x.gates.length
 refine Ts hc (Ch.s (.ptr 2000 0) (.box 2000 _ _ rfl (.agg _ rfl)) (Ch.s (dI 0) pa (Ch.nil (Ts hc (Ch.s (.ptr 2000 0) (fP fld63_0 rfl) ?_)))))
 refine Ch.s (.row 1) (lP ag32 rfl rfl rfl) (Ch.s (dI (k : Int)) pm ?_)
 refine Ch.step (v := (dI ((k + 2 * x.sigs.length : Nat) : Int))) rfl (.call 8000 76 _ _ _ en76 rfl (.inl rfl) (.cons (.row rfl) (.cons (.d _) .nil)) rfl (sol rfl (solids_c (solid_row (fun _ => rfl) _) rfl)) (sp_markSgn x.sigs k a137 a137) (.row _ _ _ (.skip _ _ .nil)) rfl) rfl rfl ?_
 refine Ch.s (dI ((k + 2 * x.sigs.length : Nat) : Int)) pa (Ch.nil (Ts hc (Ch.s (.ptr 2000 1) (fP fld63_1 rfl) (Ch.s (.row 2) (lP ag61 rfl rfl rfl) (Ch.s (dI ((k + 2 * x.sigs.length : Nat) : Int)) pm ?_)))))
 refine Ch.step (v := (dI (((k + 2 * x.sigs.length) + gml x.gates x.gates.length : Nat) : Int))) rfl (.call 12000 99 _ _ _ en99 rfl (.inl rfl) (.cons (.row rfl) (.cons (.d _) .nil)) rfl (sol rfl (solids_c (solid_row Gat.sol _) rfl)) (sp_markGat x.gates (k + 2 * x.sigs.length) (by assumption) a137) (.row _ _ _ (.skip _ _ .nil)) rfl) rfl rfl ?_
 refine Ch.s (dI (((k + 2 * x.sigs.length) + gml x.gates x.gates.length : Nat) : Int)) pa (Ch.nil (Ts hc (Ch.s (dI (((k + 2 * x.sigs.length) + gml x.gates x.gates.length : Nat) : Int)) pm (Ch.s (dI (((k + 2 * x.sigs.length) + gml x.gates x.gates.length : Nat) : Int)) pa (Ch.nil (T_ret ?_))))))
 exact eR [(dI (((k + 2 * x.sigs.length) + gml x.gates x.gates.length : Nat) : Int))] [1, 2] [] (.cons (.tmp 4 rfl) .nil) (.cons (.agg (.cons (Exp.of (congrArg (D.slice true 2) (by first | rfl | omega)) (.row rfl)) (.cons (Exp.of (congrArg (D.slice true 4) (by first | rfl | omega)) (.row rfl)) .nil)) rfl) eA) (Exp.of (congrArg (D.int .i64) (by first | rfl | omega)) (.d _))

theorem sp_heldCir (x : Cir) (k : Nat) (hn : x.sigs.length ≤ 1048576) (hs : GSm x.gates) (hk : k ≤ 1) (hq1 : SHeld x.sigs k) (hq2 : GHeld x.gates (k + 2 * x.sigs.length)) : Sp Tryz.prog 46 [(.agg [(.slice false 2 (x.sigs.map Sgn.d)), (.slice false 4 (x.gates.map Gat.d))]), (.int .i64 (k : Int))] [.any, .any] (.int .i64 ((k + 2 * x.sigs.length + gml x.gates x.gates.length : Nat) : Int)) := by
 refine Sp_intro (lend := true) Tryz.func46 rfl rfl rfl (fun _ => rfl) (fun c hc hX => ?_)
 have hgb := gml_bd hs x.gates.length
 refine Ts hc (Ch.s (.ptr 2000 0) (.box 2000 _ _ rfl (.aggD _)) (Ch.s (dI 0) pa (Ch.nil (Ts hc (Ch.s (.ptr 2000 0) (fP fld63_0 rfl) ?_)))))
 refine Ch.s (.d (.slice false 2 (x.sigs.map Sgn.d))) (lP ag32 rfl rfl rfl) (Ch.s (dI (k : Int)) pm (Ch.s (dI ((k + 2 * x.sigs.length : Nat) : Int)) (.call 8000 100 _ _ _ en100 rfl (.inl rfl) (.cons (.d _) (.cons (.d _) .nil)) rfl rfl (sp_heldSgn x.sigs k a137 a137 (by assumption)) (.skip _ _ (.skip _ _ .nil)) rfl) (Ch.s (dI ((k + 2 * x.sigs.length : Nat) : Int)) pa (Ch.nil (Tq (Tq (Tz hc ?_)))))))
 refine Ch.s (dI ((k + 2 * x.sigs.length : Nat) : Int)) pm (Ch.s (dB (decide (((k + 2 * x.sigs.length : Nat) : Int) < 0))) (iX rfl rfl rfl) (Ch.nil ?_))
 refine T_condD (p := (((k + 2 * x.sigs.length : Nat) : Int) < 0)) rfl (fun h1 => ?_) (fun h1 => ?_)
 ·
  refine Ts hc (Ch.s (dI (-1)) pa (Ch.nil (T_ret ?_)))
  exact eR [(dI (-1))] [] [] (.cons (.tmp 4 rfl) .nil) eB (Exp.of (congrArg (D.int .i64) a133) (.d _))
 ·
  refine Tk (Ts hc (Ch.s (.ptr 2000 1) (fP fld63_1 rfl) (Ch.s (.d (.slice false 4 (x.gates.map Gat.d))) (lP ag61 rfl rfl rfl) (Ch.s (dI ((k + 2 * x.sigs.length : Nat) : Int)) pm (Ch.s (dI (((k + 2 * x.sigs.length) + gml x.gates x.gates.length : Nat) : Int)) (.call 14000 101 _ _ _ en101 rfl (.inl rfl) (.cons (.d _) (.cons (.d _) .nil)) rfl rfl (sp_heldGat x.gates (k + 2 * x.sigs.length) (by assumption) a137 (by assumption)) (.skip _ _ (.skip _ _ .nil)) rfl) (Ch.s (dI (((k + 2 * x.sigs.length) + gml x.gates x.gates.length : Nat) : Int)) pa ?_))))))
  refine Ch.nil (Tq (Ts hc (Ch.s (dI (((k + 2 * x.sigs.length) + gml x.gates x.gates.length : Nat) : Int)) pm (Ch.s (dB (decide ((((k + 2 * x.sigs.length) + gml x.gates x.gates.length : Nat) : Int) < 0))) (iX rfl rfl rfl) (Ch.nil ?_)))))
  refine T_condD (p := ((((k + 2 * x.sigs.length) + gml x.gates x.gates.length : Nat) : Int) < 0)) rfl (fun h2 => ?_) (fun h2 => ?_)
  ·
   refine Ts hc (Ch.s (dI (-1)) pa (Ch.nil (T_ret ?_)))
   exact eR [(dI (-1))] [] [] (.cons (.tmp 4 rfl) .nil) eB (Exp.of (congrArg (D.int .i64) a133) (.d _))
  ·
   refine Tk (Ts hc (Ch.s (dI (((k + 2 * x.sigs.length) + gml x.gates x.gates.length : Nat) : Int)) pm (Ch.s (dI (((k + 2 * x.sigs.length) + gml x.gates x.gates.length : Nat) : Int)) pa (Ch.nil (T_ret ?_)))))
   exact eR [(dI (((k + 2 * x.sigs.length) + gml x.gates x.gates.length : Nat) : Int))] [] [] (.cons (.tmp 4 rfl) .nil) eB (Exp.of (congrArg (D.int .i64) a133) (.d _))

set_option maxHeartbeats 1000000 in
theorem sp_laws_FnExactGeneralizedCCircuit (x : Sgr) (hwx : x.wide) : Sp Tryz.prog 9 [(.agg [(.slice false 2 (x.sigs.map Sgn.d)), (.slice false 1 (x.codes.map D.str)), (.slice false 4 (x.arcs.map Arc.d))])] [.any] (.bool true) := by
 refine Sp_intro (lend := true) Tryz.func9 rfl rfl rfl (fun _ => rfl) (fun c hc hX => ?_)
 refine Ts hc (Ch.s (.ptr 1000 0) (.box 1000 _ _ rfl (.aggD _)) (Ch.s (dB false) pa (Ch.nil (Ts hc (Ch.s (dI 1048576) pa ?_)))))
 refine Ch.nil (Ts hc (Ch.s (.agg (vX x)) (lA ag26 sz26 rfl rfl (lb rfl) rfl) (Ch.s (dI 1048576) pm (Ch.s (dI (szR x.bulk 1048576)) (.call 16000 16 _ _ _ en16 rfl (.inl rfl) (.cons lX (.cons (.d _) .nil)) rfl rfl (sp_laws_szStateGraph x 1048576 a26 a26 a54) (.skip _ _ (.skip _ _ .nil)) rfl) (Ch.s (dI (szR x.bulk 1048576)) pa (Ch.nil ?_))))))
 refine Tq (Ts hc (Ch.s (dI (szR x.bulk 1048576)) pm (Ch.s (dB (decide ((szR x.bulk 1048576) < 0))) (iX rfl rfl rfl) (Ch.nil ?_))))
 refine T_condD (p := ((szR x.bulk 1048576) < 0)) rfl (fun h1 => ?_) (fun h1 => ?_)
 ·
  try have hz := szR_ok (t := x.bulk) (left := 1048576) h1 (by omega)
  try have hb : x.bulk ≤ 1048576 := by omega
  try have hl := hz.2
  try have hcbd := cir_bd x 2
  try have hcb : (cirV (gtK x 2) x).bulk ≤ 1048576 := by omega
  try have hcn : (cirV (gtK x 2) x).sigs.length ≤ 1048576 := by omega
  try have hcg : GSm (cirV (gtK x 2) x).gates := hcbd.2.2
  try have hcm := gml_bd hcg (cirV (gtK x 2) x).gates.length
  try have hcl := smk_len 1 (cirV (gtK x 2) x).sigs
  try have hck := cmk_gml 1 (cirV (gtK x 2) x)
  try have hcl2 : (cmk 1 (cirV (gtK x 2) x)).sigs.length = (cirV (gtK x 2) x).sigs.length := hcl
  refine Ts hc (Ch.s (dB true) pa (Ch.nil (T_ret ?_)))
  exact eR [(dB true)] [] [] (.cons (.tmp 2 rfl) .nil) eA (.d _)
 ·
  try have hz := szR_ok (t := x.bulk) (left := 1048576) h1 (by omega)
  try have hb : x.bulk ≤ 1048576 := by omega
  try have hl := hz.2
  try have hcbd := cir_bd x 2
  try have hcb : (cirV (gtK x 2) x).bulk ≤ 1048576 := by omega
  try have hcn : (cirV (gtK x 2) x).sigs.length ≤ 1048576 := by omega
  try have hcg : GSm (cirV (gtK x 2) x).gates := hcbd.2.2
  try have hcm := gml_bd hcg (cirV (gtK x 2) x).gates.length
  try have hcl := smk_len 1 (cirV (gtK x 2) x).sigs
  try have hck := cmk_gml 1 (cirV (gtK x 2) x)
  try have hcl2 : (cmk 1 (cirV (gtK x 2) x)).sigs.length = (cirV (gtK x 2) x).sigs.length := hcl
  refine Tk (Ts hc (Ch.s (.agg (vX x)) (lA ag26 sz26 rfl rfl (lb rfl) rfl) ?_))
  refine Ch.step (v := (.agg [(.row 21000), (.row 21001), (.row 21002)])) rfl (.call 21000 18 _ _ _ en18 rfl (.inl rfl) (.cons lX .nil) rfl (sol (Sgr.sol _) rfl) (sp_laws_toStateGraph x a46) (.skip _ _ .nil) rfl) rfl rfl ?_
  refine Ch.step (v := (.tup [(.agg [(.row 22000), (.row 22001)]), (dB (cirB (gtK x 2) x))])) rfl (.call 22000 47 _ _ _ en47 rfl (.inl rfl) (.cons (.lend (.agg (.cons (.row rfl (frozs_map (fun _ => rfl) _)) (.cons (.row rfl (frozs_map (fun _ => rfl) _)) (.cons (.row rfl (frozs_map (fun _ => rfl) _)) .nil))) rfl)) .nil) rfl (sol a129 rfl) (sp_spec_GeneralizedCCircuit x a46) (.skip _ _ .nil) rfl) rfl rfl ?_
  refine Ch.s (.tup [(.agg [(.row 22000), (.row 22001)]), (dB (cirB (gtK x 2) x))]) pm (Ch.s (.agg [(.row 22000), (.row 22001)]) (xT rfl rfl) (Ch.s (dB (cirB (gtK x 2) x)) (xT rfl rfl) (Ch.s (.ptr 4000 0) (.alloc 4000 _ rfl zer63) (Ch.s .junk (.storePtr _ _ _ rfl rfl rfl (.agg _ rfl) sz63 (lb rfl)) (Ch.s (dB (cirB (gtK x 2) x)) pa (Ch.nil (Tq ?_)))))))
  refine Tz hc (Ch.s (.agg (vX x)) (lA ag26 sz26 rfl rfl (lb rfl) rfl) ?_)
  refine Ch.step (v := (.agg [(.row 26000), (.row 26001), (.row 26002)])) rfl (.call 26000 18 _ _ _ en18 rfl (.inl rfl) (.cons lX .nil) rfl (sol (Sgr.sol _) rfl) (sp_laws_toStateGraph x a46) (.skip _ _ .nil) rfl) rfl rfl ?_
  refine Ch.s (.ptr 6000 0) (.alloc 6000 _ rfl zer35) (Ch.s .junk (.storePtr _ _ _ rfl rfl rfl (.agg _ rfl) sz35 (lb rfl)) (Ch.nil (Ts hc (Ch.s (.agg [(.row 26000), (.row 26001), (.row 26002)]) (lA ag35 sz35 rfl rfl (lb rfl) rfl) ?_))))
  refine Ch.step (v := (.tup [(.agg [(.row 29000), (.row 29001)]), (dB (cirB (gtK x 2) x))])) rfl (.call 29000 48 _ _ _ en48 rfl (.inl rfl) (.cons (.lend (.agg (.cons (.row rfl (frozs_map (fun _ => rfl) _)) (.cons (.row rfl (frozs_map (fun _ => rfl) _)) (.cons (.row rfl (frozs_map (fun _ => rfl) _)) .nil))) rfl)) .nil) rfl (sol a129 rfl) (sp_impl_GeneralizedCCircuit x a46) (.skip _ _ .nil) rfl) rfl rfl ?_
  refine Ch.s (.tup [(.agg [(.row 29000), (.row 29001)]), (dB (cirB (gtK x 2) x))]) pm (Ch.s (.agg [(.row 29000), (.row 29001)]) (xT rfl rfl) (Ch.s (dB (cirB (gtK x 2) x)) (xT rfl rfl) (Ch.s (.ptr 7000 0) (.alloc 7000 _ rfl zer63) (Ch.s .junk (.storePtr _ _ _ rfl rfl rfl (.agg _ rfl) sz63 (lb rfl)) (Ch.s (dB (cirB (gtK x 2) x)) pa (Ch.nil (Tq ?_)))))))
  refine Ts hc (Ch.s (.agg [(.row 29000), (.row 29001)]) (lA ag63 sz63 rfl rfl (lb rfl) rfl) (Ch.s (.agg [(.row 22000), (.row 22001)]) (lA ag63 sz63 rfl rfl (lb rfl) rfl) (Ch.s (dB (decide ((cirV (gtK x 2) x) = (cirV (gtK x 2) x)))) (.call 34000 44 _ _ _ en44 rfl (.inl rfl) (.cons (.lend (.agg (.cons (.row rfl (frozs_map (fun _ => rfl) _)) (.cons (.row rfl (frozs_to Gat.fz _)) .nil)) rfl)) (.cons (.lend (.agg (.cons (.row rfl (frozs_map (fun _ => rfl) _)) (.cons (.row rfl (frozs_to Gat.fz _)) .nil)) rfl)) .nil)) rfl rfl (sp_laws_eqCircuit (cirV (gtK x 2) x) (cirV (gtK x 2) x) a46) (.skip _ _ (.skip _ _ .nil)) rfl) (Ch.s (dB (!(decide ((cirV (gtK x 2) x) = (cirV (gtK x 2) x))))) (nT rfl) (Ch.s (dB (!(decide ((cirV (gtK x 2) x) = (cirV (gtK x 2) x))))) pm ?_)))))
  cases h2 : (decide ((cirV (gtK x 2) x) = (cirV (gtK x 2) x))) with
  | true =>
   replace h2 := odt h2
   refine Ch.s (dB (cirB (gtK x 2) x)) pm (Ch.s (dB (cirB (gtK x 2) x)) pm (Ch.s (dB (!(decide ((cirB (gtK x 2) x) = (cirB (gtK x 2) x))))) (.pure (.neB _ _ _ _ rfl Tryz.underlying4 rfl rfl)) (Ch.s (dB (!(decide ((cirB (gtK x 2) x) = (cirB (gtK x 2) x))))) (pF rfl) (Ch.nil ?_))))
   refine T_condN (b := (decide ((cirB (gtK x 2) x) = (cirB (gtK x 2) x)))) rfl (fun h3 => ?_) (fun h3 => ?_)
   ·
    replace h3 := odf h3
    refine Ts hc (Ch.s (dB false) pa (Ch.nil (T_ret ?_)))
    exact eR [(dB false)] [] [] (.cons (.tmp 2 rfl) .nil) eA (Exp.of (congrArg D.bool a88) (.d _))
   ·
    replace h3 := odt h3
    refine Tk (Tq (Tq ?_))
    refine T_regionD hc (by kernel_rfl) ?_
    refine ChD.s (.agg [(.row 26000), (.row 26001), (.row 26002)]) [6000, 26000, 26001, 26002] (lA ag35 sz35 rfl rfl (lb rfl) rfl) (ChD.s (.agg (vX x)) [1000] (lA ag26 sz26 rfl rfl (lb rfl) rfl) (ChD.s (.agg [(.row 43000), (.row 43001), (.row 43002)]) [] (.call 43000 18 _ _ _ en18 rfl (.inl rfl) (.cons lX .nil) rfl (sol (Sgr.sol _) rfl) (sp_laws_toStateGraph x a46) (.skip _ _ .nil) rfl) (ChD.s (dB (decide (x = x))) [26000, 26001, 26002, 43000, 43001, 43002] (.call 44000 21 _ _ _ en21 rfl (.inl rfl) (.cons (.lend (.agg (.cons (.row rfl (frozs_map (fun _ => rfl) _)) (.cons (.row rfl (frozs_map (fun _ => rfl) _)) (.cons (.row rfl (frozs_map (fun _ => rfl) _)) .nil))) rfl)) (.cons (.lend (.agg (.cons (.row rfl (frozs_map (fun _ => rfl) _)) (.cons (.row rfl (frozs_map (fun _ => rfl) _)) (.cons (.row rfl (frozs_map (fun _ => rfl) _)) .nil))) rfl)) .nil)) rfl rfl (sp_laws_eqStateGraph x x a46) (.skip _ _ (.skip _ _ .nil)) rfl) (ChD.s (dB (!(decide (x = x)))) [] (nT rfl) ?_))))
    refine ChD.nil (And.intro ?_ (by kernel_rfl))
    refine T_condN (b := (decide (x = x))) rfl (fun h4 => ?_) (fun h4 => ?_)
    ·
     replace h4 := odf h4
     refine Ts hc (Ch.s (dB false) pa (Ch.nil (T_ret ?_)))
     exact eR [(dB false)] [] [] (.cons (.tmp 2 rfl) .nil) eA (Exp.of (congrArg D.bool a88) (.d _))
    ·
     replace h4 := odt h4
     refine Tk (Ts hc (Ch.s (dI 1) pa (Ch.nil (Ts hc (Ch.s (.agg [(.row 26000), (.row 26001), (.row 26002)]) (lA ag35 sz35 rfl rfl (lb rfl) rfl) ?_)))))
     refine Ch.s (dI 1) pm (Ch.s (dI ((1 + 2 * x.sigs.length + x.codes.length + 4 * x.arcs.length : Nat) : Int)) (.call 48000 22 _ _ _ en22 rfl (.inl rfl) (.cons (.agg (.cons (.row rfl) (.cons (.row rfl) (.cons (.row rfl) .nil))) rfl) (.cons (.d _) .nil)) rfl rfl (sp_laws_markStateGraph x 1 a46 a46) (.skip _ _ (.skip _ _ .nil)) rfl) (Ch.s (dI ((1 + 2 * x.sigs.length + x.codes.length + 4 * x.arcs.length : Nat) : Int)) pa (Ch.nil (Tq (Ts hc (Ch.s (dI ((1 + 2 * x.sigs.length + x.codes.length + 4 * x.arcs.length : Nat) : Int)) pm ?_))))))
     refine Ch.s (dB (decide (((1 + 2 * x.sigs.length + x.codes.length + 4 * x.arcs.length : Nat) : Int) < 0))) (iX rfl rfl rfl) (Ch.s (dB (decide (((1 + 2 * x.sigs.length + x.codes.length + 4 * x.arcs.length : Nat) : Int) < 0))) pm ?_)
     cases h5 : (decide (((1 + 2 * x.sigs.length + x.codes.length + 4 * x.arcs.length : Nat) : Int) < 0)) with
     | true =>
      replace h5 := odt h5
      refine Ck (Ck (Ck (Ck (Ch.s (dB true) (pT rfl) (Ch.s (dB true) pm (Ck (Ch.skip rfl rfl ?_)))))))
      refine Ck (Ch.s (dB true) (pT rfl) (Ch.nil ?_))
      refine T_cond (b := true) rfl (fun _ => ?_) (fun h => nomatch h)
      refine Ts hc (Ch.s (dB false) pa (Ch.nil (T_ret ?_)))
      exact eR [(dB false)] [] [] (.cons (.tmp 2 rfl) .nil) eA (Exp.of (congrArg D.bool a88) (.d _))
     | false =>
      replace h5 := odf h5
      refine Ch.s (.agg [(.row 29000), (.row 29001)]) (lA ag63 sz63 rfl rfl (lb rfl) rfl) (Ch.s (.agg [(.row 22000), (.row 22001)]) (lA ag63 sz63 rfl rfl (lb rfl) rfl) (Ch.s (dB (decide ((cirV (gtK x 2) x) = (cirV (gtK x 2) x)))) (.call 54000 44 _ _ _ en44 rfl (.inl rfl) (.cons (.lend (.agg (.cons (.row rfl (frozs_map (fun _ => rfl) _)) (.cons (.row rfl (frozs_to Gat.fz _)) .nil)) rfl)) (.cons (.lend (.agg (.cons (.row rfl (frozs_map (fun _ => rfl) _)) (.cons (.row rfl (frozs_to Gat.fz _)) .nil)) rfl)) .nil)) rfl rfl (sp_laws_eqCircuit (cirV (gtK x 2) x) (cirV (gtK x 2) x) a46) (.skip _ _ (.skip _ _ .nil)) rfl) (Ch.s (dB (!(decide ((cirV (gtK x 2) x) = (cirV (gtK x 2) x))))) (nT rfl) (Ch.s (dB (!(decide ((cirV (gtK x 2) x) = (cirV (gtK x 2) x))))) (pF rfl) (Ch.s (dB (!(decide ((cirV (gtK x 2) x) = (cirV (gtK x 2) x))))) pm ?_)))))
      cases h6 : (decide ((cirV (gtK x 2) x) = (cirV (gtK x 2) x))) with
      | true =>
       replace h6 := odt h6
       refine Ch.s (dB (cirB (gtK x 2) x)) pm (Ch.s (dB (cirB (gtK x 2) x)) pm (Ch.s (dB (!(decide ((cirB (gtK x 2) x) = (cirB (gtK x 2) x))))) (.pure (.neB _ _ _ _ rfl Tryz.underlying4 rfl rfl)) (Ch.s (dB (!(decide ((cirB (gtK x 2) x) = (cirB (gtK x 2) x))))) (pF rfl) (Ch.nil ?_))))
       refine T_condN (b := (decide ((cirB (gtK x 2) x) = (cirB (gtK x 2) x)))) rfl (fun h7 => ?_) (fun h7 => ?_)
       ·
        replace h7 := odf h7
        refine Ts hc (Ch.s (dB false) pa (Ch.nil (T_ret ?_)))
        exact eR [(dB false)] [] [] (.cons (.tmp 2 rfl) .nil) eA (Exp.of (congrArg D.bool a88) (.d _))
       ·
        replace h7 := odt h7
        refine Tk (Ts hc (Ch.s (dI 1) pa (Ch.nil (Ts hc (Ch.s (.agg [(.row 29000), (.row 29001)]) (lA ag63 sz63 rfl rfl (lb rfl) rfl) ?_)))))
        refine Ch.s (dI 1) pm ?_
        refine Ch.step (v := (dI ((1 + 2 * (cirV (gtK x 2) x).sigs.length + gml (cirV (gtK x 2) x).gates (cirV (gtK x 2) x).gates.length : Nat) : Int))) rfl (.call 64000 45 _ _ _ en45 rfl (.inl rfl) (.cons (.agg (.cons (.row rfl) (.cons (.row rfl) .nil)) rfl) (.cons (.d _) .nil)) rfl (sol rfl (solids_c (Cir.sol _) rfl)) (sp_markCir (cirV (gtK x 2) x) 1 (by assumption) (by assumption) a137) (.agg (.row _ _ _ (.row _ _ _ .nil)) (.skip _ _ .nil)) rfl) rfl rfl ?_
        refine Ch.s (dI ((1 + 2 * (cirV (gtK x 2) x).sigs.length + gml (cirV (gtK x 2) x).gates (cirV (gtK x 2) x).gates.length : Nat) : Int)) pa (Ch.nil (Ts hc (Ch.s (dI 1) pa (Ch.nil (Tq (Tz hc ?_))))))
        refine Ch.s (.agg [(.row 29000), (.row 29001)]) (lA ag63 sz63 rfl rfl (lb rfl) rfl) (Ch.s (dI 1) pm (Ch.s (dI ((1 + 2 * (cmk 1 (cirV (gtK x 2) x)).sigs.length + gml (cmk 1 (cirV (gtK x 2) x)).gates (cmk 1 (cirV (gtK x 2) x)).gates.length : Nat) : Int)) (.call 67000 46 _ _ _ en46 rfl (.inl rfl) (.cons (.lend (.agg (.cons (.row rfl (frozs_map (fun _ => rfl) _)) (.cons (.row rfl (frozs_to Gat.fz _)) .nil)) rfl)) (.cons (.d _) .nil)) rfl rfl (sp_heldCir (cmk 1 (cirV (gtK x 2) x)) 1 a98 (by first | assumption | exact gmk_sm (by assumption)) a137 (smk_held _ _) a97) (.skip _ _ (.skip _ _ .nil)) rfl) (Ch.s (dI ((1 + 2 * (cmk 1 (cirV (gtK x 2) x)).sigs.length + gml (cmk 1 (cirV (gtK x 2) x)).gates (cmk 1 (cirV (gtK x 2) x)).gates.length : Nat) : Int)) pa (Ch.nil (Tq (Tq (Tz hc ?_)))))))
        refine Ch.s (dI ((1 + 2 * (cmk 1 (cirV (gtK x 2) x)).sigs.length + gml (cmk 1 (cirV (gtK x 2) x)).gates (cmk 1 (cirV (gtK x 2) x)).gates.length : Nat) : Int)) pm (Ch.s (dB (decide (((1 + 2 * (cmk 1 (cirV (gtK x 2) x)).sigs.length + gml (cmk 1 (cirV (gtK x 2) x)).gates (cmk 1 (cirV (gtK x 2) x)).gates.length : Nat) : Int) < 0))) (iX rfl rfl rfl) (Ch.nil ?_))
        refine T_condD (p := (((1 + 2 * (cmk 1 (cirV (gtK x 2) x)).sigs.length + gml (cmk 1 (cirV (gtK x 2) x)).gates (cmk 1 (cirV (gtK x 2) x)).gates.length : Nat) : Int) < 0)) rfl (fun h8 => ?_) (fun h8 => ?_)
        ·
         refine Ts hc (Ch.s (dB false) pa (Ch.nil (T_ret ?_)))
         exact eR [(dB false)] [] [] (.cons (.tmp 2 rfl) .nil) eA (Exp.of (congrArg D.bool a88) (.d _))
        ·
         refine Tk (Tq (Ts hc (Ch.s (dI ((1 + 2 * (cmk 1 (cirV (gtK x 2) x)).sigs.length + gml (cmk 1 (cirV (gtK x 2) x)).gates (cmk 1 (cirV (gtK x 2) x)).gates.length : Nat) : Int)) pm (Ch.s (dI ((1 + 2 * (cirV (gtK x 2) x).sigs.length + gml (cirV (gtK x 2) x).gates (cirV (gtK x 2) x).gates.length : Nat) : Int)) pm (Ch.s (dB (!(decide (((1 + 2 * (cmk 1 (cirV (gtK x 2) x)).sigs.length + gml (cmk 1 (cirV (gtK x 2) x)).gates (cmk 1 (cirV (gtK x 2) x)).gates.length : Nat) : Int) = ((1 + 2 * (cirV (gtK x 2) x).sigs.length + gml (cirV (gtK x 2) x).gates (cirV (gtK x 2) x).gates.length : Nat) : Int))))) (iX rfl rfl rfl) (Ch.nil ?_))))))
         refine T_condN (b := (decide (((1 + 2 * (cmk 1 (cirV (gtK x 2) x)).sigs.length + gml (cmk 1 (cirV (gtK x 2) x)).gates (cmk 1 (cirV (gtK x 2) x)).gates.length : Nat) : Int) = ((1 + 2 * (cirV (gtK x 2) x).sigs.length + gml (cirV (gtK x 2) x).gates (cirV (gtK x 2) x).gates.length : Nat) : Int)))) rfl (fun h9 => ?_) (fun h9 => ?_)
         ·
          replace h9 := odf h9
          refine Ts hc (Ch.s (dB false) pa (Ch.nil (T_ret ?_)))
          exact eR [(dB false)] [] [] (.cons (.tmp 2 rfl) .nil) eA (Exp.of (congrArg D.bool a88) (.d _))
         ·
          replace h9 := odt h9
          refine Tk (Ts hc (Ch.s (.agg (vX x)) (lA ag26 sz26 rfl rfl (lb rfl) rfl) ?_))
          refine Ch.step (v := (.agg [(.row 75000), (.row 75001), (.row 75002)])) rfl (.call 75000 18 _ _ _ en18 rfl (.inl rfl) (.cons lX .nil) rfl (sol (Sgr.sol _) rfl) (sp_laws_toStateGraph x a46) (.skip _ _ .nil) rfl) rfl rfl ?_
          refine Ch.step (v := (.tup [(.agg [(.row 76000), (.row 76001)]), (dB (cirB (gtK x 2) x))])) rfl (.call 76000 48 _ _ _ en48 rfl (.inl rfl) (.cons (.lend (.agg (.cons (.row rfl (frozs_map (fun _ => rfl) _)) (.cons (.row rfl (frozs_map (fun _ => rfl) _)) (.cons (.row rfl (frozs_map (fun _ => rfl) _)) .nil))) rfl)) .nil) rfl (sol a129 rfl) (sp_impl_GeneralizedCCircuit x a46) (.skip _ _ .nil) rfl) rfl rfl ?_
          refine Ch.s (.tup [(.agg [(.row 76000), (.row 76001)]), (dB (cirB (gtK x 2) x))]) pm (Ch.s (.agg [(.row 76000), (.row 76001)]) (xT rfl rfl) (Ch.s (dB (cirB (gtK x 2) x)) (xT rfl rfl) (Ch.s (.ptr 12000 0) (.alloc 12000 _ rfl zer63) (Ch.s .junk (.storePtr _ _ _ rfl rfl rfl (.agg _ rfl) sz63 (lb rfl)) (Ch.s (dB (cirB (gtK x 2) x)) pa (Ch.nil (Tq ?_)))))))
          refine Ts hc (Ch.s (.agg [(.row 76000), (.row 76001)]) (lA ag63 sz63 rfl rfl (lb rfl) rfl) (Ch.s (.agg [(.row 22000), (.row 22001)]) (lA ag63 sz63 rfl rfl (lb rfl) rfl) (Ch.s (dB (decide ((cirV (gtK x 2) x) = (cirV (gtK x 2) x)))) (.call 81000 44 _ _ _ en44 rfl (.inl rfl) (.cons (.lend (.agg (.cons (.row rfl (frozs_map (fun _ => rfl) _)) (.cons (.row rfl (frozs_to Gat.fz _)) .nil)) rfl)) (.cons (.lend (.agg (.cons (.row rfl (frozs_map (fun _ => rfl) _)) (.cons (.row rfl (frozs_to Gat.fz _)) .nil)) rfl)) .nil)) rfl rfl (sp_laws_eqCircuit (cirV (gtK x 2) x) (cirV (gtK x 2) x) a46) (.skip _ _ (.skip _ _ .nil)) rfl) (Ch.s (dB (!(decide ((cirV (gtK x 2) x) = (cirV (gtK x 2) x))))) (nT rfl) (Ch.s (dB (!(decide ((cirV (gtK x 2) x) = (cirV (gtK x 2) x))))) pm ?_)))))
          cases h10 : (decide ((cirV (gtK x 2) x) = (cirV (gtK x 2) x))) with
          | true =>
           replace h10 := odt h10
           refine Ch.s (dB (cirB (gtK x 2) x)) pm (Ch.s (dB (cirB (gtK x 2) x)) pm (Ch.s (dB (!(decide ((cirB (gtK x 2) x) = (cirB (gtK x 2) x))))) (.pure (.neB _ _ _ _ rfl Tryz.underlying4 rfl rfl)) (Ch.s (dB (!(decide ((cirB (gtK x 2) x) = (cirB (gtK x 2) x))))) (pF rfl) (Ch.nil ?_))))
           refine T_condN (b := (decide ((cirB (gtK x 2) x) = (cirB (gtK x 2) x)))) rfl (fun h11 => ?_) (fun h11 => ?_)
           ·
            replace h11 := odf h11
            refine Ts hc (Ch.s (dB false) pa (Ch.nil (T_ret ?_)))
            exact eR [(dB false)] [] [] (.cons (.tmp 2 rfl) .nil) eA (Exp.of (congrArg D.bool a88) (.d _))
           ·
            replace h11 := odt h11
            refine Tk (Ts hc (Ch.s (dI 1) pa (Ch.nil (Ts hc (Ch.s (.agg [(.row 29000), (.row 29001)]) (lA ag63 sz63 rfl rfl (lb rfl) rfl) ?_)))))
            refine Ch.s (dI 1) pm (Ch.s (dI ((1 + 2 * (cmk 1 (cirV (gtK x 2) x)).sigs.length + gml (cmk 1 (cirV (gtK x 2) x)).gates (cmk 1 (cirV (gtK x 2) x)).gates.length : Nat) : Int)) (.call 90000 46 _ _ _ en46 rfl (.inl rfl) (.cons (.lend (.agg (.cons (.row rfl (frozs_map (fun _ => rfl) _)) (.cons (.row rfl (frozs_to Gat.fz _)) .nil)) rfl)) (.cons (.d _) .nil)) rfl rfl (sp_heldCir (cmk 1 (cirV (gtK x 2) x)) 1 a98 (by first | assumption | exact gmk_sm (by assumption)) a137 (smk_held _ _) a97) (.skip _ _ (.skip _ _ .nil)) rfl) (Ch.s (dI ((1 + 2 * (cmk 1 (cirV (gtK x 2) x)).sigs.length + gml (cmk 1 (cirV (gtK x 2) x)).gates (cmk 1 (cirV (gtK x 2) x)).gates.length : Nat) : Int)) pa (Ch.nil (Tq (Ts hc (Ch.s (dI ((1 + 2 * (cmk 1 (cirV (gtK x 2) x)).sigs.length + gml (cmk 1 (cirV (gtK x 2) x)).gates (cmk 1 (cirV (gtK x 2) x)).gates.length : Nat) : Int)) pm ?_))))))
            refine Ch.s (dB (decide (((1 + 2 * (cmk 1 (cirV (gtK x 2) x)).sigs.length + gml (cmk 1 (cirV (gtK x 2) x)).gates (cmk 1 (cirV (gtK x 2) x)).gates.length : Nat) : Int) < 0))) (iX rfl rfl rfl) (Ch.nil ?_)
            refine T_condD (p := (((1 + 2 * (cmk 1 (cirV (gtK x 2) x)).sigs.length + gml (cmk 1 (cirV (gtK x 2) x)).gates (cmk 1 (cirV (gtK x 2) x)).gates.length : Nat) : Int) < 0)) rfl (fun h12 => ?_) (fun h12 => ?_)
            ·
             refine Ts hc (Ch.s (dB false) pa (Ch.nil (T_ret ?_)))
             exact eR [(dB false)] [] [] (.cons (.tmp 2 rfl) .nil) eA (Exp.of (congrArg D.bool a88) (.d _))
            ·
             refine Tk (Tq (Ts hc (Ch.s (dI ((1 + 2 * (cmk 1 (cirV (gtK x 2) x)).sigs.length + gml (cmk 1 (cirV (gtK x 2) x)).gates (cmk 1 (cirV (gtK x 2) x)).gates.length : Nat) : Int)) pm (Ch.s (dI ((1 + 2 * (cirV (gtK x 2) x).sigs.length + gml (cirV (gtK x 2) x).gates (cirV (gtK x 2) x).gates.length : Nat) : Int)) pm (Ch.s (dB (!(decide (((1 + 2 * (cmk 1 (cirV (gtK x 2) x)).sigs.length + gml (cmk 1 (cirV (gtK x 2) x)).gates (cmk 1 (cirV (gtK x 2) x)).gates.length : Nat) : Int) = ((1 + 2 * (cirV (gtK x 2) x).sigs.length + gml (cirV (gtK x 2) x).gates (cirV (gtK x 2) x).gates.length : Nat) : Int))))) (iX rfl rfl rfl) (Ch.nil ?_))))))
             refine T_condN (b := (decide (((1 + 2 * (cmk 1 (cirV (gtK x 2) x)).sigs.length + gml (cmk 1 (cirV (gtK x 2) x)).gates (cmk 1 (cirV (gtK x 2) x)).gates.length : Nat) : Int) = ((1 + 2 * (cirV (gtK x 2) x).sigs.length + gml (cirV (gtK x 2) x).gates (cirV (gtK x 2) x).gates.length : Nat) : Int)))) rfl (fun h13 => ?_) (fun h13 => ?_)
             ·
              replace h13 := odf h13
              refine Ts hc (Ch.s (dB false) pa (Ch.nil (T_ret ?_)))
              exact eR [(dB false)] [] [] (.cons (.tmp 2 rfl) .nil) eA (Exp.of (congrArg D.bool a88) (.d _))
             ·
              replace h13 := odt h13
              refine Tk (Ts hc (Ch.s (dB true) pa (Ch.nil (T_ret ?_))))
              exact eR [(dB true)] [] [] (.cons (.tmp 2 rfl) .nil) eA (.d _)
          | false =>
           replace h10 := odf h10
           refine Ck (Ck (Ck (Ch.s (dB true) (pT rfl) (Ch.nil ?_))))
           refine T_cond (b := true) rfl (fun _ => ?_) (fun h => nomatch h)
           refine Ts hc (Ch.s (dB false) pa (Ch.nil (T_ret ?_)))
           exact eR [(dB false)] [] [] (.cons (.tmp 2 rfl) .nil) eA (Exp.of (congrArg D.bool a88) (.d _))
      | false =>
       replace h6 := odf h6
       refine Ck (Ck (Ck (Ch.s (dB true) (pT rfl) (Ch.nil ?_))))
       refine T_cond (b := true) rfl (fun _ => ?_) (fun h => nomatch h)
       refine Ts hc (Ch.s (dB false) pa (Ch.nil (T_ret ?_)))
       exact eR [(dB false)] [] [] (.cons (.tmp 2 rfl) .nil) eA (Exp.of (congrArg D.bool a88) (.d _))
  | false =>
   replace h2 := odf h2
   refine Ck (Ck (Ck (Ch.s (dB true) (pT rfl) (Ch.nil ?_))))
   refine T_cond (b := true) rfl (fun _ => ?_) (fun h => nomatch h)
   refine Ts hc (Ch.s (dB false) pa (Ch.nil (T_ret ?_)))
   exact eR [(dB false)] [] [] (.cons (.tmp 2 rfl) .nil) eA (Exp.of (congrArg D.bool a88) (.d _))

end Go.AM
