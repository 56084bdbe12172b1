/-
  The contracts that the law FnExactGeneralizedCCircuit needs.
-/
import Derived.Test.YtnmlcebejnlikaaGreatZGeneralizedCCircuit1
namespace Go.AM
open Go.Proofs
set_option linter.unusedVariables false
set_option linter.unusedSimpArgs false

theorem sp_laws_szStateGraph (x : Sgr) (left : Int) (h0 : 0 ≤ left) (h0u : left ≤ 1048576) (hw : x.wide) : Sp Tryz.prog 16 [(.agg [(.slice false 2 (x.sigs.map Sgn.d)), (.slice false 1 (x.codes.map D.str)), (.slice false 4 (x.arcs.map Arc.d))]), (.int .i64 left)] [.any, .any] (.int .i64 (szR x.bulk left)) := by
 refine Sp_intro (lend := true) Tryz.func16 rfl rfl rfl (fun _ => rfl) (fun c hc hX => ?_)
 have e0 := szR_cases (bulkF Sgn.bulk x.sigs) left
 have e1 := szS_cases x.codes (szR (bulkF Sgn.bulk x.sigs) left)
 have e2 := szR_cases (bulkF Arc.bulk x.arcs) (szS x.codes (szR (bulkF Sgn.bulk x.sigs) left))
 have ef := szR_cases (bulkF Sgn.bulk x.sigs + bulkS x.codes + bulkF Arc.bulk x.arcs) left
 unfold Sgr.wide at hw
 refine Ts hc (Ch.s (.ptr 2000 0) (.box 2000 _ _ rfl (.aggD _)) (Ch.s (dI 0) pa (Ch.nil (Ts hc (Ch.s (.ptr 2000 0) (fP fld26_0 rfl) ?_)))))
 refine Ch.s (.d (.slice false 2 (x.sigs.map Sgn.d))) (lP ag22 rfl rfl rfl) (Ch.s (dI left) pm (Ch.s (dI (szR (bulkF Sgn.bulk x.sigs) left)) (.call 8000 66 _ _ _ en66 rfl (.inl rfl) (.cons (.d _) (.cons (.d _) .nil)) rfl rfl (sp_laws_szSignalS x.sigs left a26 a26 a54 a54) (.skip _ _ (.skip _ _ .nil)) rfl) (Ch.s (dI (szR (bulkF Sgn.bulk x.sigs) left)) pa (Ch.nil (Tq (Tq (Tz hc ?_)))))))
 refine Ch.s (dI (szR (bulkF Sgn.bulk x.sigs) left)) pm (Ch.s (dB (decide ((szR (bulkF Sgn.bulk x.sigs) left) < 0))) (iX rfl rfl rfl) (Ch.nil ?_))
 refine T_condD (p := ((szR (bulkF Sgn.bulk x.sigs) left) < 0)) rfl (fun h1 => ?_) (fun h1 => ?_)
 ·
  refine Ts hc (Ch.s (dI (-1)) pa (Ch.nil (T_ret ?_)))
  exact eR [(dI (-1))] [] [] (.cons (.tmp 4 rfl) .nil) eB (Exp.of (congrArg (D.int .i64) a94) (.d _))
 ·
  refine Tk (Ts hc (Ch.s (.ptr 2000 1) (fP fld26_1 rfl) (Ch.s (.d (.slice false 1 (x.codes.map D.str))) (lP ag23 rfl rfl rfl) (Ch.s (dI (szR (bulkF Sgn.bulk x.sigs) left)) pm (Ch.s (dI (szS x.codes (szR (bulkF Sgn.bulk x.sigs) left))) (.call 14000 67 _ _ _ en67 rfl (.inl rfl) (.cons (.d _) (.cons (.d _) .nil)) rfl rfl (sp_laws_szStringS x.codes (szR (bulkF Sgn.bulk x.sigs) left) a26 a26 a26 a26) (.skip _ _ (.skip _ _ .nil)) rfl) (Ch.s (dI (szS x.codes (szR (bulkF Sgn.bulk x.sigs) left))) pa ?_))))))
  refine Ch.nil (Tq (Ts hc (Ch.s (dI (szS x.codes (szR (bulkF Sgn.bulk x.sigs) left))) pm (Ch.s (dB (decide ((szS x.codes (szR (bulkF Sgn.bulk x.sigs) left)) < 0))) (iX rfl rfl rfl) (Ch.nil ?_)))))
  refine T_condD (p := ((szS x.codes (szR (bulkF Sgn.bulk x.sigs) left)) < 0)) rfl (fun h2 => ?_) (fun h2 => ?_)
  ·
   refine Ts hc (Ch.s (dI (-1)) pa (Ch.nil (T_ret ?_)))
   exact eR [(dI (-1))] [] [] (.cons (.tmp 4 rfl) .nil) eB (Exp.of (congrArg (D.int .i64) a94) (.d _))
  ·
   refine Tk (Ts hc (Ch.s (.ptr 2000 2) (fP fld26_2 rfl) (Ch.s (.d (.slice false 4 (x.arcs.map Arc.d))) (lP ag24 rfl rfl rfl) (Ch.s (dI (szS x.codes (szR (bulkF Sgn.bulk x.sigs) left))) pm (Ch.s (dI (szR (bulkF Arc.bulk x.arcs) (szS x.codes (szR (bulkF Sgn.bulk x.sigs) left)))) (.call 20000 68 _ _ _ en68 rfl (.inl rfl) (.cons (.d _) (.cons (.d _) .nil)) rfl rfl (sp_laws_szArcS x.arcs (szS x.codes (szR (bulkF Sgn.bulk x.sigs) left)) a26 a26 a54 a54) (.skip _ _ (.skip _ _ .nil)) rfl) (Ch.s (dI (szR (bulkF Arc.bulk x.arcs) (szS x.codes (szR (bulkF Sgn.bulk x.sigs) left)))) pa ?_))))))
   refine Ch.nil (Tq (Ts hc (Ch.s (dI (szR (bulkF Arc.bulk x.arcs) (szS x.codes (szR (bulkF Sgn.bulk x.sigs) left)))) pm (Ch.s (dB (decide ((szR (bulkF Arc.bulk x.arcs) (szS x.codes (szR (bulkF Sgn.bulk x.sigs) left))) < 0))) (iX rfl rfl rfl) (Ch.nil ?_)))))
   refine T_condD (p := ((szR (bulkF Arc.bulk x.arcs) (szS x.codes (szR (bulkF Sgn.bulk x.sigs) left))) < 0)) rfl (fun h3 => ?_) (fun h3 => ?_)
   ·
    refine Ts hc (Ch.s (dI (-1)) pa (Ch.nil (T_ret ?_)))
    exact eR [(dI (-1))] [] [] (.cons (.tmp 4 rfl) .nil) eB (Exp.of (congrArg (D.int .i64) a94) (.d _))
   ·
    refine Tk (Ts hc (Ch.s (dI (szR (bulkF Arc.bulk x.arcs) (szS x.codes (szR (bulkF Sgn.bulk x.sigs) left)))) pm (Ch.s (dI (szR (bulkF Arc.bulk x.arcs) (szS x.codes (szR (bulkF Sgn.bulk x.sigs) left)))) pa (Ch.nil (T_ret ?_)))))
    exact eR [(dI (szR (bulkF Arc.bulk x.arcs) (szS x.codes (szR (bulkF Sgn.bulk x.sigs) left))))] [] [] (.cons (.tmp 4 rfl) .nil) eB (Exp.of (congrArg (D.int .i64) a94) (.d _))

theorem sp_laws_toStateGraph (x : Sgr) (hb : x.bulk ≤ 1048576) : Sp Tryz.prog 18 [(.agg [(.slice false 2 (x.sigs.map Sgn.d)), (.slice false 1 (x.codes.map D.str)), (.slice false 4 (x.arcs.map Arc.d))])] [.any] (.agg [(.slice true 2 (x.sigs.map Sgn.d)), (.slice true 1 (x.codes.map D.str)), (.slice true 4 (x.arcs.map Arc.d))]) := by
 refine Sp_intro (lend := true) Tryz.func18 rfl rfl rfl (fun _ => rfl) (fun c hc hX => ?_)
 obtain ⟨hp0, hp1, hp2⟩ := Sgr.parts hb
 have hn0 := bulkF_len hp0
 have hn1 := bulk_len hp1
 have hx1 := bulk_mem hp1
 have hn2 := bulkF_len hp2
 refine Ts hc (Ch.s (.ptr 1000 0) (.box 1000 _ _ rfl (.aggD _)) (Ch.s (.ptr 2000 0) (.alloc 2000 _ rfl zer35) (Ch.nil (Ts hc (Ch.s (.ptr 3000 0) (.alloc 3000 _ rfl zer35) ?_)))))
 refine Ch.nil (Ts hc (Ch.s (.ptr 1000 0) (fP fld26_0 rfl) (Ch.s (.d (.slice false 2 (x.sigs.map Sgn.d))) (lP ag22 rfl rfl rfl) ?_)))
 refine Ch.step (v := (.row 6000)) rfl (.call 6000 70 _ _ _ en70 rfl (.inl rfl) (.cons (.d _) .nil) rfl (sol (solid_row (fun _ => rfl) _) rfl) (sp_laws_toSignalS x.sigs a46) (.skip _ _ .nil) rfl) rfl rfl ?_
 refine Ch.s (.ptr 3000 0) (fP fld35_0 rfl) (Ch.s .junk (.storePtr _ _ _ rfl rfl rfl (.one _ rfl) sz32 (lb rfl)) (Ch.nil (Ts hc (Ch.s (.ptr 1000 1) (fP fld26_1 rfl) (Ch.s (.d (.slice false 1 (x.codes.map D.str))) (lP ag23 rfl rfl rfl) ?_)))))
 refine Ch.step (v := (.row 10000)) rfl (.call 10000 71 _ _ _ en71 rfl (.inl rfl) (.cons (.d _) .nil) rfl (sol (solid_row (fun _ => rfl) _) rfl) (sp_laws_toStringS x.codes a26) (.skip _ _ .nil) rfl) rfl rfl ?_
 refine Ch.s (.ptr 3000 1) (fP fld35_1 rfl) (Ch.s .junk (.storePtr _ _ _ rfl rfl rfl (.one _ rfl) sz23 (lb rfl)) (Ch.nil (Ts hc (Ch.s (.ptr 1000 2) (fP fld26_2 rfl) (Ch.s (.d (.slice false 4 (x.arcs.map Arc.d))) (lP ag24 rfl rfl rfl) ?_)))))
 refine Ch.step (v := (.row 14000)) rfl (.call 14000 72 _ _ _ en72 rfl (.inl rfl) (.cons (.d _) .nil) rfl (sol (solid_row (fun _ => rfl) _) rfl) (sp_laws_toArcS x.arcs a46) (.skip _ _ .nil) rfl) rfl rfl ?_
 refine Ch.s (.ptr 3000 2) (fP fld35_2 rfl) (Ch.s .junk (.storePtr _ _ _ rfl rfl rfl (.one _ rfl) sz33 (lb rfl)) (Ch.nil (Ts hc (Ch.s (.agg [(.row 6000), (.row 10000), (.row 14000)]) (lA ag35 sz35 rfl rfl (lb rfl) rfl) (Ch.s .junk (.storePtr _ _ _ rfl rfl rfl (.agg _ rfl) sz35 (lb rfl)) (Ch.nil ?_))))))
 refine T_ret ?_
 exact eR [(.agg [(.row 6000), (.row 10000), (.row 14000)])] [] [6000, 10000, 14000] (.cons (.cellA _ _ rfl rfl ag35 sz35) .nil) eA (.agg (.cons (.row rfl) (.cons (.row rfl) (.cons (.row rfl) .nil))) rfl)

theorem sp_laws_eqStateGraph (x y : Sgr) (hb : x.bulk ≤ 1048576) : Sp Tryz.prog 21 [(.agg [(.slice false 2 (x.sigs.map Sgn.d)), (.slice false 1 (x.codes.map D.str)), (.slice false 4 (x.arcs.map Arc.d))]), (.agg [(.slice false 2 (y.sigs.map Sgn.d)), (.slice false 1 (y.codes.map D.str)), (.slice false 4 (y.arcs.map Arc.d))])] [.any, .any] (.bool (decide (x = y))) := by
 refine Sp_intro (lend := true) Tryz.func21 rfl rfl rfl (fun _ => rfl) (fun c hc hX => ?_)
 obtain ⟨hp0, hp1, hp2⟩ := Sgr.parts hb
 have hn0 := bulkF_len hp0
 have hn1 := bulk_len hp1
 have hx1 := bulk_mem hp1
 have hn2 := bulkF_len hp2
 refine Ts hc (Ch.s (.ptr 2000 0) (.box 2000 _ _ rfl (.aggD _)) (Ch.s (.ptr 3000 0) (.box 3000 _ _ rfl (.aggD _)) (Ch.s (dB false) pa (Ch.nil (Tq (Tq ?_))))))
 refine Tz hc (Ch.s (.ptr 2000 0) (fP fld35_0 rfl) (Ch.s (.d (.slice false 2 (x.sigs.map Sgn.d))) (lP ag32 rfl rfl rfl) (Ch.s (.ptr 3000 0) (fP fld35_0 rfl) (Ch.s (.d (.slice false 2 (y.sigs.map Sgn.d))) (lP ag32 rfl rfl rfl) (Ch.s (dB (decide (x.sigs = y.sigs))) (.call 9000 74 _ _ _ en74 rfl (.inl rfl) (.cons (.d _) (.cons (.d _) .nil)) rfl rfl (sp_laws_eqSignalS x.sigs y.sigs a46) (.skip _ _ (.skip _ _ .nil)) rfl) (Ch.s (dB (!(decide (x.sigs = y.sigs)))) (nT rfl) (Ch.nil ?_)))))))
 refine T_condN (b := (decide (x.sigs = y.sigs))) rfl (fun h1 => ?_) (fun h1 => ?_)
 ·
  replace h1 := odf h1
  refine Ts hc (Ch.s (dB false) pa (Ch.nil (T_ret ?_)))
  exact eR [(dB false)] [] [] (.cons (.tmp 4 rfl) .nil) eB (Exp.of (congrArg D.bool a136) (.d _))
 ·
  replace h1 := odt h1
  refine Tk (Tq (Ts hc (Ch.s (.ptr 2000 1) (fP fld35_1 rfl) (Ch.s (.d (.slice false 1 (x.codes.map D.str))) (lP ag23 rfl rfl rfl) (Ch.s (.ptr 3000 1) (fP fld35_1 rfl) (Ch.s (.d (.slice false 1 (y.codes.map D.str))) (lP ag23 rfl rfl rfl) ?_))))))
  refine Ch.s (dB (decide (x.codes = y.codes))) (.call 15000 29 _ _ _ en29 rfl (.inl rfl) (.cons (.d _) (.cons (.d _) .nil)) rfl rfl (sp_laws_eqStringS x.codes y.codes a26) (.skip _ _ (.skip _ _ .nil)) rfl) (Ch.s (dB (!(decide (x.codes = y.codes)))) (nT rfl) (Ch.nil ?_))
  refine T_condN (b := (decide (x.codes = y.codes))) rfl (fun h2 => ?_) (fun h2 => ?_)
  ·
   replace h2 := odf h2
   refine Ts hc (Ch.s (dB false) pa (Ch.nil (T_ret ?_)))
   exact eR [(dB false)] [] [] (.cons (.tmp 4 rfl) .nil) eB (Exp.of (congrArg D.bool a136) (.d _))
  ·
   replace h2 := odt h2
   refine Tk (Tq (Ts hc (Ch.s (.ptr 2000 2) (fP fld35_2 rfl) (Ch.s (.d (.slice false 4 (x.arcs.map Arc.d))) (lP ag33 rfl rfl rfl) (Ch.s (.ptr 3000 2) (fP fld35_2 rfl) (Ch.s (.d (.slice false 4 (y.arcs.map Arc.d))) (lP ag33 rfl rfl rfl) ?_))))))
   refine Ch.s (dB (decide (x.arcs = y.arcs))) (.call 21000 75 _ _ _ en75 rfl (.inl rfl) (.cons (.d _) (.cons (.d _) .nil)) rfl rfl (sp_laws_eqArcS x.arcs y.arcs a46) (.skip _ _ (.skip _ _ .nil)) rfl) (Ch.s (dB (!(decide (x.arcs = y.arcs)))) (nT rfl) (Ch.nil ?_))
   refine T_condN (b := (decide (x.arcs = y.arcs))) rfl (fun h3 => ?_) (fun h3 => ?_)
   ·
    replace h3 := odf h3
    refine Ts hc (Ch.s (dB false) pa (Ch.nil (T_ret ?_)))
    exact eR [(dB false)] [] [] (.cons (.tmp 4 rfl) .nil) eB (Exp.of (congrArg D.bool a136) (.d _))
   ·
    replace h3 := odt h3
    refine Tk (Ts hc (Ch.s (dB true) pa (Ch.nil (T_ret ?_))))
    exact eR [(dB true)] [] [] (.cons (.tmp 4 rfl) .nil) eB (Exp.of (congrArg D.bool a136) (.d _))

theorem en263 : Enters Tryz.prog 263 := ⟨_, Tryz.func263, by kernel_rfl, rfl⟩

theorem en251 : Enters Tryz.prog 251 := ⟨_, Tryz.func251, by kernel_rfl, rfl⟩

theorem en234 : Enters Tryz.prog 234 := ⟨_, Tryz.func234, by kernel_rfl, rfl⟩

theorem en236 : Enters Tryz.prog 236 := ⟨_, Tryz.func236, by kernel_rfl, rfl⟩

theorem en235 : Enters Tryz.prog 235 := ⟨_, Tryz.func235, by kernel_rfl, rfl⟩

theorem en218 : Enters Tryz.prog 218 := ⟨_, Tryz.func218, by kernel_rfl, rfl⟩

def letB (x : UInt8) : Bool := decide ((97 : UInt8) ≤ x) && decide (x ≤ 122)

def digB (x : UInt8) : Bool := decide ((48 : UInt8) ≤ x) && decide (x ≤ 57)

def nameCh (x : UInt8) (j : Nat) : Bool := letB x || (digB x && !decide ((j : Int) = 0))

def nameB (u : List UInt8) : Bool := allB u.length (fun j => nameCh (u.getD j 0) j) && withinB u.length 1 6

def sigOk (xs : List Sgn) (j : Nat) : Bool := nameB (xs.getD j default).name && (withinB (xs.getD j default).kind 1 3 && !(xs.take j).any fun y => decide (y.name = (xs.getD j default).name))

def sigsB (xs : List Sgn) : Bool := allB xs.length (sigOk xs) && withinB xs.length 1 8

theorem sigsB_len {sg : List Sgn} (h : sigsB sg = true) : withinB (sg.length : Int) 1 8 = true := by
 unfold sigsB at h
 simp only [Bool.and_eq_true] at h
 exact h.2

theorem digB_n (x : UInt8) : digB x = (!decide (x < 48) && !decide (57 < x)) := by
 unfold digB; rw [← decide_not, ← decide_not]; simp only [UInt8.not_lt]

theorem sp_impl_isName (u : List UInt8) (hu : u.length ≤ 1048576) : Sp Tryz.prog 234 [(.str u)] [.any] (.bool (nameB u)) := by
 refine Sp_intro (lend := true) Tryz.func234 rfl rfl rfl (fun _ => rfl) (fun c hc hX => ?_)
 refine Ts hc (Ch.s (dB false) pa (Ch.nil (Tq (Ts hc (Ch.s (dI 0) pa ?_)))))
 refine Ch.nil (Tb ?_)
 refine T_loop (ι := Nat) (fun k => { n := 45, sl := [(0, (dS u)), (3, (dI (k : Int)))], hp := [], pin := [] }) (fun k => k ≤ u.length ∧ ∀ j, j < k → nameCh (u.getD j 0) j = true) (fun k => u.length - k) ⟨0, ⟨by omega, fun j hj => by omega⟩, (Wk.of rfl rfl (ar (ai (vI a126) trivial)) trivial)⟩ (fun k hp0 => ?_)
 refine Tq (Ts hc (Ch.s (dI (k : Int)) pm (Ch.s (dS u) pm (Ch.s (dI (u.length : Int)) (.pure (.lenStr _ _ rfl Tryz.underlying9 rfl)) (Ch.s (dB (decide ((k : Int) < (u.length : Int)))) (iX rfl rfl rfl) (Ch.nil ?_))))))
 refine T_condD (p := ((k : Int) < (u.length : Int))) rfl (fun h1 => ?_) (fun h1 => ?_)
 ·
  refine Tk (Tq (Tb (Tq ?_)))
  refine T_regionD hc (by kernel_rfl) ?_
  refine ChD.s (dS u) [] pm (ChD.s (dI (k : Int)) [] pm (ChD.s (.d (.int .u8 ((u.getD k 0).toNat : Int))) [] (.pure (.idxStr _ _ _ (k) rfl Tryz.underlying9 rfl rfl rfl get_strA)) (ChD.s (dB (decide (97 ≤ ((u.getD k 0) : UInt8)))) [] (iX rfl rfl (u8_geq ((u.getD k 0) : UInt8) 97 rfl rfl)) (ChD.s (dB (decide (97 ≤ ((u.getD k 0) : UInt8)))) [] pm ?_))))
  cases h2 : (decide (97 ≤ ((u.getD k 0) : UInt8))) with
  | true =>
   replace h2 := odt h2
   refine ChD.s (dS u) [] pm (ChD.s (dI (k : Int)) [] pm (ChD.s (.d (.int .u8 ((u.getD k 0).toNat : Int))) [] (.pure (.idxStr _ _ _ (k) rfl Tryz.underlying9 rfl rfl rfl get_strA)) (ChD.s (dB (decide (((u.getD k 0) : UInt8) ≤ 122))) [] (iX rfl rfl (u8_leq ((u.getD k 0) : UInt8) 122 rfl rfl)) (ChD.s (dB (decide (((u.getD k 0) : UInt8) ≤ 122))) [] (pT rfl) (ChD.s (dS u) [] pm (ChD.s (dI (k : Int)) [] pm (ChD.s (.d (.int .u8 ((u.getD k 0).toNat : Int))) [] (.pure (.idxStr _ _ _ (k) rfl Tryz.underlying9 rfl rfl rfl get_strA)) ?_)))))))
   refine ChD.s (dB (decide (48 ≤ ((u.getD k 0) : UInt8)))) [] (iX rfl rfl (u8_geq ((u.getD k 0) : UInt8) 48 rfl rfl)) (ChD.s (dB (decide (48 ≤ ((u.getD k 0) : UInt8)))) [] pm ?_)
   cases h3 : (decide (48 ≤ ((u.getD k 0) : UInt8))) with
   | true =>
    replace h3 := odt h3
    refine ChD.s (dS u) [] pm (ChD.s (dI (k : Int)) [] pm (ChD.s (.d (.int .u8 ((u.getD k 0).toNat : Int))) [] (.pure (.idxStr _ _ _ (k) rfl Tryz.underlying9 rfl rfl rfl get_strA)) (ChD.s (dB (decide (((u.getD k 0) : UInt8) ≤ 57))) [] (iX rfl rfl (u8_leq ((u.getD k 0) : UInt8) 57 rfl rfl)) (ChD.s (dB (decide (((u.getD k 0) : UInt8) ≤ 57))) [] (pT rfl) (ChD.s (dB (decide (((u.getD k 0) : UInt8) ≤ 122))) [] pa (ChD.s (dB (decide (((u.getD k 0) : UInt8) ≤ 57))) [] pa ?_))))))
    refine ChD.nil (And.intro ?_ (by kernel_rfl))
    refine Ts hc (Ch.s (dB (decide (((u.getD k 0) : UInt8) ≤ 122))) pm (Ch.s (dB (!(decide (((u.getD k 0) : UInt8) ≤ 122)))) (nT rfl) (Ch.s (dB (!(decide (((u.getD k 0) : UInt8) ≤ 122)))) pm ?_)))
    cases h4 : (decide (((u.getD k 0) : UInt8) ≤ 122)) with
    | true =>
     replace h4 := odt h4
     refine Ck (Ck (Ck (Ck (Ck (Ck (Ch.s (dB false) (pF rfl) (Ch.nil ?_)))))))
     refine T_cond (b := false) rfl (fun h => nomatch h) (fun _ => ?_)
     refine Tk (Tz hc (Ch.s (dI (k : Int)) pm (Ch.s (dI ((k : Int) + 1)) (iX rfl rfl intV_addA) (Ch.s (dI ((k : Int) + 1)) pa (Ch.nil ?_)))))
     exact nx (k + 1) ⟨by omega, upto_succ hp0.2 a10⟩ (Wk.of rfl rfl (ar (ai (vI a126) trivial)) trivial)
    | false =>
     replace h4 := odf h4
     refine Ch.s (dB (decide (((u.getD k 0) : UInt8) ≤ 57))) pm (Ch.s (dB (!(decide (((u.getD k 0) : UInt8) ≤ 57)))) (nT rfl) (Ch.s (dB (!(decide (((u.getD k 0) : UInt8) ≤ 57)))) pm ?_))
     cases h5 : (decide (((u.getD k 0) : UInt8) ≤ 57)) with
     | true =>
      replace h5 := odt h5
      refine Ch.s (dI (k : Int)) pm (Ch.s (dB (decide ((k : Int) = 0))) (iX rfl rfl rfl) (Ch.s (dB (decide ((k : Int) = 0))) (pF rfl) (Ch.s (dB (decide ((k : Int) = 0))) (pT rfl) (Ch.nil ?_))))
      refine T_condD (p := ((k : Int) = 0)) rfl (fun h6 => ?_) (fun h6 => ?_)
      ·
       refine Ts hc (Ch.s (dB false) pa (Ch.nil (T_ret ?_)))
       exact eR [(dB false)] [] [] (.cons (.tmp 2 rfl) .nil) eA (Exp.of (congrArg D.bool a6) (.d _))
      ·
       refine Tk (Tz hc (Ch.s (dI (k : Int)) pm (Ch.s (dI ((k : Int) + 1)) (iX rfl rfl intV_addA) (Ch.s (dI ((k : Int) + 1)) pa (Ch.nil ?_)))))
       exact nx (k + 1) ⟨by omega, upto_succ hp0.2 a10⟩ (Wk.of rfl rfl (ar (ai (vI a126) trivial)) trivial)
     | false =>
      replace h5 := odf h5
      refine Ck (Ck (Ch.s (dB true) (pT rfl) (Ch.s (dB true) (pT rfl) (Ch.nil ?_))))
      refine T_cond (b := true) rfl (fun _ => ?_) (fun h => nomatch h)
      refine Ts hc (Ch.s (dB false) pa (Ch.nil (T_ret ?_)))
      exact eR [(dB false)] [] [] (.cons (.tmp 2 rfl) .nil) eA (Exp.of (congrArg D.bool a6) (.d _))
   | false =>
    replace h3 := odf h3
    refine ChD.skip rfl rfl (ChD.skip rfl rfl (ChD.skip rfl rfl (ChD.skip rfl rfl (ChD.s (dB false) [] (pF rfl) (ChD.s (dB (decide (((u.getD k 0) : UInt8) ≤ 122))) [] pa (ChD.s (dB false) [] pa ?_))))))
    refine ChD.nil (And.intro ?_ (by kernel_rfl))
    refine Ts hc (Ch.s (dB (decide (((u.getD k 0) : UInt8) ≤ 122))) pm (Ch.s (dB (!(decide (((u.getD k 0) : UInt8) ≤ 122)))) (nT rfl) (Ch.s (dB (!(decide (((u.getD k 0) : UInt8) ≤ 122)))) pm ?_)))
    cases h7 : (decide (((u.getD k 0) : UInt8) ≤ 122)) with
    | true =>
     replace h7 := odt h7
     refine Ck (Ck (Ck (Ck (Ck (Ck (Ch.s (dB false) (pF rfl) (Ch.nil ?_)))))))
     refine T_cond (b := false) rfl (fun h => nomatch h) (fun _ => ?_)
     refine Tk (Tz hc (Ch.s (dI (k : Int)) pm (Ch.s (dI ((k : Int) + 1)) (iX rfl rfl intV_addA) (Ch.s (dI ((k : Int) + 1)) pa (Ch.nil ?_)))))
     exact nx (k + 1) ⟨by omega, upto_succ hp0.2 a10⟩ (Wk.of rfl rfl (ar (ai (vI a126) trivial)) trivial)
    | false =>
     replace h7 := odf h7
     refine Ch.s (dB false) pm (Ch.s (dB true) (.pure (.not (b := false) _ _ rfl rfl)) (Ch.s (dB true) pm (Ck (Ck (Ch.s (dB true) (pT rfl) (Ch.s (dB true) (pT rfl) (Ch.nil ?_)))))))
     refine T_cond (b := true) rfl (fun _ => ?_) (fun h => nomatch h)
     refine Ts hc (Ch.s (dB false) pa (Ch.nil (T_ret ?_)))
     exact eR [(dB false)] [] [] (.cons (.tmp 2 rfl) .nil) eA (Exp.of (congrArg D.bool a6) (.d _))
  | false =>
   replace h2 := odf h2
   refine ChD.skip rfl rfl (ChD.skip rfl rfl (ChD.skip rfl rfl (ChD.skip rfl rfl (ChD.s (dB false) [] (pF rfl) (ChD.s (dS u) [] pm (ChD.s (dI (k : Int)) [] pm (ChD.s (.d (.int .u8 ((u.getD k 0).toNat : Int))) [] (.pure (.idxStr _ _ _ (k) rfl Tryz.underlying9 rfl rfl rfl get_strA)) ?_)))))))
   refine ChD.s (dB (decide (48 ≤ ((u.getD k 0) : UInt8)))) [] (iX rfl rfl (u8_geq ((u.getD k 0) : UInt8) 48 rfl rfl)) (ChD.s (dB (decide (48 ≤ ((u.getD k 0) : UInt8)))) [] pm ?_)
   cases h8 : (decide (48 ≤ ((u.getD k 0) : UInt8))) with
   | true =>
    replace h8 := odt h8
    refine ChD.s (dS u) [] pm (ChD.s (dI (k : Int)) [] pm (ChD.s (.d (.int .u8 ((u.getD k 0).toNat : Int))) [] (.pure (.idxStr _ _ _ (k) rfl Tryz.underlying9 rfl rfl rfl get_strA)) (ChD.s (dB (decide (((u.getD k 0) : UInt8) ≤ 57))) [] (iX rfl rfl (u8_leq ((u.getD k 0) : UInt8) 57 rfl rfl)) (ChD.s (dB (decide (((u.getD k 0) : UInt8) ≤ 57))) [] (pT rfl) (ChD.s (dB false) [] pa (ChD.s (dB (decide (((u.getD k 0) : UInt8) ≤ 57))) [] pa ?_))))))
    refine ChD.nil (And.intro ?_ (by kernel_rfl))
    refine Ts hc (Ch.s (dB false) pm (Ch.s (dB true) (.pure (.not (b := false) _ _ rfl rfl)) (Ch.s (dB true) pm (Ch.s (dB (decide (((u.getD k 0) : UInt8) ≤ 57))) pm (Ch.s (dB (!(decide (((u.getD k 0) : UInt8) ≤ 57)))) (nT rfl) (Ch.s (dB (!(decide (((u.getD k 0) : UInt8) ≤ 57)))) pm ?_))))))
    cases h9 : (decide (((u.getD k 0) : UInt8) ≤ 57)) with
    | true =>
     replace h9 := odt h9
     refine Ch.s (dI (k : Int)) pm (Ch.s (dB (decide ((k : Int) = 0))) (iX rfl rfl rfl) (Ch.s (dB (decide ((k : Int) = 0))) (pF rfl) (Ch.s (dB (decide ((k : Int) = 0))) (pT rfl) (Ch.nil ?_))))
     refine T_condD (p := ((k : Int) = 0)) rfl (fun h10 => ?_) (fun h10 => ?_)
     ·
      refine Ts hc (Ch.s (dB false) pa (Ch.nil (T_ret ?_)))
      exact eR [(dB false)] [] [] (.cons (.tmp 2 rfl) .nil) eA (Exp.of (congrArg D.bool a6) (.d _))
     ·
      refine Tk (Tz hc (Ch.s (dI (k : Int)) pm (Ch.s (dI ((k : Int) + 1)) (iX rfl rfl intV_addA) (Ch.s (dI ((k : Int) + 1)) pa (Ch.nil ?_)))))
      exact nx (k + 1) ⟨by omega, upto_succ hp0.2 a10⟩ (Wk.of rfl rfl (ar (ai (vI a126) trivial)) trivial)
    | false =>
     replace h9 := odf h9
     refine Ck (Ck (Ch.s (dB true) (pT rfl) (Ch.s (dB true) (pT rfl) (Ch.nil ?_))))
     refine T_cond (b := true) rfl (fun _ => ?_) (fun h => nomatch h)
     refine Ts hc (Ch.s (dB false) pa (Ch.nil (T_ret ?_)))
     exact eR [(dB false)] [] [] (.cons (.tmp 2 rfl) .nil) eA (Exp.of (congrArg D.bool a6) (.d _))
   | false =>
    replace h8 := odf h8
    refine ChD.skip rfl rfl (ChD.skip rfl rfl (ChD.skip rfl rfl (ChD.skip rfl rfl (ChD.s (dB false) [] (pF rfl) (ChD.s (dB false) [] pa (ChD.s (dB false) [] pa ?_))))))
    refine ChD.nil (And.intro ?_ (by kernel_rfl))
    refine Ts hc (Ch.s (dB false) pm (Ch.s (dB true) (.pure (.not (b := false) _ _ rfl rfl)) (Ch.s (dB true) pm (Ch.s (dB false) pm (Ch.s (dB true) (.pure (.not (b := false) _ _ rfl rfl)) (Ch.s (dB true) pm ?_))))))
    refine Ck (Ck (Ch.s (dB true) (pT rfl) (Ch.s (dB true) (pT rfl) (Ch.nil ?_))))
    refine T_cond (b := true) rfl (fun _ => ?_) (fun h => nomatch h)
    refine Ts hc (Ch.s (dB false) pa (Ch.nil (T_ret ?_)))
    exact eR [(dB false)] [] [] (.cons (.tmp 2 rfl) .nil) eA (Exp.of (congrArg D.bool a6) (.d _))
 ·
  refine T_exit (Ts hc (Ch.s (dS u) pm (Ch.s (dI (u.length : Int)) (.pure (.lenStr _ _ rfl Tryz.underlying9 rfl)) (Ch.s (dB (withinB (u.length : Int) 1 6)) (.call 44000 91 _ _ _ en91 rfl (.inl rfl) (.cons (.d _) (.cons (.d _) (.cons (.d _) .nil))) rfl rfl (sp_impl_within (u.length : Int) 1 6) (.skip _ _ (.skip _ _ (.skip _ _ .nil))) rfl) (Ch.s (dB (withinB (u.length : Int) 1 6)) pa (Ch.nil ?_))))))
  refine T_ret ?_
  exact eR [(dB (withinB (u.length : Int) 1 6))] [] [] (.cons (.tmp 2 rfl) .nil) eA (Exp.of (congrArg D.bool a6) (.d _))

theorem sp_spec_l2Name (u : List UInt8) (hu : u.length ≤ 1048576) : Sp Tryz.prog 218 [(.str u)] [.any] (.bool (nameB u)) := by
 refine Sp_intro (lend := true) Tryz.func218 rfl rfl rfl (fun _ => rfl) (fun c hc hX => ?_)
 refine Ts hc (Ch.s (dB false) pa (Ch.nil (Tq (Ts hc (Ch.s (dI 0) pa ?_)))))
 refine Ch.nil (Tb ?_)
 refine T_loop (ι := Nat) (fun k => { n := 42, sl := [(0, (dS u)), (3, (dI (k : Int)))], hp := [], pin := [] }) (fun k => k ≤ u.length ∧ ∀ j, j < k → nameCh (u.getD j 0) j = true) (fun k => u.length - k) ⟨0, ⟨by omega, fun j hj => by omega⟩, (Wk.of rfl rfl (ar (ai (vI a126) trivial)) trivial)⟩ (fun k hp0 => ?_)
 refine Tq (Ts hc (Ch.s (dI (k : Int)) pm (Ch.s (dS u) pm (Ch.s (dI (u.length : Int)) (.pure (.lenStr _ _ rfl Tryz.underlying9 rfl)) (Ch.s (dB (decide ((k : Int) < (u.length : Int)))) (iX rfl rfl rfl) (Ch.nil ?_))))))
 refine T_condD (p := ((k : Int) < (u.length : Int))) rfl (fun h1 => ?_) (fun h1 => ?_)
 ·
  refine Tk (Tq (Tb (Ts hc (Ch.s (dS u) pm (Ch.s (dI (k : Int)) pm (Ch.s (.d (.int .u8 ((u.getD k 0).toNat : Int))) (.pure (.idxStr _ _ _ (k) rfl Tryz.underlying9 rfl rfl rfl get_strA)) ?_))))))
  refine Ch.s (dB (decide (97 ≤ ((u.getD k 0) : UInt8)))) (iX rfl rfl (u8_geq ((u.getD k 0) : UInt8) 97 rfl rfl)) (Ch.s (dB (decide (97 ≤ ((u.getD k 0) : UInt8)))) pm ?_)
  cases h2 : (decide (97 ≤ ((u.getD k 0) : UInt8))) with
  | true =>
   replace h2 := odt h2
   refine Ch.s (dS u) pm (Ch.s (dI (k : Int)) pm (Ch.s (.d (.int .u8 ((u.getD k 0).toNat : Int))) (.pure (.idxStr _ _ _ (k) rfl Tryz.underlying9 rfl rfl rfl get_strA)) (Ch.s (dB (decide (((u.getD k 0) : UInt8) ≤ 122))) (iX rfl rfl (u8_leq ((u.getD k 0) : UInt8) 122 rfl rfl)) (Ch.s (dB (decide (((u.getD k 0) : UInt8) ≤ 122))) (pT rfl) (Ch.s (dB (decide (((u.getD k 0) : UInt8) ≤ 122))) pa (Ch.nil (Tq ?_)))))))
   refine Tz hc (Ch.s (dB (decide (((u.getD k 0) : UInt8) ≤ 122))) pm (Ch.s (dB (!(decide (((u.getD k 0) : UInt8) ≤ 122)))) (nT rfl) (Ch.s (dB (!(decide (((u.getD k 0) : UInt8) ≤ 122)))) pm ?_)))
   cases h3 : (decide (((u.getD k 0) : UInt8) ≤ 122)) with
   | true =>
    replace h3 := odt h3
    refine Ck (Ck (Ck (Ck (Ck (Ck (Ck (Ch.skip rfl rfl ?_)))))))
    refine Ck (Ck (Ck (Ck (Ck (Ck (Ch.s (dB false) (pF rfl) (Ch.nil ?_)))))))
    refine T_cond (b := false) rfl (fun h => nomatch h) (fun _ => ?_)
    refine Tk (Tz hc (Ch.s (dI (k : Int)) pm (Ch.s (dI ((k : Int) + 1)) (iX rfl rfl intV_addA) (Ch.s (dI ((k : Int) + 1)) pa (Ch.nil ?_)))))
    exact nx (k + 1) ⟨by omega, upto_succ hp0.2 a10⟩ (Wk.of rfl rfl (ar (ai (vI a126) trivial)) trivial)
   | false =>
    replace h3 := odf h3
    refine Ch.s (dI (k : Int)) pm (Ch.s (dB (decide ((k : Int) = 0))) (iX rfl rfl rfl) (Ch.s (dB (decide ((k : Int) = 0))) pm ?_))
    cases h4 : (decide ((k : Int) = 0)) with
    | true =>
     replace h4 := odt h4
     refine Ck (Ck (Ck (Ck (Ch.s (dB true) (pT rfl) (Ch.s (dB true) pm (Ck (Ch.skip rfl rfl ?_)))))))
     refine Ck (Ck (Ch.s (dB true) (pT rfl) (Ch.s (dB true) (pT rfl) (Ch.nil ?_))))
     refine T_cond (b := true) rfl (fun _ => ?_) (fun h => nomatch h)
     refine Ts hc (Ch.s (dB false) pa (Ch.nil (T_ret ?_)))
     exact eR [(dB false)] [] [] (.cons (.tmp 2 rfl) .nil) eA (Exp.of (congrArg D.bool a6) (.d _))
    | false =>
     replace h4 := odf h4
     refine Ch.s (dS u) pm (Ch.s (dI (k : Int)) pm (Ch.s (.d (.int .u8 ((u.getD k 0).toNat : Int))) (.pure (.idxStr _ _ _ (k) rfl Tryz.underlying9 rfl rfl rfl get_strA)) (Ch.s (dB (decide (((u.getD k 0) : UInt8) < 48))) (iX rfl rfl (u8_lss ((u.getD k 0) : UInt8) 48 rfl rfl)) (Ch.s (dB (decide (((u.getD k 0) : UInt8) < 48))) (pF rfl) (Ch.s (dB (decide (((u.getD k 0) : UInt8) < 48))) pm ?_)))))
     cases h5 : (decide (((u.getD k 0) : UInt8) < 48)) with
     | true =>
      replace h5 := odt h5
      refine Ck (Ck (Ck (Ck (Ch.s (dB true) (pT rfl) (Ch.s (dB true) (pT rfl) (Ch.nil ?_))))))
      refine T_cond (b := true) rfl (fun _ => ?_) (fun h => nomatch h)
      refine Ts hc (Ch.s (dB false) pa (Ch.nil (T_ret ?_)))
      exact eR [(dB false)] [] [] (.cons (.tmp 2 rfl) .nil) eA (Exp.of (congrArg D.bool a6) (.d _))
     | false =>
      replace h5 := odf h5
      refine Ch.s (dS u) pm (Ch.s (dI (k : Int)) pm (Ch.s (.d (.int .u8 ((u.getD k 0).toNat : Int))) (.pure (.idxStr _ _ _ (k) rfl Tryz.underlying9 rfl rfl rfl get_strA)) (Ch.s (dB (decide (57 < ((u.getD k 0) : UInt8)))) (iX rfl rfl (u8_gtr ((u.getD k 0) : UInt8) 57 rfl rfl)) (Ch.s (dB (decide (57 < ((u.getD k 0) : UInt8)))) (pF rfl) (Ch.s (dB (decide (57 < ((u.getD k 0) : UInt8)))) (pT rfl) (Ch.nil ?_))))))
      refine T_condD (p := (57 < ((u.getD k 0) : UInt8))) rfl (fun h6 => ?_) (fun h6 => ?_)
      ·
       refine Ts hc (Ch.s (dB false) pa (Ch.nil (T_ret ?_)))
       exact eR [(dB false)] [] [] (.cons (.tmp 2 rfl) .nil) eA (Exp.of (congrArg D.bool a6) (.d _))
      ·
       refine Tk (Tz hc (Ch.s (dI (k : Int)) pm (Ch.s (dI ((k : Int) + 1)) (iX rfl rfl intV_addA) (Ch.s (dI ((k : Int) + 1)) pa (Ch.nil ?_)))))
       exact nx (k + 1) ⟨by omega, upto_succ hp0.2 a10⟩ (Wk.of rfl rfl (ar (ai (vI a126) trivial)) trivial)
  | false =>
   replace h2 := odf h2
   refine Ck (Ck (Ck (Ck (Ch.s (dB false) (pF rfl) (Ch.s (dB false) pa (Ch.nil (Tq ?_)))))))
   refine Tz hc (Ch.s (dB false) pm (Ch.s (dB true) (.pure (.not (b := false) _ _ rfl rfl)) (Ch.s (dB true) pm (Ch.s (dI (k : Int)) pm (Ch.s (dB (decide ((k : Int) = 0))) (iX rfl rfl rfl) (Ch.s (dB (decide ((k : Int) = 0))) pm ?_))))))
   cases h7 : (decide ((k : Int) = 0)) with
   | true =>
    replace h7 := odt h7
    refine Ck (Ck (Ck (Ck (Ch.s (dB true) (pT rfl) (Ch.s (dB true) pm (Ck (Ch.skip rfl rfl ?_)))))))
    refine Ck (Ck (Ch.s (dB true) (pT rfl) (Ch.s (dB true) (pT rfl) (Ch.nil ?_))))
    refine T_cond (b := true) rfl (fun _ => ?_) (fun h => nomatch h)
    refine Ts hc (Ch.s (dB false) pa (Ch.nil (T_ret ?_)))
    exact eR [(dB false)] [] [] (.cons (.tmp 2 rfl) .nil) eA (Exp.of (congrArg D.bool a6) (.d _))
   | false =>
    replace h7 := odf h7
    refine Ch.s (dS u) pm (Ch.s (dI (k : Int)) pm (Ch.s (.d (.int .u8 ((u.getD k 0).toNat : Int))) (.pure (.idxStr _ _ _ (k) rfl Tryz.underlying9 rfl rfl rfl get_strA)) (Ch.s (dB (decide (((u.getD k 0) : UInt8) < 48))) (iX rfl rfl (u8_lss ((u.getD k 0) : UInt8) 48 rfl rfl)) (Ch.s (dB (decide (((u.getD k 0) : UInt8) < 48))) (pF rfl) (Ch.s (dB (decide (((u.getD k 0) : UInt8) < 48))) pm ?_)))))
    cases h8 : (decide (((u.getD k 0) : UInt8) < 48)) with
    | true =>
     replace h8 := odt h8
     refine Ck (Ck (Ck (Ck (Ch.s (dB true) (pT rfl) (Ch.s (dB true) (pT rfl) (Ch.nil ?_))))))
     refine T_cond (b := true) rfl (fun _ => ?_) (fun h => nomatch h)
     refine Ts hc (Ch.s (dB false) pa (Ch.nil (T_ret ?_)))
     exact eR [(dB false)] [] [] (.cons (.tmp 2 rfl) .nil) eA (Exp.of (congrArg D.bool a6) (.d _))
    | false =>
     replace h8 := odf h8
     refine Ch.s (dS u) pm (Ch.s (dI (k : Int)) pm (Ch.s (.d (.int .u8 ((u.getD k 0).toNat : Int))) (.pure (.idxStr _ _ _ (k) rfl Tryz.underlying9 rfl rfl rfl get_strA)) (Ch.s (dB (decide (57 < ((u.getD k 0) : UInt8)))) (iX rfl rfl (u8_gtr ((u.getD k 0) : UInt8) 57 rfl rfl)) (Ch.s (dB (decide (57 < ((u.getD k 0) : UInt8)))) (pF rfl) (Ch.s (dB (decide (57 < ((u.getD k 0) : UInt8)))) (pT rfl) (Ch.nil ?_))))))
     refine T_condD (p := (57 < ((u.getD k 0) : UInt8))) rfl (fun h9 => ?_) (fun h9 => ?_)
     ·
      refine Ts hc (Ch.s (dB false) pa (Ch.nil (T_ret ?_)))
      exact eR [(dB false)] [] [] (.cons (.tmp 2 rfl) .nil) eA (Exp.of (congrArg D.bool a6) (.d _))
     ·
      refine Tk (Tz hc (Ch.s (dI (k : Int)) pm (Ch.s (dI ((k : Int) + 1)) (iX rfl rfl intV_addA) (Ch.s (dI ((k : Int) + 1)) pa (Ch.nil ?_)))))
      exact nx (k + 1) ⟨by omega, upto_succ hp0.2 a10⟩ (Wk.of rfl rfl (ar (ai (vI a126) trivial)) trivial)
 ·
  refine T_exit (Ts hc (Ch.s (dS u) pm (Ch.s (dI (u.length : Int)) (.pure (.lenStr _ _ rfl Tryz.underlying9 rfl)) (Ch.s (dB (withinB (u.length : Int) 1 6)) (.call 41000 89 _ _ _ en89 rfl (.inl rfl) (.cons (.d _) (.cons (.d _) (.cons (.d _) .nil))) rfl rfl (sp_spec_l1In (u.length : Int) 1 6) (.skip _ _ (.skip _ _ (.skip _ _ .nil))) rfl) (Ch.s (dB (withinB (u.length : Int) 1 6)) pa (Ch.nil ?_))))))
  refine T_ret ?_
  exact eR [(dB (withinB (u.length : Int) 1 6))] [] [] (.cons (.tmp 2 rfl) .nil) eA (Exp.of (congrArg D.bool a6) (.d _))

theorem sp_IndexFunc_sgn (xs : List Sgn) (f : FuncId) (caps : List D) (p : Sgn → Bool) (hf : Enters Tryz.prog f) (hp : ∀ x ∈ xs, Sp Tryz.prog f (Sgn.d x :: caps) (.any :: anys caps) (.bool (p x))) (hn : xs.length ≤ 1048576) : Sp Tryz.prog 263 [(.slice false 2 (xs.map Sgn.d)), (.fn f caps)] [.any, .any] (.int .i64 (ixF p xs)) := by
 refine Sp_intro (lend := true) Tryz.func263 rfl rfl rfl (fun _ => rfl) (fun c hc hX => ?_)
 refine Ts hc (Ch.s (dI 0) pa (Ch.nil (Tq (Ts hc (Ch.s (.d (.slice false 2 (xs.map Sgn.d))) pm ?_)))))
 refine Ch.s (dI (xs.length : Int)) (.pure (.len _ _ 154 rfl Tryz.underlying32 (.sh _ _) (by simp))) (Ch.s (dI 0) pm (Ch.nil (Tb ?_)))
 refine T_loop (ι := Nat) (fun k => { n := 19, sl := [(0, (.d (.slice false 2 (xs.map Sgn.d)))), (1, (.d (.fn f caps))), (7, (dI (xs.length : Int))), (8, (dI (k : Int)))], hp := [], pin := [] }) (fun k => k ≤ xs.length ∧ ∀ j, j < k → p (xs.getD j default) = false) (fun k => xs.length - k) ⟨0, ⟨by omega, fun j hj => by omega⟩, (Wk.of rfl rfl (ar (ar (ar (ai (vI a126) trivial)))) trivial)⟩ (fun k hp0 => ?_)
 refine Ts hc (Ch.s (dB (decide ((k : Int) < (xs.length : Int)))) (iX rfl rfl rfl) (Ch.nil (Tq ?_)))
 refine T_condD (p := ((k : Int) < (xs.length : Int))) rfl (fun h1 => ?_) (fun h1 => ?_)
 ·
  refine Tk (Tq (Tb (Ts hc (Ch.s (dI (k : Int)) pm (Ch.s (dI (k : Int)) pa (Ch.nil ?_))))))
  refine Ts hc (Ch.s (.d (.fn f caps)) pm (Ch.s (.d (.slice false 2 (xs.map Sgn.d))) pm (Ch.s (dI (k : Int)) pm (Ch.s (.d (.ref (.agg [(.str ((xs.getD k default).name)), (.int .i64 ((xs.getD k default).kind))]))) (.pure (.idx _ _ _ 154 (k) rfl Tryz.underlying32 sz154 rfl rfl rfl get_mapA)) (Ch.s (.d (.agg [(.str ((xs.getD k default).name)), (.int .i64 ((xs.getD k default).kind))])) (.pure (.loadRefA _ _ rfl ag154 sz154 rfl)) ?_)))))
  refine Ch.step (v := (dB (p (xs.getD k default)))) rfl (.callS 16000 f _ #[.tmp 15] _ hf rfl (.inr ⟨caps, rfl, rfl⟩) (.cons (.d _) (exps_ds caps)) rfl (hp _ (getD_mem (by omega))) (.skip _ _ (back_anys caps)) rfl) rfl rfl ?_
  refine Ch.nil ?_
  refine T_cond (b := (p (xs.getD k default))) rfl (fun h2 => ?_) (fun h2 => ?_)
  ·
   refine Ts hc (Ch.s (dI (k : Int)) pm (Ch.s (dI (k : Int)) pa (Ch.nil (T_ret ?_))))
   exact eR [(dI (k : Int))] [] [] (.cons (.tmp 4 rfl) .nil) eB (Exp.of (congrArg (D.int .i64) a110) (.d _))
  ·
   refine Tk (Tz hc (Ch.s (dI ((k : Int) + 1)) (iX rfl rfl intV_addA) (Ch.s (dI ((k : Int) + 1)) pm (Ch.nil ?_))))
   exact nx (k + 1) ⟨by omega, upto_succ hp0.2 (by assumption)⟩ (Wk.of rfl rfl (ar (ar (ar (ai (vI a126) trivial)))) trivial)
 ·
  refine T_exit (Ts hc (Ch.s (dI (-1)) pa (Ch.nil (T_ret ?_))))
  exact eR [(dI (-1))] [] [] (.cons (.tmp 4 rfl) .nil) eB (Exp.of (congrArg (D.int .i64) a107) (.d _))

theorem sp_ContainsFunc_sgn (xs : List Sgn) (f : FuncId) (caps : List D) (p : Sgn → Bool) (hf : Enters Tryz.prog f) (hp : ∀ x ∈ xs, Sp Tryz.prog f (Sgn.d x :: caps) (.any :: anys caps) (.bool (p x))) (hn : xs.length ≤ 1048576) : Sp Tryz.prog 235 [(.slice false 2 (xs.map Sgn.d)), (.fn f caps)] [.any, .any] (.bool (xs.any p)) := by
 refine Sp_intro (lend := true) Tryz.func235 rfl rfl rfl (fun _ => rfl) (fun c hc hX => ?_)
 refine Ts hc (Ch.s (dB false) pa (Ch.nil (Ts hc (Ch.s (.d (.slice false 2 (xs.map Sgn.d))) pm (Ch.s (.d (.fn f caps)) pm ?_)))))
 refine Ch.s (dI (ixF p xs)) (.call 7000 263 _ _ _ en263 rfl (.inl rfl) (.cons (.d _) (.cons (.d _) .nil)) rfl rfl (sp_IndexFunc_sgn xs f caps p hf hp a26) (.skip _ _ (.skip _ _ .nil)) rfl) (Ch.s (dB (decide (0 ≤ (ixF p xs)))) (iX rfl rfl rfl) (Ch.s (dB (decide (0 ≤ (ixF p xs)))) pa (Ch.nil (T_ret ?_))))
 exact eR [(dB (decide (0 ≤ (ixF p xs))))] [] [] (.cons (.tmp 4 rfl) .nil) eB (Exp.of (congrArg D.bool (by exact ixF_nonneg p xs)) (.d _))

theorem sp_IndexFunc_arc (xs : List Arc) (f : FuncId) (caps : List D) (p : Arc → Bool) (hf : Enters Tryz.prog f) (hp : ∀ x ∈ xs, Sp Tryz.prog f (Arc.d x :: caps) (.any :: anys caps) (.bool (p x))) (hn : xs.length ≤ 1048576) : Sp Tryz.prog 251 [(.slice false 4 (xs.map Arc.d)), (.fn f caps)] [.any, .any] (.int .i64 (ixF p xs)) := by
 refine Sp_intro (lend := true) Tryz.func251 rfl rfl rfl (fun _ => rfl) (fun c hc hX => ?_)
 refine Ts hc (Ch.s (dI 0) pa (Ch.nil (Tq (Ts hc (Ch.s (.d (.slice false 4 (xs.map Arc.d))) pm ?_)))))
 refine Ch.s (dI (xs.length : Int)) (.pure (.len _ _ 125 rfl Tryz.underlying33 (.sh _ _) (by simp))) (Ch.s (dI 0) pm (Ch.nil (Tb ?_)))
 refine T_loop (ι := Nat) (fun k => { n := 19, sl := [(0, (.d (.slice false 4 (xs.map Arc.d)))), (1, (.d (.fn f caps))), (7, (dI (xs.length : Int))), (8, (dI (k : Int)))], hp := [], pin := [] }) (fun k => k ≤ xs.length ∧ ∀ j, j < k → p (xs.getD j default) = false) (fun k => xs.length - k) ⟨0, ⟨by omega, fun j hj => by omega⟩, (Wk.of rfl rfl (ar (ar (ar (ai (vI a126) trivial)))) trivial)⟩ (fun k hp0 => ?_)
 refine Ts hc (Ch.s (dB (decide ((k : Int) < (xs.length : Int)))) (iX rfl rfl rfl) (Ch.nil (Tq ?_)))
 refine T_condD (p := ((k : Int) < (xs.length : Int))) rfl (fun h1 => ?_) (fun h1 => ?_)
 ·
  refine Tk (Tq (Tb (Ts hc (Ch.s (dI (k : Int)) pm (Ch.s (dI (k : Int)) pa (Ch.nil ?_))))))
  refine Ts hc (Ch.s (.d (.fn f caps)) pm (Ch.s (.d (.slice false 4 (xs.map Arc.d))) pm (Ch.s (dI (k : Int)) pm (Ch.s (.d (.ref (.agg [(.int .i64 ((xs.getD k default).src)), (.int .i64 ((xs.getD k default).sig)), (.bool ((xs.getD k default).up)), (.int .i64 ((xs.getD k default).dst))]))) (.pure (.idx _ _ _ 125 (k) rfl Tryz.underlying33 sz125 rfl rfl rfl get_mapA)) (Ch.s (.d (.agg [(.int .i64 ((xs.getD k default).src)), (.int .i64 ((xs.getD k default).sig)), (.bool ((xs.getD k default).up)), (.int .i64 ((xs.getD k default).dst))])) (.pure (.loadRefA _ _ rfl ag125 sz125 rfl)) ?_)))))
  refine Ch.step (v := (dB (p (xs.getD k default)))) rfl (.callS 16000 f _ #[.tmp 15] _ hf rfl (.inr ⟨caps, rfl, rfl⟩) (.cons (.d _) (exps_ds caps)) rfl (hp _ (getD_mem (by omega))) (.skip _ _ (back_anys caps)) rfl) rfl rfl ?_
  refine Ch.nil ?_
  refine T_cond (b := (p (xs.getD k default))) rfl (fun h2 => ?_) (fun h2 => ?_)
  ·
   refine Ts hc (Ch.s (dI (k : Int)) pm (Ch.s (dI (k : Int)) pa (Ch.nil (T_ret ?_))))
   exact eR [(dI (k : Int))] [] [] (.cons (.tmp 4 rfl) .nil) eB (Exp.of (congrArg (D.int .i64) a110) (.d _))
  ·
   refine Tk (Tz hc (Ch.s (dI ((k : Int) + 1)) (iX rfl rfl intV_addA) (Ch.s (dI ((k : Int) + 1)) pm (Ch.nil ?_))))
   exact nx (k + 1) ⟨by omega, upto_succ hp0.2 (by assumption)⟩ (Wk.of rfl rfl (ar (ar (ar (ai (vI a126) trivial)))) trivial)
 ·
  refine T_exit (Ts hc (Ch.s (dI (-1)) pa (Ch.nil (T_ret ?_))))
  exact eR [(dI (-1))] [] [] (.cons (.tmp 4 rfl) .nil) eB (Exp.of (congrArg (D.int .i64) a107) (.d _))

theorem sp_ContainsFunc_arc (xs : List Arc) (f : FuncId) (caps : List D) (p : Arc → Bool) (hf : Enters Tryz.prog f) (hp : ∀ x ∈ xs, Sp Tryz.prog f (Arc.d x :: caps) (.any :: anys caps) (.bool (p x))) (hn : xs.length ≤ 1048576) : Sp Tryz.prog 207 [(.slice false 4 (xs.map Arc.d)), (.fn f caps)] [.any, .any] (.bool (xs.any p)) := by
 refine Sp_intro (lend := true) Tryz.func207 rfl rfl rfl (fun _ => rfl) (fun c hc hX => ?_)
 refine Ts hc (Ch.s (dB false) pa (Ch.nil (Ts hc (Ch.s (.d (.slice false 4 (xs.map Arc.d))) pm (Ch.s (.d (.fn f caps)) pm ?_)))))
 refine Ch.s (dI (ixF p xs)) (.call 7000 251 _ _ _ en251 rfl (.inl rfl) (.cons (.d _) (.cons (.d _) .nil)) rfl rfl (sp_IndexFunc_arc xs f caps p hf hp a26) (.skip _ _ (.skip _ _ .nil)) rfl) (Ch.s (dB (decide (0 ≤ (ixF p xs)))) (iX rfl rfl rfl) (Ch.s (dB (decide (0 ≤ (ixF p xs)))) pa (Ch.nil (T_ret ?_))))
 exact eR [(dB (decide (0 ≤ (ixF p xs))))] [] [] (.cons (.tmp 4 rfl) .nil) eB (Exp.of (congrArg D.bool (by exact ixF_nonneg p xs)) (.d _))

theorem sp_impl_areSignals_1 (y x : Sgn) : Sp Tryz.prog 236 [(.agg [(.str y.name), (.int .i64 y.kind)]), (.ref (.agg [(.str x.name), (.int .i64 x.kind)]))] [.any, .any] (.bool (decide (y.name = x.name))) := by
 refine Sp_intro (lend := true) Tryz.func236 rfl rfl rfl (fun _ => rfl) (fun c hc hX => ?_)
 refine Ts hc (Ch.s (.ptr 2000 0) (.box 2000 _ _ rfl (.aggD _)) (Ch.s (dB false) pa (Ch.nil (Ts hc (Ch.s (.ptr 2000 0) (fP fld154_0 rfl) ?_)))))
 refine Ch.s (dS y.name) (lP ag9 rfl rfl rfl) (Ch.s (.d (.ref (.str x.name))) (.pure (.fldRef _ _ _ rfl fld154_0 rfl rfl rfl)) (Ch.s (dS x.name) (rF ag9 rfl rfl) (Ch.s (dB (decide (y.name = x.name))) (.pure (.str _ _ _ _ _ rfl rfl rfl rfl)) (Ch.s (dB (decide (y.name = x.name))) pa (Ch.nil (T_ret ?_))))))
 exact eR [(dB (decide (y.name = x.name)))] [] [] (.cons (.tmp 3 rfl) .nil) eB (.d _)

theorem sp_impl_areSignals (xs : List Sgn) (hb : bulkF Sgn.bulk xs ≤ 1048576) : Sp Tryz.prog 186 [(.slice false 2 (xs.map Sgn.d))] [.any] (.bool (sigsB xs)) := by
 refine Sp_intro (lend := true) Tryz.func186 rfl rfl rfl (fun _ => rfl) (fun c hc hX => ?_)
 have hn := bulkF_len hb
 refine Ts hc (Ch.s (dB false) pa (Ch.nil (Tq (Ts hc (Ch.s (.d (.slice false 2 (xs.map Sgn.d))) pm ?_)))))
 refine Ch.s (dI (xs.length : Int)) (.pure (.len _ _ 154 rfl Tryz.underlying32 (.sh _ _) (by simp))) (Ch.s (dI 0) pm (Ch.nil (Tb ?_)))
 refine T_loop (ι := Nat) (fun k => { n := 33, sl := [(0, (.d (.slice false 2 (xs.map Sgn.d)))), (5, (.d (.slice false 2 (xs.map Sgn.d)))), (6, (dI (xs.length : Int))), (7, (dI (k : Int)))], hp := [], pin := [] }) (fun k => k ≤ xs.length ∧ ∀ j, j < k → sigOk xs j = true) (fun k => xs.length - k) ⟨0, ⟨by omega, fun j hj => by omega⟩, (Wk.of rfl rfl (ar (ar (ar (ai (vI a126) trivial)))) trivial)⟩ (fun k hp0 => ?_)
 refine Ts hc (Ch.s (dB (decide ((k : Int) < (xs.length : Int)))) (iX rfl rfl rfl) (Ch.nil (Tq ?_)))
 refine T_condD (p := ((k : Int) < (xs.length : Int))) rfl (fun h1 => ?_) (fun h1 => ?_)
 ·
  try have hk : (xs.getD k default).name.length ≤ 1048576 := bulkF_mem hb _ (getD_mem (l := xs) (j := k) (d := default) (by omega))
  refine Tk (Tq (Tb (Ts hc (Ch.s (dI (k : Int)) pm (Ch.s (.d (.ref (.agg [(.str ((xs.getD k default).name)), (.int .i64 ((xs.getD k default).kind))]))) (.pure (.idx _ _ _ 154 (k) rfl Tryz.underlying32 sz154 rfl rfl rfl get_mapA)) (Ch.s (.d (.agg [(.str ((xs.getD k default).name)), (.int .i64 ((xs.getD k default).kind))])) (.pure (.loadRefA _ _ rfl ag154 sz154 rfl)) ?_))))))
  refine Ch.s (.ptr 4000 0) (.alloc 4000 _ rfl zer154) (Ch.s (dI (k : Int)) pa (Ch.s .junk (.storePtr _ _ _ rfl rfl rfl (.aggD _) sz154 (lb rfl)) (Ch.nil (Ts hc (Ch.s (.ptr 4000 0) (fP fld154_0 rfl) (Ch.s (dS ((xs.getD k default).name)) (lP ag9 rfl rfl rfl) ?_))))))
  refine Ch.s (dB (nameB ((xs.getD k default).name))) (.call 14000 234 _ _ _ en234 rfl (.inl rfl) (.cons (.d _) .nil) rfl rfl (sp_impl_isName ((xs.getD k default).name) a26) (.skip _ _ .nil) rfl) (Ch.s (dB (!(nameB ((xs.getD k default).name)))) (nT rfl) (Ch.s (dB (!(nameB ((xs.getD k default).name)))) pm ?_))
  cases h2 : (nameB ((xs.getD k default).name)) with
  | true =>
   refine Ch.s (.ptr 4000 1) (fP fld154_1 rfl) (Ch.s (dI ((xs.getD k default).kind)) (lP ag3 rfl rfl rfl) (Ch.s (dB (withinB ((xs.getD k default).kind) 1 3)) (.call 19000 91 _ _ _ en91 rfl (.inl rfl) (.cons (.d _) (.cons (.d _) (.cons (.d _) .nil))) rfl rfl (sp_impl_within ((xs.getD k default).kind) 1 3) (.skip _ _ (.skip _ _ (.skip _ _ .nil))) rfl) (Ch.s (dB (!(withinB ((xs.getD k default).kind) 1 3))) (nT rfl) (Ch.s (dB (!(withinB ((xs.getD k default).kind) 1 3))) (pF rfl) (Ch.s (dB (!(withinB ((xs.getD k default).kind) 1 3))) pm ?_)))))
   cases h3 : (withinB ((xs.getD k default).kind) 1 3) with
   | true =>
    refine Ch.s (.d (.slice false 2 (xs.map Sgn.d))) pm (Ch.s (dI (k : Int)) pm (Ch.s (.d (.slice false 2 ((xs.take k).map Sgn.d))) (.pure (.sliceSh _ _ _ _ 154 (0) (k) rfl Tryz.underlying32 sz154 rfl (bndN rfl) (bndS rfl rfl) (by simp <;> omega) (by simp <;> omega) a87)) (Ch.s (.fn 236 [(.ptr 4000 0)]) (.pure (.func _ _ rfl rfl)) (Ch.s (dB ((xs.take k).any (fun y => decide (y.name = (xs.getD k default).name)))) (.call 27000 235 _ _ _ en235 rfl (.inl rfl) (.cons (.d _) (.cons (.lend (.fn (.cons (.ptr rfl (.agg (.cons (.d _) (.cons (.d _) .nil)) rfl)) .nil))) .nil)) rfl rfl (sp_ContainsFunc_sgn (xs.take k) 236 [(.ref (.agg [(.str ((xs.getD k default).name)), (.int .i64 ((xs.getD k default).kind))]))] (fun y => decide (y.name = (xs.getD k default).name)) en236 (fun y _ => sp_impl_areSignals_1 y (xs.getD k default)) a26) (.skip _ _ (.skip _ _ .nil)) rfl) (Ch.s (dB ((xs.take k).any (fun y => decide (y.name = (xs.getD k default).name)))) (pF rfl) (Ch.nil ?_))))))
    refine T_cond (b := ((xs.take k).any (fun y => decide (y.name = (xs.getD k default).name)))) rfl (fun h4 => ?_) (fun h4 => ?_)
    ·
     refine Ts hc (Ch.s (dB false) pa (Ch.nil (T_ret ?_)))
     exact eR [(dB false)] [] [] (.cons (.tmp 2 rfl) .nil) eA (Exp.of (congrArg D.bool a41) (.d _))
    ·
     refine Tk (Tz hc (Ch.s (dI ((k : Int) + 1)) (iX rfl rfl intV_addA) (Ch.s (dI ((k : Int) + 1)) pm (Ch.nil ?_))))
     exact nx (k + 1) ⟨by omega, upto_succ hp0.2 a76⟩ (Wk.of rfl rfl (ar (ar (ar (ai (vI a126) trivial)))) trivial)
   | false =>
    refine Ck (Ck (Ck (Ck (Ck (Ch.s (dB true) (pT rfl) (Ch.nil ?_))))))
    refine T_cond (b := true) rfl (fun _ => ?_) (fun h => nomatch h)
    refine Ts hc (Ch.s (dB false) pa (Ch.nil (T_ret ?_)))
    exact eR [(dB false)] [] [] (.cons (.tmp 2 rfl) .nil) eA (Exp.of (congrArg D.bool a41) (.d _))
  | false =>
   refine Ck (Ck (Ck (Ck (Ch.s (dB true) (pT rfl) (Ch.s (dB true) pm (Ck (Ch.skip rfl rfl ?_)))))))
   refine Ck (Ck (Ck (Ch.s (dB true) (pT rfl) (Ch.nil ?_))))
   refine T_cond (b := true) rfl (fun _ => ?_) (fun h => nomatch h)
   refine Ts hc (Ch.s (dB false) pa (Ch.nil (T_ret ?_)))
   exact eR [(dB false)] [] [] (.cons (.tmp 2 rfl) .nil) eA (Exp.of (congrArg D.bool a41) (.d _))
 ·
  try have hk : (xs.getD k default).name.length ≤ 1048576 := bulkF_mem hb _ (getD_mem (l := xs) (j := k) (d := default) (by omega))
  refine T_exit (Ts hc (Ch.s (.d (.slice false 2 (xs.map Sgn.d))) pm (Ch.s (dI (xs.length : Int)) (.pure (.len _ _ 154 rfl Tryz.underlying32 (.sh _ _) (by simp))) (Ch.s (dB (withinB (xs.length : Int) 1 8)) (.call 32000 91 _ _ _ en91 rfl (.inl rfl) (.cons (.d _) (.cons (.d _) (.cons (.d _) .nil))) rfl rfl (sp_impl_within (xs.length : Int) 1 8) (.skip _ _ (.skip _ _ (.skip _ _ .nil))) rfl) (Ch.s (dB (withinB (xs.length : Int) 1 8)) pa (Ch.nil ?_))))))
  refine T_ret ?_
  exact eR [(dB (withinB (xs.length : Int) 1 8))] [] [] (.cons (.tmp 2 rfl) .nil) eA (Exp.of (congrArg D.bool a41) (.d _))

theorem any_take {xs : List Sgn} {k m : Nat} (hk : k ≤ xs.length) (hm : (xs.take k).length ≤ m) (h : ∀ j, j < m → decide (((xs.take k).getD j default).name = (xs.getD k default).name) = false) : ((xs.take k).any fun y => decide (y.name = (xs.getD k default).name)) = false :=
 (any_no default fun j hj => h j (by omega)).symm

theorem sp_spec_l2Signals (xs : List Sgn) (hb : bulkF Sgn.bulk xs ≤ 1048576) : Sp Tryz.prog 162 [(.slice false 2 (xs.map Sgn.d))] [.any] (.bool (sigsB xs)) := by
 refine Sp_intro (lend := true) Tryz.func162 rfl rfl rfl (fun _ => rfl) (fun c hc hX => ?_)
 have hn := bulkF_len hb
 refine Ts hc (Ch.s (dB false) pa (Ch.nil (Tq (Ts hc (Ch.s (.d (.slice false 2 (xs.map Sgn.d))) pm ?_)))))
 refine Ch.s (dI (xs.length : Int)) (.pure (.len _ _ 154 rfl Tryz.underlying32 (.sh _ _) (by simp))) (Ch.s (dI 0) pm (Ch.nil (Tb ?_)))
 refine T_loop (ι := Nat) (fun k => { n := 42, sl := [(0, (.d (.slice false 2 (xs.map Sgn.d)))), (7, (.d (.slice false 2 (xs.map Sgn.d)))), (8, (dI (xs.length : Int))), (9, (dI (k : Int)))], hp := [], pin := [] }) (fun k => k ≤ xs.length ∧ ∀ j, j < k → sigOk xs j = true) (fun k => xs.length - k) ⟨0, ⟨by omega, fun j hj => by omega⟩, (Wk.of rfl rfl (ar (ar (ar (ai (vI a126) trivial)))) trivial)⟩ (fun k hp0 => ?_)
 refine Ts hc (Ch.s (dB (decide ((k : Int) < (xs.length : Int)))) (iX rfl rfl rfl) (Ch.nil (Tq ?_)))
 refine T_condD (p := ((k : Int) < (xs.length : Int))) rfl (fun h1 => ?_) (fun h1 => ?_)
 ·
  try have hk : (xs.getD k default).name.length ≤ 1048576 := bulkF_mem hb _ (getD_mem (l := xs) (j := k) (d := default) (by omega))
  refine Tk (Tq (Tb (Ts hc (Ch.s (dI (k : Int)) pm (Ch.s (.d (.ref (.agg [(.str ((xs.getD k default).name)), (.int .i64 ((xs.getD k default).kind))]))) (.pure (.idx _ _ _ 154 (k) rfl Tryz.underlying32 sz154 rfl rfl rfl get_mapA)) (Ch.s (.d (.agg [(.str ((xs.getD k default).name)), (.int .i64 ((xs.getD k default).kind))])) (.pure (.loadRefA _ _ rfl ag154 sz154 rfl)) ?_))))))
  refine Ch.s (.ptr 4000 0) (.alloc 4000 _ rfl zer154) (Ch.s (dI (k : Int)) pa (Ch.s .junk (.storePtr _ _ _ rfl rfl rfl (.aggD _) sz154 (lb rfl)) (Ch.nil (Tq (Ts hc (Ch.s (.ptr 4000 0) (fP fld154_0 rfl) ?_))))))
  refine Ch.s (dS ((xs.getD k default).name)) (lP ag9 rfl rfl rfl) (Ch.s (dB (nameB ((xs.getD k default).name))) (.call 16000 218 _ _ _ en218 rfl (.inl rfl) (.cons (.d _) .nil) rfl rfl (sp_spec_l2Name ((xs.getD k default).name) a26) (.skip _ _ .nil) rfl) (Ch.s (dB (!(nameB ((xs.getD k default).name)))) (nT rfl) (Ch.s (dB (!(nameB ((xs.getD k default).name)))) pm ?_)))
  cases h2 : (nameB ((xs.getD k default).name)) with
  | true =>
   refine Ch.s (.ptr 4000 1) (fP fld154_1 rfl) (Ch.s (dI ((xs.getD k default).kind)) (lP ag3 rfl rfl rfl) (Ch.s (dB (withinB ((xs.getD k default).kind) 1 3)) (.call 21000 89 _ _ _ en89 rfl (.inl rfl) (.cons (.d _) (.cons (.d _) (.cons (.d _) .nil))) rfl rfl (sp_spec_l1In ((xs.getD k default).kind) 1 3) (.skip _ _ (.skip _ _ (.skip _ _ .nil))) rfl) (Ch.s (dB (!(withinB ((xs.getD k default).kind) 1 3))) (nT rfl) (Ch.s (dB (!(withinB ((xs.getD k default).kind) 1 3))) (pF rfl) (Ch.nil ?_)))))
   refine T_condN (b := (withinB ((xs.getD k default).kind) 1 3)) rfl (fun h3 => ?_) (fun h3 => ?_)
   ·
    refine Ts hc (Ch.s (dB false) pa (Ch.nil (T_ret ?_)))
    exact eR [(dB false)] [] [] (.cons (.tmp 2 rfl) .nil) eA (Exp.of (congrArg D.bool a30) (.d _))
   ·
    refine Tk (Ts hc (Ch.s (.d (.slice false 2 (xs.map Sgn.d))) pm (Ch.s (dI (k : Int)) pm (Ch.s (.d (.slice false 2 ((xs.take k).map Sgn.d))) (.pure (.sliceSh _ _ _ _ 154 (0) (k) rfl Tryz.underlying32 sz154 rfl (bndN rfl) (bndS rfl rfl) (by simp <;> omega) (by simp <;> omega) a87)) (Ch.s (dI ((xs.take k).length : Int)) (.pure (.len _ _ 154 rfl Tryz.underlying32 (.sh _ _) (by simp))) (Ch.s (dI 0) pm ?_))))))
    refine Ch.nil (Tb ?_)
    refine T_loop (ι := Nat) (fun m => { n := 42, sl := [(0, (.d (.slice false 2 (xs.map Sgn.d)))), (4, (.ptr 4000 0)), (7, (.d (.slice false 2 (xs.map Sgn.d)))), (8, (dI (xs.length : Int))), (9, (dI (k : Int))), (26, (.d (.slice false 2 ((xs.take k).map Sgn.d)))), (27, (dI ((xs.take k).length : Int))), (28, (dI (m : Int)))], hp := [(4000, (some (.box [(dS ((xs.getD k default).name)), (dI ((xs.getD k default).kind))])))], pin := [] }) (fun m => m ≤ (xs.take k).length ∧ ∀ j, j < m → decide (((xs.take k).getD j default).name = (xs.getD k default).name) = false) (fun m => (xs.take k).length - m) ⟨0, ⟨by omega, fun j hj => by omega⟩, (Wk.of rfl rfl (ar (ar (ar (ar (ar (ar (ar (ai (vI a126) trivial)))))))) (ar trivial))⟩ (fun m hp1 => ?_)
    have hlt : (xs.take k).length = k := by simp; omega
    refine Ts hc (Ch.s (dB (decide ((m : Int) < ((xs.take k).length : Int)))) (iX rfl rfl rfl) (Ch.nil (Tq ?_)))
    refine T_condD (p := ((m : Int) < ((xs.take k).length : Int))) rfl (fun h4 => ?_) (fun h4 => ?_)
    ·
     refine Tk (Tq (Tb (Ts hc (Ch.s (.d (.ref (.agg [(.str (((xs.take k).getD m default).name)), (.int .i64 (((xs.take k).getD m default).kind))]))) (.pure (.idx _ _ _ 154 (m) rfl Tryz.underlying32 sz154 rfl rfl rfl get_mapA)) (Ch.s (.d (.agg [(.str (((xs.take k).getD m default).name)), (.int .i64 (((xs.take k).getD m default).kind))])) (.pure (.loadRefA _ _ rfl ag154 sz154 rfl)) (Ch.s (.ptr 6000 0) (.alloc 6000 _ rfl zer154) ?_))))))
     refine Ch.s .junk (.storePtr _ _ _ rfl rfl rfl (.aggD _) sz154 (lb rfl)) (Ch.nil (Ts hc (Ch.s (.ptr 4000 0) (fP fld154_0 rfl) (Ch.s (dS ((xs.getD k default).name)) (lP ag9 rfl rfl rfl) (Ch.s (.ptr 6000 0) (fP fld154_0 rfl) (Ch.s (dS (((xs.take k).getD m default).name)) (lP ag9 rfl rfl rfl) ?_))))))
     refine Ch.s (dB (decide (((xs.getD k default).name) = (((xs.take k).getD m default).name)))) (.pure (.str _ _ _ _ _ rfl rfl rfl rfl)) (Ch.nil ?_)
     refine T_condD (p := (((xs.getD k default).name) = (((xs.take k).getD m default).name))) rfl (fun h5 => ?_) (fun h5 => ?_)
     ·
      try have hy := any_yes (p := fun y : Sgn => decide (y.name = (xs.getD k default).name)) (l := xs.take k) default m (by omega) (decide_eq_true h5.symm)
      refine Ts hc (Ch.s (dB false) pa (Ch.nil (T_ret ?_)))
      exact eR [(dB false)] [] [] (.cons (.tmp 2 rfl) .nil) eA (Exp.of (congrArg D.bool a30) (.d _))
     ·
      try have hy := any_yes (p := fun y : Sgn => decide (y.name = (xs.getD k default).name)) (l := xs.take k) default m (by omega) (decide_eq_true h5.symm)
      refine Tk (Tz hc (Ch.s (dI ((m : Int) + 1)) (iX rfl rfl intV_addA) (Ch.s (dI ((m : Int) + 1)) pm (Ch.nil ?_))))
      exact nx (m + 1) ⟨by omega, upto_succ hp1.2 (by first | (simp_all; done) | (exact decide_eq_false (fun e => (by assumption : ¬ _) e.symm)))⟩ (Wk.of rfl rfl (ar (ar (ar (ar (ar (ar (ar (ai (vI a126) trivial)))))))) (ar trivial))
    ·
     refine T_exit (Tz hc (Ch.s (dI ((k : Int) + 1)) (iX rfl rfl intV_addA) (Ch.s (dI ((k : Int) + 1)) pm (Ch.nil ?_))))
     exact nx (k + 1) ⟨by omega, upto_succ hp0.2 a76⟩ (Wk.of rfl rfl (ar (ar (ar (ai (vI a126) trivial)))) trivial)
  | false =>
   refine Ck (Ck (Ck (Ck (Ch.s (dB true) (pT rfl) (Ch.nil ?_)))))
   refine T_cond (b := true) rfl (fun _ => ?_) (fun h => nomatch h)
   refine Ts hc (Ch.s (dB false) pa (Ch.nil (T_ret ?_)))
   exact eR [(dB false)] [] [] (.cons (.tmp 2 rfl) .nil) eA (Exp.of (congrArg D.bool a30) (.d _))
 ·
  try have hk : (xs.getD k default).name.length ≤ 1048576 := bulkF_mem hb _ (getD_mem (l := xs) (j := k) (d := default) (by omega))
  refine T_exit (Ts hc (Ch.s (.d (.slice false 2 (xs.map Sgn.d))) pm (Ch.s (dI (xs.length : Int)) (.pure (.len _ _ 154 rfl Tryz.underlying32 (.sh _ _) (by simp))) (Ch.s (dB (withinB (xs.length : Int) 1 8)) (.call 41000 89 _ _ _ en89 rfl (.inl rfl) (.cons (.d _) (.cons (.d _) (.cons (.d _) .nil))) rfl rfl (sp_spec_l1In (xs.length : Int) 1 8) (.skip _ _ (.skip _ _ (.skip _ _ .nil))) rfl) (Ch.s (dB (withinB (xs.length : Int) 1 8)) pa (Ch.nil ?_))))))
  refine T_ret ?_
  exact eR [(dB (withinB (xs.length : Int) 1 8))] [] [] (.cons (.tmp 2 rfl) .nil) eA (Exp.of (congrArg D.bool a30) (.d _))

theorem sty55 : SlotTy Tryz.prog 55 3 1 8 := slotTy_mk (by kernel_rfl)

def outP (sg : List Sgn) (j : Nat) : Bool := !decide ((sg.getD j default).kind = 1)

def outK (sg : List Sgn) (k : Nat) : List Int := selTo k (outP sg) fun j => (j : Int)

def outsL (sg : List Sgn) : List Int := outK sg sg.length

theorem outK_le (sg : List Sgn) (k : Nat) : (outK sg k).length ≤ k := selTo_le _ _ _

theorem sp_impl_outputs (x : Sgr) (hb : x.bulk ≤ 1048576) : Sp Tryz.prog 173 [(.agg [(.slice false 2 (x.sigs.map Sgn.d)), (.slice false 1 (x.codes.map D.str)), (.slice false 4 (x.arcs.map Arc.d))])] [.any] (.slice true 1 ((outsL x.sigs).map (fun n : Int => D.int .i64 n))) := by
 refine Sp_intro (lend := true) Tryz.func173 rfl rfl rfl (fun _ => rfl) (fun c hc hX => ?_)
 obtain ⟨hp0, hp1, hp2⟩ := Sgr.parts hb
 have hn0 := bulkF_len hp0
 have hn1 := bulk_len hp1
 have hx1 := bulk_mem hp1
 have hn2 := bulkF_len hp2
 refine Ts hc (Ch.s (.ptr 1000 0) (.box 1000 _ _ rfl (.aggD _)) (Ch.s (.c (.slice none 0 0)) pa (Ch.nil (Ts hc (Ch.s (.row 6000) (.slice 6000 _ 3 _ rfl sty55 (xs := []) rfl rfl .nil rfl rfl (by decide)) ?_)))))
 refine Ch.s (.row 6000) pa (Ch.nil (Tq (Ts hc (Ch.s (.ptr 1000 0) (fP fld35_0 rfl) (Ch.s (.d (.slice false 2 (x.sigs.map Sgn.d))) (lP ag32 rfl rfl rfl) (Ch.s (dI (x.sigs.length : Int)) (.pure (.len _ _ 154 rfl Tryz.underlying32 (.sh _ _) (by simp))) ?_))))))
 refine Ch.s (dI 0) pm (Ch.nil (Tb ?_))
 refine T_loop (ι := Nat) (fun k => { n := 24, sl := [(3, (.row 3)), (8, (.d (.slice false 2 (x.sigs.map Sgn.d)))), (9, (dI (x.sigs.length : Int))), (10, (dI (k : Int)))], hp := [(3, (some (.row 1 ((outK x.sigs k).map (fun n : Int => D.int .i64 n)))))], pin := [] }) (fun k => k ≤ x.sigs.length) (fun k => x.sigs.length - k) ⟨0, (by omega), (Wk.ren [(3, 6000)] rfl rfl rfl rfl (ar (ar (ar (ai (vI a126) trivial)))) (ai (oR a75) trivial))⟩ (fun k hp0 => ?_)
 have hq := outK_le x.sigs k
 refine Ts hc (Ch.s (dB (decide ((k : Int) < (x.sigs.length : Int)))) (iX rfl rfl rfl) (Ch.nil (Tq ?_)))
 refine T_condD (p := ((k : Int) < (x.sigs.length : Int))) rfl (fun h1 => ?_) (fun h1 => ?_)
 ·
  refine Tk (Tq (Tb (Ts hc (Ch.s (dI (k : Int)) pm (Ch.s (.d (.ref (.agg [(.str ((x.sigs.getD k default).name)), (.int .i64 ((x.sigs.getD k default).kind))]))) (.pure (.idx _ _ _ 154 (k) rfl Tryz.underlying32 sz154 rfl rfl rfl get_mapA)) (Ch.s (.d (.agg [(.str ((x.sigs.getD k default).name)), (.int .i64 ((x.sigs.getD k default).kind))])) (.pure (.loadRefA _ _ rfl ag154 sz154 rfl)) ?_))))))
  refine Ch.s (.ptr 5000 0) (.alloc 5000 _ rfl zer154) (Ch.s (dI (k : Int)) pa (Ch.s .junk (.storePtr _ _ _ rfl rfl rfl (.aggD _) sz154 (lb rfl)) (Ch.nil (Ts hc (Ch.s (.ptr 5000 1) (fP fld154_1 rfl) (Ch.s (dI ((x.sigs.getD k default).kind)) (lP ag3 rfl rfl rfl) ?_))))))
  refine Ch.s (dB (!(decide (((x.sigs.getD k default).kind) = 1)))) (iX rfl rfl rfl) (Ch.nil ?_)
  refine T_condN (b := (decide (((x.sigs.getD k default).kind) = 1))) rfl (fun h2 => ?_) (fun h2 => ?_)
  ·
   replace h2 := odf h2
   refine Tz hc (Ch.s (.row 3) pm (Ch.s (dI (k : Int)) pm (Ch.s (.row 20000) (.slice 20000 _ 3 _ rfl sty55 (xs := [.tmp 19]) rfl rfl (.cons (.d _) .nil) rfl rfl (by decide)) ?_)))
   refine Ch.step (v := (.row 21000)) rfl (.append 21000 _ _ _ 3 rfl sty55 (by decide) (.rowK rfl) (.inr ⟨_, rfl, rfl⟩) (.row rfl rfl) rfl a69) rfl rfl ?_
   refine Ch.s (.row 21000) pa (Ch.nil (Tz hc (Ch.s (dI ((k : Int) + 1)) (iX rfl rfl intV_addA) (Ch.s (dI ((k : Int) + 1)) pm (Ch.nil ?_)))))
   exact nx (k + 1) (by omega) (Wk.ren [(3, 21000)] rfl rfl rfl rfl (ar (ar (ar (ai (vI a126) trivial)))) (ai (oR a75) trivial))
  ·
   replace h2 := odt h2
   refine Tk (Tz hc (Ch.s (dI ((k : Int) + 1)) (iX rfl rfl intV_addA) (Ch.s (dI ((k : Int) + 1)) pm (Ch.nil ?_))))
   exact nx (k + 1) (by omega) (Wk.of rfl rfl (ar (ar (ar (ai (vI a126) trivial)))) (ai (oR a75) trivial))
 ·
  refine T_exit (Ts hc (Ch.s (.row 3) pm (Ch.s (.row 3) pa (Ch.nil (T_ret ?_)))))
  exact eR [(.row 3)] [] [3] (.cons (.tmp 2 rfl) .nil) eA (Exp.of (congrArg (D.slice true 1) (by rw [outsL, show x.sigs.length = k by omega])) (.row rfl))

def sgOk (sg : List Sgn) : Prop := sg.length ≤ 8 ∧ ∀ y ∈ sg, 1 ≤ y.name.length ∧ y.name.length ≤ 6

theorem sgOk_of {sg : List Sgn} (h : sigsB sg = true) : sgOk sg := by
 unfold sigsB at h
 simp only [Bool.and_eq_true, allB_true] at h
 have hw := h.2
 unfold withinB at hw
 simp only [Bool.and_eq_true, decide_eq_true_iff] at hw
 refine ⟨by omega, fun y hy => ?_⟩
 obtain ⟨j, hj, rfl⟩ := List.mem_iff_getElem.1 hy
 have h1 := h.1 j hj
 have hg : sg.getD j default = sg[j] := by simp [hj]
 unfold sigOk at h1
 rw [hg] at h1
 simp only [Bool.and_eq_true] at h1
 have h2 := h1.1
 unfold nameB at h2
 simp only [Bool.and_eq_true] at h2
 have h3 := h2.2
 unfold withinB at h3
 simp only [Bool.and_eq_true, decide_eq_true_iff] at h3
 omega

theorem en289 : Enters Tryz.prog 289 := ⟨_, Tryz.func289, by kernel_rfl, rfl⟩

theorem en264 : Enters Tryz.prog 264 := ⟨_, Tryz.func264, by kernel_rfl, rfl⟩

theorem zr3 : (Tryz.prog.info? 3).bind (·.zero) = some (.int .i64 0) := by kernel_rfl

theorem en237 : Enters Tryz.prog 237 := ⟨_, Tryz.func237, by kernel_rfl, rfl⟩

theorem zr55 : (Tryz.prog.info? 55).bind (·.zero) = some (.slice none 0 0) := by kernel_rfl

theorem zer55 : ∃ i z, Tryz.prog.info? 55 = some i ∧ i.zero = some z ∧ z.cells = List.toArray [.slice none 0 0] := zero_mk zr55 rfl

theorem sty49 : SlotTy Tryz.prog 49 55 1 24 := slotTy_mk (by kernel_rfl)

theorem sz212 : SizeIs Tryz.prog 212 2 := by unfold SizeIs; kernel_rfl

theorem ag212 : AggIs Tryz.prog 212 true := by unfold AggIs; kernel_rfl

theorem zr212 : (Tryz.prog.info? 212).bind (·.zero) = some (.agg #[.int .i64 0, .int .i64 0]) := by kernel_rfl

theorem zer212 : ∃ i z, Tryz.prog.info? 212 = some i ∧ i.zero = some z ∧ z.cells = List.toArray [.int .i64 0, .int .i64 0] := zero_mk zr212 rfl

theorem fld212_0 : FieldIs Tryz.prog 212 0 0 1 false := FieldIs.mk Tryz.underlying212 rfl rfl sz3 ag3 rfl

theorem sz55 : SizeIs Tryz.prog 55 1 := by unfold SizeIs; kernel_rfl

theorem ag55 : AggIs Tryz.prog 55 false := by unfold AggIs; kernel_rfl

theorem fld212_1 : FieldIs Tryz.prog 212 1 1 1 false := FieldIs.mk Tryz.underlying212 rfl rfl sz3 ag3 rfl

def linked (a : List (List Int)) (e : Stp) : List (List Int) := a.set e.src.toNat (a.getD e.src.toNat default ++ [e.dst])

def adjTo (n : Nat) (l : List Stp) (k : Nat) : List (List Int) := (l.take k).foldl linked (List.replicate n [])

theorem adjTo_zero (n : Nat) (l : List Stp) : adjTo n l 0 = List.replicate n [] := rfl

theorem adjTo_succ {n : Nat} {l : List Stp} {k : Nat} (h : k < l.length) : adjTo n l (k + 1) = linked (adjTo n l k) (l.getD k default) := by
 have hg : l.getD k default = l[k] := by simp [h]
 unfold adjTo
 rw [List.take_succ_eq_append_getElem h, List.foldl_append, hg]; rfl

theorem set_holeI {a : List (List Int)} {j : Nat} {h : D} {xs : List Int} {y : Int} : ((a.map intsU).set j h).set j (.slice true 1 (xs.map (fun n => D.int .i64 n) ++ [D.int .i64 y])) = (a.set j (xs ++ [y])).map intsU := by
 rw [show D.slice true 1 (xs.map (fun n => D.int .i64 n) ++ [D.int .i64 y]) = intsU (xs ++ [y]) from congrArg (D.slice true 1) (by rw [List.map_append]; rfl)]
 exact set_hole

theorem getD_app {a b : List Int} {k : Nat} (h : k < a.length) : (a ++ b).getD k default = a.getD k default := by
 rw [List.getD_eq_getElem?_getD, List.getElem?_append_left h, ← List.getD_eq_getElem?_getD]

theorem linked_length (a : List (List Int)) (e : Stp) : (linked a e).length = a.length := by simp [linked]

theorem foldl_len : ∀ (l : List Stp) (a : List (List Int)), (l.foldl linked a).length = a.length
 | [], _ => rfl
 | e :: l, a => by rw [List.foldl_cons, foldl_len l, linked_length]

theorem adjTo_length (n : Nat) (l : List Stp) (k : Nat) : (adjTo n l k).length = n := by rw [adjTo, foldl_len, List.length_replicate]

theorem adj_len (n : Nat) (l : List Stp) : ∀ k, k ≤ l.length → ∀ i, ((adjTo n l k).getD i default).length ≤ k
  | 0, _, i => by
    rw [adjTo_zero]
    by_cases hi : i < n
    · simp [hi]
    · simp [hi]; rfl
  | k + 1, hk, i => by
    rw [adjTo_succ (by omega), linked, List.getD_eq_getElem?_getD, List.getElem?_set]
    have h1 := adj_len n l k (by omega)
    split
    · rename_i e
      subst e
      have h2 := h1 (l.getD k default).src.toNat
      split
      · rw [Option.getD_some, List.length_append, List.length_singleton]; omega
      · exact Nat.zero_le _
    · rw [← List.getD_eq_getElem?_getD]
      have h2 := h1 i; omega

def relax (k : Nat) (p : List Int × List Int) (t : Int) : List Int × List Int :=
 if p.1.getD t.toNat default < 0 then (p.1.set t.toNat (p.1.getD (p.2.getD k default).toNat default + 1), p.2 ++ [t]) else p

def relaxTo (k : Nat) (o q ts : List Int) (m : Nat) : List Int × List Int := (ts.take m).foldl (relax k) (o, q)

theorem relaxTo_zero (k : Nat) (o q ts : List Int) : relaxTo k o q ts 0 = (o, q) := rfl

theorem relaxTo_succ {k : Nat} {o q ts : List Int} {m : Nat} (h : m < ts.length) : relaxTo k o q ts (m + 1) = relax k (relaxTo k o q ts m) (ts.getD m default) := by
 have hg : ts.getD m default = ts[m] := by simp [h]
 unfold relaxTo
 rw [List.take_succ_eq_append_getElem h, List.foldl_append, hg]; rfl

theorem sp_bits_Mul64 (n : Nat) (hn : n ≤ 1048576) : Sp Tryz.prog 289 [(.int .u64 1), (.int .u64 (n : Int))] [.any, .any] (.tup [(.int .u64 0), (.int .u64 (n : Int))]) := by
 refine Sp_intro (lend := true) Tryz.func289 rfl rfl rfl (fun _ => rfl) (fun c hc hX => ?_)
 refine Ts hc (Ch.s (.d (.int .u64 0)) pa (Ch.s (.d (.int .u64 0)) pa (Ch.nil (Ts hc (Ch.s (.d (.int .u64 1)) pm ?_)))))
 refine Ch.s (.d (.int .u64 1)) (iX rfl rfl rfl) (Ch.s (.d (.int .u64 1)) pa (Ch.nil (Ts hc (Ch.s (.d (.int .u64 1)) pm (Ch.s (.d (.int .u64 0)) (.pure (.shift _ _ _ _ _ rfl rfl rfl rfl)) (Ch.s (.d (.int .u64 0)) pa ?_))))))
 refine Ch.nil (Ts hc (Ch.s (.d (.int .u64 (n : Int))) pm (Ch.s (.d (.int .u64 (n : Int))) (iX rfl rfl (u64_and (n := n) a52)) (Ch.s (.d (.int .u64 (n : Int))) pa (Ch.nil (Tq ?_))))))
 refine Tz hc (Ch.s (.d (.int .u64 (n : Int))) pm (Ch.s (.d (.int .u64 0)) (.pure (.shift _ _ _ _ _ rfl rfl rfl (u64_shr (n := n) a52))) (Ch.s (.d (.int .u64 0)) pa (Ch.nil (Ts hc (Ch.s (.d (.int .u64 1)) pm ?_))))))
 refine Ch.s (.d (.int .u64 (n : Int))) pm (Ch.s (.d (.int .u64 (n : Int))) (iX rfl rfl (u64_mul1 (n := n) a52)) (Ch.s (.d (.int .u64 (n : Int))) pa (Ch.nil (Ts hc (Ch.s (.d (.int .u64 0)) pm (Ch.s (.d (.int .u64 (n : Int))) pm ?_))))))
 refine Ch.s (.d (.int .u64 0)) (iX rfl rfl (u64_mul0 _)) (Ch.s (.d (.int .u64 (n : Int))) pm (Ch.s (.d (.int .u64 0)) (.pure (.shift _ _ _ _ _ rfl rfl rfl (u64_shr (n := n) a52))) (Ch.s (.d (.int .u64 0)) (iX rfl rfl rfl) (Ch.s (.d (.int .u64 0)) pa (Ch.nil (Tq (Tz hc ?_)))))))
 refine Ch.s (.d (.int .u64 0)) pm (Ch.s (.d (.int .u64 0)) (iX rfl rfl rfl) (Ch.s (.d (.int .u64 0)) pa (Ch.nil (Ts hc (Ch.s (.d (.int .u64 0)) pm (Ch.s (.d (.int .u64 0)) (.pure (.shift _ _ _ _ _ rfl rfl rfl rfl)) ?_))))))
 refine Ch.s (.d (.int .u64 0)) pa (Ch.nil (Ts hc (Ch.s (.d (.int .u64 0)) pm (Ch.s (.d (.int .u64 1)) pm (Ch.s (.d (.int .u64 0)) pm (Ch.s (.d (.int .u64 0)) (iX rfl rfl rfl) ?_))))))
 refine Ch.s (.d (.int .u64 0)) (iX rfl rfl rfl) (Ch.s (.d (.int .u64 0)) pa (Ch.nil (Ts hc (Ch.s (.d (.int .u64 0)) pm (Ch.s (.d (.int .u64 0)) pm (Ch.s (.d (.int .u64 0)) (iX rfl rfl rfl) ?_))))))
 refine Ch.s (.d (.int .u64 0)) pm (Ch.s (.d (.int .u64 0)) (iX rfl rfl rfl) (Ch.s (.d (.int .u64 0)) pm (Ch.s (.d (.int .u64 0)) (.pure (.shift _ _ _ _ _ rfl rfl rfl rfl)) (Ch.s (.d (.int .u64 0)) (iX rfl rfl rfl) (Ch.s (.d (.int .u64 0)) pa (Ch.nil (Tq ?_)))))))
 refine Tz hc (Ch.s (.d (.int .u64 1)) pm (Ch.s (.d (.int .u64 (n : Int))) pm (Ch.s (.d (.int .u64 (n : Int))) (iX rfl rfl (u64_mul1 (n := n) a52)) (Ch.s (.d (.int .u64 (n : Int))) pa (Ch.nil (T_ret ?_))))))
 exact eR [(.d (.int .u64 0)), (.d (.int .u64 (n : Int)))] [] [] (.cons (.tmp 4 rfl) (.cons (.tmp 5 rfl) .nil)) eB (.tup (.cons (.d _) (.cons (.d _) .nil)))

theorem sp_bits_Mul (n : Nat) (hn : n ≤ 1048576) : Sp Tryz.prog 264 [(.int .u64 1), (.int .u64 (n : Int))] [.any, .any] (.tup [(.int .u64 0), (.int .u64 (n : Int))]) := by
 refine Sp_intro (lend := true) Tryz.func264 rfl rfl rfl (fun _ => rfl) (fun c hc hX => ?_)
 refine Ts hc (Ch.s (.d (.int .u64 0)) pa (Ch.s (.d (.int .u64 0)) pa (Ch.nil (Tq ?_))))
 refine T_cond (b := false) rfl (fun h => nomatch h) (fun _ => ?_)
 refine Tk (Ts hc (Ch.s (.d (.int .u64 1)) pm (Ch.s (.d (.int .u64 (n : Int))) pm (Ch.s (.tup [(.d (.int .u64 0)), (.d (.int .u64 (n : Int)))]) (.call 25000 289 _ _ _ en289 rfl (.inl rfl) (.cons (.d _) (.cons (.d _) .nil)) rfl rfl (sp_bits_Mul64 n a26) (.skip _ _ (.skip _ _ .nil)) rfl) (Ch.s (.tup [(.d (.int .u64 0)), (.d (.int .u64 (n : Int)))]) pm (Ch.s (.d (.int .u64 0)) (xT rfl rfl) ?_))))))
 refine Ch.s (.d (.int .u64 (n : Int))) (xT rfl rfl) (Ch.s (.d (.int .u64 0)) pa (Ch.s (.d (.int .u64 (n : Int))) pa (Ch.nil (Ts hc (Ch.s (.d (.int .u64 0)) pm (Ch.s (.d (.int .u64 (n : Int))) pm ?_))))))
 refine Ch.s (.d (.int .u64 0)) pa (Ch.s (.d (.int .u64 (n : Int))) pa (Ch.nil (T_ret ?_)))
 exact eR [(.d (.int .u64 0)), (.d (.int .u64 (n : Int)))] [] [] (.cons (.tmp 4 rfl) (.cons (.tmp 5 rfl) .nil)) eB (.tup (.cons (.d _) (.cons (.d _) .nil)))

def repTo (v : Int) (n k : Nat) : List Int := List.replicate k v ++ List.replicate (n - k) 0

theorem repTo_all (v : Int) {n k : Nat} (h : n ≤ k) (h2 : k ≤ n) : repTo v n k = List.replicate n v := by
 rw [repTo, show k = n by omega, Nat.sub_self]; simp

theorem repTo_length (v : Int) {n k : Nat} (h : k ≤ n) : (repTo v n k).length = n := by simp [repTo]; omega

theorem noUs_rep {d : D} (h : d.noU = true) : ∀ n, noUs (List.replicate n d) = true
 | 0 => rfl
 | n + 1 => by rw [List.replicate_succ, noUs, h, noUs_rep h n]; rfl

theorem rep_first {v : Int} {n : Nat} (h : 1 ≤ n) : (List.replicate n (D.int .i64 0)).take 0 ++ [D.int .i64 v].take 1 ++ (List.replicate n (D.int .i64 0)).drop (0 + 1) = (repTo v n 1).map fun n => D.int .i64 n := by
 simp [repTo]

theorem rep_next {v : Int} {n k m : Nat} (h : k ≤ n) (hm : Nat.min k (n - k) = m) : ((repTo v n k).map fun n => D.int .i64 n).take k ++ (((repTo v n k).take k).map fun n => D.int .i64 n).take m ++ ((repTo v n k).map fun n => D.int .i64 n).drop (k + m) = (repTo v n (k + m)).map fun n => D.int .i64 n := by
 have h1 : m ≤ k := by rw [← hm]; exact Nat.min_le_left _ _
 rw [← List.map_take, ← List.map_take, ← List.map_drop, ← List.map_append, ← List.map_append]
 congr 1
 have e1 : (repTo v n k).take k = List.replicate k v := by rw [repTo, List.take_append_of_le_length (by simp), List.take_of_length_le (by simp)]
 have e2 : (repTo v n k).drop (k + m) = List.replicate (n - (k + m)) 0 := by
  rw [repTo, List.drop_append, List.drop_of_length_le (by simp), List.nil_append]
  rw [List.length_replicate, List.drop_replicate]; congr 1; omega
 rw [e1, e2, List.take_replicate, Nat.min_eq_left h1, List.replicate_append_replicate, repTo]

theorem sp_Repeat_int (v : Int) (n : Nat) (h1n : 1 ≤ n) (hn : n ≤ 1048576) : Sp Tryz.prog 237 [(.slice false 1 [(.int .i64 v)]), (.int .i64 (n : Int))] [.any, .any] (.slice true 1 ((List.replicate n v).map (fun n : Int => D.int .i64 n))) := by
 refine Sp_intro (lend := true) Tryz.func237 rfl rfl rfl (fun _ => rfl) (fun c hc hX => ?_)
 refine Ts hc (Ch.s (.c (.slice none 0 0)) pa (Ch.nil (Tq (Ts hc (Ch.s (dI (n : Int)) pm ?_)))))
 refine Ch.s (dB (decide ((n : Int) < 0))) (iX rfl rfl rfl) (Ch.nil ?_)
 refine T_condD (p := ((n : Int) < 0)) rfl (fun h1 => ?_) (fun h1 => ?_)
 ·
  exfalso; omega
 ·
  refine Tk (Ts hc (Ch.s (.d (.slice false 1 [(.int .i64 v)])) pm (Ch.s (dI ((1 : Nat) : Int)) (.pure (.len _ _ 3 rfl Tryz.underlying55 (.sh _ _) rfl)) ?_)))
  refine Ch.step (v := (.d (.int .u64 1))) rfl (.pure (EvP.of (convU64 (n := 1) rfl a52) (.convInt _ _ _ rfl (isSome_of Tryz.underlying3) Tryz.underlying198 rfl))) rfl rfl ?_
  refine Ch.s (dI (n : Int)) pm ?_
  refine Ch.step (v := (.d (.int .u64 (n : Int)))) rfl (.pure (EvP.of (convU64 (n := n) rfl a52) (.convInt _ _ _ rfl (isSome_of Tryz.underlying3) Tryz.underlying198 rfl))) rfl rfl ?_
  refine Ch.s (.tup [(.d (.int .u64 0)), (.d (.int .u64 (n : Int)))]) (.call 18000 264 _ _ _ en264 rfl (.inl rfl) (.cons (.d _) (.cons (.d _) .nil)) rfl rfl (sp_bits_Mul n a26) (.skip _ _ (.skip _ _ .nil)) rfl) (Ch.s (.tup [(.d (.int .u64 0)), (.d (.int .u64 (n : Int)))]) pm (Ch.s (.d (.int .u64 0)) (xT rfl rfl) (Ch.s (.d (.int .u64 (n : Int))) (xT rfl rfl) (Ch.s (.d (.int .u64 0)) pa (Ch.s (.d (.int .u64 (n : Int))) pa (Ch.nil (Tq ?_)))))))
  refine Ts hc (Ch.s (.d (.int .u64 0)) pm (Ch.s (dB false) (iX rfl rfl rfl) (Ch.s (dB false) pm (Ch.s (.d (.int .u64 (n : Int))) pm (Ch.s (dB (decide (9223372036854775807 < (n : Int)))) (iX rfl rfl rfl) (Ch.s (dB (decide (9223372036854775807 < (n : Int)))) (pF rfl) ?_))))))
  refine Ch.nil ?_
  refine T_condD (p := (9223372036854775807 < (n : Int))) rfl (fun h2 => ?_) (fun h2 => ?_)
  ·
   exfalso; omega
  ·
   refine Tk (Ts hc (Ch.s (.d (.int .u64 (n : Int))) pm (Ch.s (dI (n : Int)) (.pure (EvP.of (conv64 a52 a52) (.convInt _ _ _ rfl (isSome_of Tryz.underlying198) Tryz.underlying3 rfl))) (Ch.s (.row 30000) (.make 30000 _ 3 _ _ (n) (n) rfl sty55 rfl rfl rfl rfl a52 a52 a52 (zeroD_mk (zd := (.int .i64 0)) zr3 a134 rfl)) (Ch.s (.row 30000) pa (Ch.nil ?_))))))
   refine Ts hc (Ch.s (.row 30000) pm (Ch.s (.d (.slice false 1 [(.int .i64 v)])) pm (Ch.s (dI ((1 : Nat) : Int)) (.copy (n := 1) (zs := ((repTo v n 1).map (fun n : Int => D.int .i64 n))) _ _ _ _ 3 rfl sty55 (.row rfl) (noUs_rep rfl _) (.sh _ _) (by rw [List.length_replicate]; exact Nat.min_eq_left (show 1 ≤ n - 0 by omega)) (rep_first (by omega))) (Ch.s (dI ((1 : Nat) : Int)) pa (Ch.nil (Tq ?_))))))
   refine Tb ?_
   refine T_loop (ι := Nat) (fun k => { n := 48, sl := [(7, (.row 7)), (8, (dI (k : Int)))], hp := [(7, (some (.row 1 ((repTo v n k).map (fun n : Int => D.int .i64 n)))))], pin := [] }) (fun k => 1 ≤ k ∧ k ≤ n) (fun k => n - k) ⟨1, ⟨by omega, by omega⟩, (Wk.ren [(7, 30000)] rfl rfl rfl rfl (ar (ar trivial)) (ar trivial))⟩ (fun k hp0 => ?_)
   have hrl := repTo_length v hp0.2; have h8 : Nat.min k (n - k) ≤ n - k := Nat.min_le_right k (n - k)
   refine Tq (Ts hc (Ch.s (dI (k : Int)) pm (Ch.s (.row 7) pm (Ch.s (dI ((repTo v n k).length : Int)) (.pure (.len _ _ 3 rfl Tryz.underlying55 (.row rfl) (by simp))) (Ch.s (dB (decide ((k : Int) < ((repTo v n k).length : Int)))) (iX rfl rfl rfl) (Ch.nil ?_))))))
   refine T_condD (p := ((k : Int) < ((repTo v n k).length : Int))) rfl (fun h3 => ?_) (fun h3 => ?_)
   ·
    refine Tk (Tb ?_)
    refine T_regionD hc (by kernel_rfl) ?_
    refine ChD.s (dI (k : Int)) [] pm (ChD.s (.row 7) [] pm (ChD.s (dI (k : Int)) [] pm (ChD.s (.sub 7 1 k ((repTo v n k).length)) [7] (.pure (.subRow _ _ _ _ 3 (k) ((repTo v n k).length) rfl Tryz.underlying55 sz3 rfl rfl (bndS rfl rfl) (bndN (by simp)) a52 a52)) (ChD.s (.row 7) [] pm (ChD.s (dI (k : Int)) [] pm (ChD.s (.sub 7 1 0 k) [7] (.pure (.subRow _ _ _ _ 3 (0) (k) rfl Tryz.underlying55 sz3 rfl rfl (bndN rfl) (bndS rfl rfl) a52 a52)) (ChD.s (dI ((Nat.min k (n - k) : Nat) : Int)) [7] (.copy (n := Nat.min k (n - k)) (zs := ((repTo v n (k + Nat.min k (n - k))).map (fun n : Int => D.int .i64 n))) _ _ _ _ 3 rfl sty55 (.sub rfl a52 a52) (noUs_map (fun _ => rfl) _) (.sub (ys := (((repTo v n k).take k).map (fun n : Int => D.int .i64 n))) rfl (noUs_map (fun _ => rfl) _) a52 a52 (by first | (rw [List.map_drop, List.take_of_length_le (by simp)]; done) | (simp [List.map_take, List.map_drop]; done))) (by simp only [List.length_map, List.length_take, repTo_length v hp0.2]; rw [Nat.min_eq_left hp0.2]) (rep_next hp0.2 rfl)) ?_)))))))
    refine ChD.s (dI ((k : Int) + ((Nat.min k (n - k) : Nat) : Int))) [] (iX rfl rfl intV_addA) (ChD.s (dI ((k : Int) + ((Nat.min k (n - k) : Nat) : Int))) [] pa ?_)
    refine ChD.nil (And.intro ?_ (by kernel_rfl))
    refine Exists.intro (k + Nat.min k (n - k)) (And.intro ⟨by omega, by omega⟩ (And.intro (by have h9 : 1 ≤ Nat.min k (n - k) := Nat.le_min.2 ⟨by omega, by omega⟩; generalize Nat.min k (n - k) = z at *; omega) (Wk.of rfl rfl (ar (ai (vI (by first | rfl | omega)) trivial)) (ar trivial))))
   ·
    refine T_exit (Ts hc (Ch.s (.row 7) pm (Ch.s (.row 7) pa (Ch.nil (T_ret ?_)))))
    exact eR [(.row 7)] [] [7] (.cons (.tmp 4 rfl) .nil) eB (Exp.of (congrArg (D.slice true 1) (by rw [repTo_all v (by omega) hp0.2])) (.row rfl))

theorem edges_in {n : Nat} {l : List Stp} (h : ∀ e ∈ l, (0 ≤ e.src ∧ e.src.toNat < n) ∧ (0 ≤ e.dst ∧ e.dst.toNat < n)) : ∀ k, k ≤ l.length → ∀ i, ∀ t ∈ (adjTo n l k).getD i default, 0 ≤ t ∧ t.toNat < n
  | 0, _, i, t, ht => by
    rw [adjTo_zero] at ht
    by_cases hi : i < n
    · simp [hi] at ht
    · simp [hi] at ht
      cases ht
  | k + 1, hk, i, t, ht => by
    have he := h _ (getD_mem (l := l) (j := k) (d := default) (by omega))
    rw [adjTo_succ (by omega), linked] at ht
    by_cases hi : i = (l.getD k default).src.toNat
    · subst hi
      rw [List.getD_eq_getElem?_getD, List.getElem?_set] at ht
      rw [if_pos rfl, if_pos (by rw [adjTo_length]; exact he.1.2)] at ht
      rw [Option.getD_some] at ht
      rcases List.mem_append.1 ht with ht | ht
      · exact edges_in h k (by omega) _ t ht
      · rw [List.mem_singleton] at ht; rw [ht]; exact he.2
    · rw [List.getD_eq_getElem?_getD, List.getElem?_set, if_neg (fun e => hi e.symm), ← List.getD_eq_getElem?_getD] at ht
      exact edges_in h k (by omega) i t ht

def negs (o : List Int) : Nat := o.countP fun d => decide (d < 0)

structure Bfs (n : Nat) (p : List Int × List Int) : Prop where
 len : p.1.length = n
 qin : ∀ t ∈ p.2, 0 ≤ t ∧ t.toNat < n
 qd : ∀ t ∈ p.2, 0 ≤ p.1.getD t.toNat default
 top : ∀ j, p.1.getD j default ≤ (p.2.length : Int)
 few : p.2.length + negs p.1 = n

theorem Bfs.relax {n : Nat} {p : List Int × List Int} (h : Bfs n p) {k : Nat} (hk : k < p.2.length) {t : Int} (ht : 0 ≤ t ∧ t.toNat < n) : Bfs n (relax k p t) := by
  unfold Go.AM.relax
  split
  · rename_i hneg
    have hq := h.qd _ (getD_mem (l := p.2) (j := k) (d := default) hk)
    have htl : t.toNat < p.1.length := by rw [h.len]; exact ht.2
    have hg : p.1.getD t.toNat default = p.1[t.toNat] := by simp [htl]
    have hcnt : negs (p.1.set t.toNat (p.1.getD (p.2.getD k default).toNat default + 1)) + 1 = negs p.1 := by
      unfold negs
      rw [List.countP_set (h := htl)]
      rw [← hg, if_pos (decide_eq_true hneg), if_neg (by rw [decide_eq_true_iff]; omega)]
      have : 0 < p.1.countP fun d => decide (d < 0) := List.countP_pos_iff.2 ⟨_, List.getElem_mem htl, by rw [← hg]; exact decide_eq_true hneg⟩
      omega
    have hset : ∀ j, (p.1.set t.toNat (p.1.getD (p.2.getD k default).toNat default + 1)).getD j default = if t.toNat = j then p.1.getD (p.2.getD k default).toNat default + 1 else p.1.getD j default := by
      intro j
      rw [List.getD_eq_getElem?_getD, List.getElem?_set]
      split
      · rename_i e; subst e; first | rfl | (rw [if_pos htl]; rfl)
      · rw [← List.getD_eq_getElem?_getD]
    refine ⟨by rw [List.length_set]; exact h.len, ?_, ?_, ?_, ?_⟩
    · intro x hx
      rcases List.mem_append.1 hx with hx | hx
      · exact h.qin x hx
      · rw [List.mem_singleton] at hx; rw [hx]; exact ht
    · intro x hx
      rw [hset]
      split
      · omega
      · rcases List.mem_append.1 hx with hx | hx
        · exact h.qd x hx
        · rename_i hne
          rw [List.mem_singleton] at hx; subst hx; exact absurd rfl hne
    · intro j
      rw [hset, List.length_append, List.length_singleton]
      have h1 := h.top j
      have h2 := h.top (p.2.getD k default).toNat
      split <;> omega
    · have := h.few
      dsimp only
      rw [List.length_append, List.length_singleton]; omega
  · exact h

theorem relax_q {p : List Int × List Int} {k : Nat} {t : Int} : ∃ r, (relax k p t).2 = p.2 ++ r := by
  unfold relax; split
  · exact ⟨[t], rfl⟩
  · exact ⟨[], by simp⟩

theorem relaxTo_inv {n : Nat} {o q ts : List Int} (h : Bfs n (o, q)) {k : Nat} (hk : k < q.length) (hts : ∀ t ∈ ts, 0 ≤ t ∧ t.toNat < n) : ∀ m, m ≤ ts.length → Bfs n (relaxTo k o q ts m) ∧ ∃ r, (relaxTo k o q ts m).2 = q ++ r
 | 0, _ => ⟨h, [], by rw [relaxTo_zero]; simp⟩
 | m + 1, hm => by
  obtain ⟨h1, r, h2⟩ := relaxTo_inv h hk hts m (by omega)
  rw [relaxTo_succ (by omega)]
  have hkl : k < (relaxTo k o q ts m).2.length := by rw [h2, List.length_append]; omega
  obtain ⟨r2, h3⟩ := relax_q (p := relaxTo k o q ts m) (k := k) (t := ts.getD m default)
  exact ⟨h1.relax hkl (hts _ (getD_mem (by omega))), r ++ r2, by rw [h3, h2, List.append_assoc]⟩

def bfsR (nx : List (List Int)) : Nat → List Int × List Int → Nat → List Int
 | 0, p, _ => p.1
 | f + 1, p, k => if k < p.2.length then bfsR nx f (relaxTo k p.1 p.2 (nx.getD (p.2.getD k default).toNat default) (nx.getD (p.2.getD k default).toNat default).length) (k + 1) else p.1

def distF (n : Nat) (l : List Stp) (s : Nat) : List Int := bfsR (adjTo n l l.length) n ((List.replicate n (-1)).set s 0, [(s : Int)]) 0

structure BfsInv (n : Nat) (l : List Stp) (s : Nat) (q : (List Int × List Int) × Nat) : Prop where
 inv : Bfs n q.1
 eq : bfsR (adjTo n l l.length) (n - q.2) q.1 q.2 = distF n l s

theorem Bfs.le {n p} (h : Bfs n p) : p.2.length ≤ n := by have := h.few; omega

theorem BfsInv.zero {n : Nat} {l : List Stp} {s : Nat} (hs : s < n) : BfsInv n l s (((List.replicate n (-1)).set s 0, [(s : Int)]), 0) := by
  have hset : ∀ j, ((List.replicate n (-1 : Int)).set s 0).getD j default = if s = j then 0 else if j < n then -1 else default := by
    intro j
    rw [List.getD_eq_getElem?_getD, List.getElem?_set]
    split
    · rw [if_pos (by simpa using hs)]; rfl
    · rw [List.getElem?_replicate]; split <;> rfl
  refine ⟨⟨by simp, ?_, ?_, ?_, ?_⟩, rfl⟩
  · intro t ht
    have : t = (s : Int) := by simpa using ht
    omega
  · intro t ht
    have : t = (s : Int) := by simpa using ht
    subst this
    dsimp only
    rw [hset, if_pos (by omega)]; omega
  · intro j
    dsimp only
    rw [hset]
    split
    · simp
    · split
      · simp
      · show (0 : Int) ≤ _; simp
  · dsimp only
    unfold negs
    rw [List.countP_set (h := by simpa using hs)]
    simp [List.countP_replicate]
    omega

theorem BfsInv.step {n : Nat} {l : List Stp} {s : Nat} {q : (List Int × List Int) × Nat} (h : BfsInv n l s q) (hk : q.2 < q.1.2.length) (hl : ∀ e ∈ l, (0 ≤ e.src ∧ e.src.toNat < n) ∧ (0 ≤ e.dst ∧ e.dst.toNat < n)) {ts : List Int} (hts : ts = (adjTo n l l.length).getD (q.1.2.getD q.2 default).toNat default) :
  BfsInv n l s (relaxTo q.2 q.1.1 q.1.2 ts ts.length, q.2 + 1) := by
 subst hts
 have hle := h.inv.le
 refine ⟨(relaxTo_inv h.inv hk (edges_in hl _ (Nat.le_refl _) _) _ (Nat.le_refl _)).1, ?_⟩
 rw [← h.eq]
 dsimp only
 rw [show n - q.2 = (n - (q.2 + 1)) + 1 by omega, bfsR, if_pos hk]

theorem BfsInv.done {n : Nat} {l : List Stp} {s : Nat} {q : (List Int × List Int) × Nat} (h : BfsInv n l s q) (hk : ¬ q.2 < q.1.2.length) : q.1.1 = distF n l s := by
 rw [← h.eq]
 cases n - q.2 with
 | zero => rfl
 | succ f => rw [bfsR, if_neg hk]

set_option maxHeartbeats 2000000 in
theorem sp_impl_distances (n : Nat) (l : List Stp) (s : Nat) (hn : n ≤ 1048576) (hll : l.length ≤ 1048576) (hs : s < n) (hl : ∀ e ∈ l, (0 ≤ e.src ∧ e.src.toNat < n) ∧ (0 ≤ e.dst ∧ e.dst.toNat < n)) : Sp Tryz.prog 190 [(.int .i64 (n : Int)), (.slice false 2 (l.map Stp.d)), (.int .i64 (s : Int))] [.any, .any, .any] (.slice true 1 ((distF n l s).map (fun n : Int => D.int .i64 n))) := by
 refine Sp_intro (lend := true) Tryz.func190 rfl rfl rfl (fun _ => rfl) (fun c hc hX => ?_)
 refine Ts hc (Ch.s (.c (.slice none 0 0)) pa (Ch.nil (Tq ?_)))
 refine T_regionD hc (by kernel_rfl) ?_
 refine ChD.s (.row 15000) [] (.slice 15000 _ 3 _ rfl sty55 (xs := [.const (.int .i64 (-1))]) rfl rfl (.cons (.d _) .nil) rfl rfl (by decide)) (ChD.s (dI (n : Int)) [] pm (ChD.s (.row 17000) [15000] (.call 17000 237 _ _ _ en237 rfl (.inl rfl) (.cons (.lend (.row (ys := (([(-1)]).map (fun n : Int => D.int .i64 n))) rfl rfl)) (.cons (.d _) .nil)) rfl (sol (solid_row (fun _ => rfl) _) rfl) (sp_Repeat_int (-1) n (by omega) (by omega)) (.skip _ _ (.skip _ _ .nil)) rfl) (ChD.s (dI (n : Int)) [] pm (ChD.s (.row 19000) [] (.make 19000 _ 55 _ _ (n) (n) rfl sty49 rfl rfl rfl rfl a52 a52 a52 (zeroD_mk (zd := (.slice true 1 [])) zr55 a135 rfl)) (ChD.s (.row 17000) [] pa (ChD.s (.row 19000) [] pa ?_))))))
 refine ChD.nil (And.intro ?_ (by kernel_rfl))
 refine Tq (Ts hc (Ch.s (.d (.slice false 2 (l.map Stp.d))) pm (Ch.s (dI (l.length : Int)) (.pure (.len _ _ 212 rfl Tryz.underlying193 (.sh _ _) (by simp))) (Ch.s (dI 0) pm (Ch.nil (Tb ?_))))))
 refine T_loop (ι := Nat) (fun k => { n := 85, sl := [(2, (dI (s : Int))), (7, (.row 17000)), (8, (.row 8)), (20, (.d (.slice false 2 (l.map Stp.d)))), (21, (dI (l.length : Int))), (22, (dI (k : Int)))], hp := [(8, (some (.row 1 ((adjTo n l k).map intsU)))), (17000, (some (.row 1 ((List.replicate n (-1)).map (fun n : Int => D.int .i64 n)))))], pin := [] }) (fun k => k ≤ l.length) (fun k => l.length - k) ⟨0, (by omega), (Wk.ren [(8, 19000)] rfl rfl rfl rfl (ar (ar (ar (ar (ar (ai (vI a126) trivial)))))) (ai (oR a84) (ar trivial)))⟩ (fun k hp0 => ?_)
 have hal := adjTo_length n l k; have hadj := adj_len n l k hp0 (l.getD k default).src.toNat
 refine Ts hc (Ch.s (dB (decide ((k : Int) < (l.length : Int)))) (iX rfl rfl rfl) (Ch.nil (Tq ?_)))
 refine T_condD (p := ((k : Int) < (l.length : Int))) rfl (fun h1 => ?_) (fun h1 => ?_)
 ·
  try have hek := hl _ (getD_mem (l := l) (j := k) (d := default) (by omega))
  refine Tk (Tq (Tb (Ts hc (Ch.s (.d (.ref (.agg [(.int .i64 ((l.getD k default).src)), (.int .i64 ((l.getD k default).dst))]))) (.pure (.idx _ _ _ 212 (k) rfl Tryz.underlying193 sz212 rfl rfl rfl get_mapA)) (Ch.s (.d (.agg [(.int .i64 ((l.getD k default).src)), (.int .i64 ((l.getD k default).dst))])) (.pure (.loadRefA _ _ rfl ag212 sz212 rfl)) (Ch.s (.ptr 10000 0) (.alloc 10000 _ rfl zer212) ?_))))))
  refine Ch.s .junk (.storePtr _ _ _ rfl rfl rfl (.aggD _) sz212 (lb rfl)) (Ch.nil ?_)
  refine T_take 8 ((((l.getD k default).src)).toNat) 7000002 7000003 rfl get_mapA rfl rfl (fun u1 => ?_)
  refine T_regionD hc (by kernel_rfl) ?_
  refine ChD.s (.row 8) [] pm (ChD.s (.ptr 10000 0) [] (fP fld212_0 rfl) (ChD.s (dI ((l.getD k default).src)) [10000] (lP ag3 rfl rfl rfl) (ChD.s (.row 8) [] pm (ChD.s (.ptr 10000 0) [] (fP fld212_0 rfl) (ChD.s (dI ((l.getD k default).src)) [10000] (lP ag3 rfl rfl rfl) (ChD.s (.el 8 1 ((((l.getD k default).src)).toNat) 0) [8, 7000002, 7000003] (.pure (.idxRow _ _ _ 55 ((((l.getD k default).src)).toNat) rfl Tryz.underlying49 sz55 rfl rfl rfl (by omega) a96)) (ChD.s (.row 7000002) [8, 7000002, 7000003] (.pure (.loadHole (n := 7000002) (m := 7000003) (u := u1) _ _ rfl ag55 rfl rfl (get_set a96) rfl rfl)) ?_)))))))
  refine ChD.s (.ptr 10000 1) [] (fP fld212_1 rfl) (ChD.s (dI ((l.getD k default).dst)) [10000] (lP ag3 rfl rfl rfl) (ChD.s (.row 36000) [] (.slice 36000 _ 3 _ rfl sty55 (xs := [.tmp 35]) rfl rfl (.cons (.d _) .nil) rfl rfl (by decide)) (ChD.s (.row 37000) [36000, 7000002] (.append 37000 _ _ _ 3 rfl sty55 (by decide) (.rowK rfl) (.inr ⟨_, rfl, rfl⟩) (.row rfl rfl) rfl a69) (ChD.s (.el 8 1 ((((l.getD k default).src)).toNat) 0) [8, 7000002, 7000003] (.pure (.idxRow _ _ _ 55 ((((l.getD k default).src)).toNat) rfl Tryz.underlying49 sz55 rfl rfl rfl (by omega) a96)) (ChD.s .junk [8, 37000, 7000002, 7000003] (.storeElK (y' := (.slice true 1 ((((adjTo n l k).getD ((((l.getD k default).src)).toNat) default).map (fun n : Int => D.int .i64 n)) ++ [(.int .i64 ((l.getD k default).dst))]))) _ _ _ rfl rfl rfl (.row rfl) rfl rfl rfl sz55 rfl (get_set a96) rfl rfl) ?_)))))
  refine ChD.nil (And.intro ?_ (by kernel_rfl))
  refine Tz hc (Ch.s (dI ((k : Int) + 1)) (iX rfl rfl intV_addA) (Ch.s (dI ((k : Int) + 1)) pm (Ch.nil ?_)))
  exact nx (k + 1) (by omega) (Wk.of rfl rfl (ar (ar (ar (ar (ar (ai (vI a126) trivial)))))) (ai (oR a84) (ar trivial)))
 ·
  try have hek := hl _ (getD_mem (l := l) (j := k) (d := default) (by omega))
  refine T_exit (Ts hc (Ch.s (.row 17000) pm (Ch.s (dI (s : Int)) pm (Ch.s (.el 17000 1 s 0) (.pure (.idxRow _ _ _ 3 (s) rfl Tryz.underlying55 sz3 rfl rfl rfl rfl a96)) (Ch.s .junk (.storeEl (y' := (.int .i64 0)) _ _ _ rfl rfl rfl (.d _) rfl sz3 rfl get_mapA rfl rfl) (Ch.nil ?_))))))
  refine Ts hc (Ch.s (dI (s : Int)) pm (Ch.s (.row 44000) (.slice 44000 _ 3 _ rfl sty55 (xs := [.tmp 43]) rfl rfl (.cons (.d _) .nil) rfl rfl (by decide)) (Ch.s (.row 44000) pa (Ch.nil (Tq (Tq ?_))))))
  refine Tz hc (Ch.s (dI 0) pa (Ch.nil (Tb ?_)))
  refine T_loop (ι := (List Int × List Int) × Nat) (fun q => { n := 85, sl := [(7, (.row 7)), (8, (.row 8)), (11, (.row 11)), (12, (dI (q.2 : Int)))], hp := [(7, (some (.row 1 (q.1.1.map (fun n : Int => D.int .i64 n))))), (8, (some (.row 1 ((adjTo n l l.length).map intsU)))), (11, (some (.row 1 (q.1.2.map (fun n : Int => D.int .i64 n)))))], pin := [] }) (fun q => BfsInv n l s q) (fun q => n - q.2) ⟨(((List.replicate n (-1)).set s 0, [(s : Int)]), 0), (BfsInv.zero hs), (Wk.ren [(7, 17000), (11, 44000)] rfl rfl rfl rfl (ar (ar (ar (ai (vI a126) trivial)))) (ai (oR a63) (ai (oR (by first | rfl | (rw [show k = l.length by omega]))) (ai (oR a77) trivial))))⟩ (fun q hp1 => ?_)
  have hql := hp1.inv.le; have hol := hp1.inv.len; have hal := adjTo_length n l l.length
  refine Tq (Ts hc (Ch.s (dI (q.2 : Int)) pm (Ch.s (.row 11) pm (Ch.s (dI (q.1.2.length : Int)) (.pure (.len _ _ 3 rfl Tryz.underlying55 (.row rfl) (by simp))) (Ch.s (dB (decide ((q.2 : Int) < (q.1.2.length : Int)))) (iX rfl rfl rfl) (Ch.nil ?_))))))
  refine T_condD (p := ((q.2 : Int) < (q.1.2.length : Int))) rfl (fun h2 => ?_) (fun h2 => ?_)
  ·
   try have hqk := hp1.inv.qin _ (getD_mem (l := q.1.2) (j := q.2) (d := default) (by omega))
   try have hin := edges_in hl l.length (Nat.le_refl _) (q.1.2.getD q.2 default).toNat
   refine Tk (Tq (Tb (Tq ?_)))
   refine T_take 8 (((q.1.2.getD q.2 default)).toNat) 7000004 7000005 rfl get_mapA rfl rfl (fun u2 => ?_)
   refine Tz hc (Ch.s (.row 8) pm (Ch.s (.row 11) pm (Ch.s (dI (q.2 : Int)) pm (Ch.s (.el 11 1 q.2 0) (.pure (.idxRow _ _ _ 3 (q.2) rfl Tryz.underlying55 sz3 rfl rfl rfl rfl a96)) (Ch.s (dI (q.1.2.getD q.2 default)) (.pure (.loadEl1 _ _ rfl ag3 rfl rfl get_mapA rfl rfl rfl)) (Ch.s (.el 8 1 (((q.1.2.getD q.2 default)).toNat) 0) (.pure (.idxRow _ _ _ 55 (((q.1.2.getD q.2 default)).toNat) rfl Tryz.underlying49 sz55 rfl rfl rfl (by omega) a96)) (Ch.s (.row 7000004) (.pure (.loadHole (n := 7000004) (m := 7000005) (u := u2) _ _ rfl ag55 rfl rfl (get_set a96) rfl rfl)) ?_)))))))
   refine Ch.s (dI (((adjTo n l l.length).getD (((q.1.2.getD q.2 default)).toNat) default).length : Int)) (.pure (.len _ _ 3 rfl Tryz.underlying55 (.row rfl) (by simp))) (Ch.s (dI 0) pm (Ch.nil (Tb ?_)))
   refine T_loop (ι := Nat) (fun m => { n := 85, sl := [(7, (.row 7)), (8, (.row 8)), (11, (.row 11)), (12, (dI (q.2 : Int))), (57, (.row 7000004)), (58, (dI (((adjTo n l l.length).getD (((q.1.2.getD q.2 default)).toNat) default).length : Int))), (59, (dI (m : Int)))], hp := [(7, (some (.row 1 (((relaxTo q.2 q.1.1 q.1.2 ((adjTo n l l.length).getD (q.1.2.getD q.2 default).toNat default) m).1).map (fun n : Int => D.int .i64 n))))), (8, (some (.row 1 ((((adjTo n l l.length).map intsU)).set (((q.1.2.getD q.2 default)).toNat) (.hole u2))))), (11, (some (.row 1 (((relaxTo q.2 q.1.1 q.1.2 ((adjTo n l l.length).getD (q.1.2.getD q.2 default).toNat default) m).2).map (fun n : Int => D.int .i64 n))))), (7000004, (some (.row 1 (((adjTo n l l.length).getD (((q.1.2.getD q.2 default)).toNat) default).map (fun n : Int => D.int .i64 n))))), (7000005, (some (.head 7000004 u2)))], pin := [] }) (fun m => m ≤ ((adjTo n l l.length).getD (q.1.2.getD q.2 default).toNat default).length) (fun m => ((adjTo n l l.length).getD (q.1.2.getD q.2 default).toNat default).length - m) ⟨0, (by omega), (Wk.of rfl rfl (ar (ar (ar (ar (ar (ar (ai (vI a126) trivial))))))) (ai (oR a61) (ar (ai (oR a58) (ar (ar trivial))))))⟩ (fun m hp2 => ?_)
   have hadl := adj_len n l l.length (Nat.le_refl _) (q.1.2.getD q.2 default).toNat; obtain ⟨hri, r, hrq⟩ := relaxTo_inv (k := q.2) (o := q.1.1) (q := q.1.2) hp1.inv (by omega) hin m hp2; have hri0 := hri.len; have hril := hri.le; have hqn : (relaxTo q.2 q.1.1 q.1.2 ((adjTo n l l.length).getD (q.1.2.getD q.2 default).toNat default) m).2.getD q.2 default = q.1.2.getD q.2 default := (by rw [hrq]; exact getD_app (by omega)); have hkl2 : q.2 < (relaxTo q.2 q.1.1 q.1.2 ((adjTo n l l.length).getD (q.1.2.getD q.2 default).toNat default) m).2.length := (by rw [hrq, List.length_append]; omega); have hlo := hri.qd _ (getD_mem (d := default) hkl2); have htop := hri.top ((relaxTo q.2 q.1.1 q.1.2 ((adjTo n l l.length).getD (q.1.2.getD q.2 default).toNat default) m).2.getD q.2 default).toNat; have hqk2 := hri.qin _ (getD_mem (d := default) hkl2)
   refine Ts hc (Ch.s (dB (decide ((m : Int) < (((adjTo n l l.length).getD (((q.1.2.getD q.2 default)).toNat) default).length : Int)))) (iX rfl rfl rfl) (Ch.nil (Tq ?_)))
   refine T_condD (p := ((m : Int) < (((adjTo n l l.length).getD (((q.1.2.getD q.2 default)).toNat) default).length : Int))) rfl (fun h3 => ?_) (fun h3 => ?_)
   ·
    try have htm := hin _ (getD_mem (l := ((adjTo n l l.length).getD (q.1.2.getD q.2 default).toNat default)) (j := m) (d := default) (by omega))
    refine Tk (Tq (Tb (Ts hc (Ch.s (.el 7000004 1 m 0) (.pure (.idxRow _ _ _ 3 (m) rfl Tryz.underlying55 sz3 rfl rfl rfl rfl a96)) (Ch.s (dI (((adjTo n l l.length).getD (((q.1.2.getD q.2 default)).toNat) default).getD m default)) (.pure (.loadEl1 _ _ rfl ag3 rfl rfl get_mapA rfl rfl rfl)) (Ch.s (dI (((adjTo n l l.length).getD (((q.1.2.getD q.2 default)).toNat) default).getD m default)) pa ?_))))))
    refine Ch.nil (Ts hc (Ch.s (.row 7) pm (Ch.s (dI (((adjTo n l l.length).getD (((q.1.2.getD q.2 default)).toNat) default).getD m default)) pm (Ch.s (.el 7 1 (((((adjTo n l l.length).getD (((q.1.2.getD q.2 default)).toNat) default).getD m default)).toNat) 0) (.pure (.idxRow _ _ _ 3 (((((adjTo n l l.length).getD (((q.1.2.getD q.2 default)).toNat) default).getD m default)).toNat) rfl Tryz.underlying55 sz3 rfl rfl rfl (by omega) a96)) (Ch.s (dI (((relaxTo q.2 q.1.1 q.1.2 ((adjTo n l l.length).getD (q.1.2.getD q.2 default).toNat default) m).1).getD (((((adjTo n l l.length).getD (((q.1.2.getD q.2 default)).toNat) default).getD m default)).toNat) default)) (.pure (.loadEl1 _ _ rfl ag3 rfl rfl get_mapA rfl rfl rfl)) (Ch.s (dB (decide ((((relaxTo q.2 q.1.1 q.1.2 ((adjTo n l l.length).getD (q.1.2.getD q.2 default).toNat default) m).1).getD (((((adjTo n l l.length).getD (((q.1.2.getD q.2 default)).toNat) default).getD m default)).toNat) default) < 0))) (iX rfl rfl rfl) ?_))))))
    refine Ch.nil ?_
    refine T_condD (p := ((((relaxTo q.2 q.1.1 q.1.2 ((adjTo n l l.length).getD (q.1.2.getD q.2 default).toNat default) m).1).getD (((((adjTo n l l.length).getD (((q.1.2.getD q.2 default)).toNat) default).getD m default)).toNat) default) < 0)) rfl (fun h4 => ?_) (fun h4 => ?_)
    ·
     refine Ts hc (Ch.s (.row 7) pm (Ch.s (dI (((adjTo n l l.length).getD (((q.1.2.getD q.2 default)).toNat) default).getD m default)) pm (Ch.s (.row 7) pm (Ch.s (.row 11) pm (Ch.s (dI (q.2 : Int)) pm (Ch.s (.el 11 1 q.2 0) (.pure (.idxRow _ _ _ 3 (q.2) rfl Tryz.underlying55 sz3 rfl rfl rfl rfl a96)) ?_))))))
     refine Ch.s (dI (((relaxTo q.2 q.1.1 q.1.2 ((adjTo n l l.length).getD (q.1.2.getD q.2 default).toNat default) m).2).getD q.2 default)) (.pure (.loadEl1 _ _ rfl ag3 rfl rfl get_mapA rfl rfl rfl)) (Ch.s (.el 7 1 (((((relaxTo q.2 q.1.1 q.1.2 ((adjTo n l l.length).getD (q.1.2.getD q.2 default).toNat default) m).2).getD q.2 default)).toNat) 0) (.pure (.idxRow _ _ _ 3 (((((relaxTo q.2 q.1.1 q.1.2 ((adjTo n l l.length).getD (q.1.2.getD q.2 default).toNat default) m).2).getD q.2 default)).toNat) rfl Tryz.underlying55 sz3 rfl rfl rfl (by omega) a96)) (Ch.s (dI (((relaxTo q.2 q.1.1 q.1.2 ((adjTo n l l.length).getD (q.1.2.getD q.2 default).toNat default) m).1).getD (((((relaxTo q.2 q.1.1 q.1.2 ((adjTo n l l.length).getD (q.1.2.getD q.2 default).toNat default) m).2).getD q.2 default)).toNat) default)) (.pure (.loadEl1 _ _ rfl ag3 rfl rfl get_mapA rfl rfl rfl)) (Ch.s (dI ((((relaxTo q.2 q.1.1 q.1.2 ((adjTo n l l.length).getD (q.1.2.getD q.2 default).toNat default) m).1).getD (((((relaxTo q.2 q.1.1 q.1.2 ((adjTo n l l.length).getD (q.1.2.getD q.2 default).toNat default) m).2).getD q.2 default)).toNat) default) + 1)) (iX rfl rfl intV_addA) (Ch.s (.el 7 1 (((((adjTo n l l.length).getD (((q.1.2.getD q.2 default)).toNat) default).getD m default)).toNat) 0) (.pure (.idxRow _ _ _ 3 (((((adjTo n l l.length).getD (((q.1.2.getD q.2 default)).toNat) default).getD m default)).toNat) rfl Tryz.underlying55 sz3 rfl rfl rfl (by omega) a96)) (Ch.s .junk (.storeEl (y' := (.int .i64 ((((relaxTo q.2 q.1.1 q.1.2 ((adjTo n l l.length).getD (q.1.2.getD q.2 default).toNat default) m).1).getD (((((relaxTo q.2 q.1.1 q.1.2 ((adjTo n l l.length).getD (q.1.2.getD q.2 default).toNat default) m).2).getD q.2 default)).toNat) default) + 1))) _ _ _ rfl rfl rfl (.d _) rfl sz3 rfl get_mapA rfl rfl) (Ch.nil (Tz hc ?_)))))))
     refine Ch.s (.row 11) pm (Ch.s (dI (((adjTo n l l.length).getD (((q.1.2.getD q.2 default)).toNat) default).getD m default)) pm (Ch.s (.row 81000) (.slice 81000 _ 3 _ rfl sty55 (xs := [.tmp 80]) rfl rfl (.cons (.d _) .nil) rfl rfl (by decide)) ?_))
     refine Ch.step (v := (.row 82000)) rfl (.append 82000 _ _ _ 3 rfl sty55 (by decide) (.rowK rfl) (.inr ⟨_, rfl, rfl⟩) (.row rfl rfl) rfl a69) rfl rfl ?_
     refine Ch.s (.row 82000) pa (Ch.nil (Tz hc (Ch.s (dI ((m : Int) + 1)) (iX rfl rfl intV_addA) (Ch.s (dI ((m : Int) + 1)) pm (Ch.nil ?_)))))
     exact nx (m + 1) (by omega) (Wk.ren [(11, 82000)] rfl rfl rfl rfl (ar (ar (ar (ar (ar (ar (ai (vI a126) trivial))))))) (ai (oR a61) (ar (ai (oR a58) (ar (ar trivial))))))
    ·
     refine Tk (Tz hc (Ch.s (dI ((m : Int) + 1)) (iX rfl rfl intV_addA) (Ch.s (dI ((m : Int) + 1)) pm (Ch.nil ?_))))
     exact nx (m + 1) (by omega) (Wk.of rfl rfl (ar (ar (ar (ar (ar (ar (ai (vI a126) trivial))))))) (ai (oR a61) (ar (ai (oR a58) (ar (ar trivial))))))
   ·
    try have htm := hin _ (getD_mem (l := ((adjTo n l l.length).getD (q.1.2.getD q.2 default).toNat default)) (j := m) (d := default) (by omega))
    refine T_exit (Tz hc (Ch.s (dI (q.2 : Int)) pm (Ch.s (dI ((q.2 : Int) + 1)) (iX rfl rfl intV_addA) (Ch.s (dI ((q.2 : Int) + 1)) pa (Ch.nil ?_)))))
    refine Exists.intro ((relaxTo q.2 q.1.1 q.1.2 ((adjTo n l l.length).getD (q.1.2.getD q.2 default).toNat default) (((adjTo n l l.length).getD (q.1.2.getD q.2 default).toNat default).length), q.2 + 1)) (And.intro (hp1.step (by omega) hl rfl) (And.intro (by dsimp only; omega) (Wk.trans (Wk.give 8 (((q.1.2.getD q.2 default)).toNat) 7000004 7000005 rfl (get_set a96) rfl rfl rfl (set_back (f := intsU) (by omega))) (Wk.of rfl rfl (ar (ar (ar (ai (vI a126) trivial)))) (ai (oR a63) (ar (ai (oR a77) trivial)))))))
  ·
   try have hqk := hp1.inv.qin _ (getD_mem (l := q.1.2) (j := q.2) (d := default) (by omega))
   try have hin := edges_in hl l.length (Nat.le_refl _) (q.1.2.getD q.2 default).toNat
   refine T_exit (Ts hc (Ch.s (.row 7) pm (Ch.s (.row 7) pa (Ch.nil (T_ret ?_)))))
   exact eR [(.row 7)] [] [7] (.cons (.tmp 6 rfl) .nil) eC (Exp.of (congrArg (D.slice true 1) (by exact congrArg (List.map _) (hp1.done (by omega)))) (.row rfl))

theorem sty193 : SlotTy Tryz.prog 193 212 2 16 := slotTy_mk (by kernel_rfl)

theorem stru212 : StructIs Tryz.prog 212 [.int .i64 0, .int .i64 0] [(0, 1), (1, 1)] := structIs_mk (by kernel_rfl) Tryz.underlying212 (by kernel_rfl)

theorem en217 : Enters Tryz.prog 217 := ⟨_, Tryz.func217, by kernel_rfl, rfl⟩

theorem fld107_0 : FieldIs Tryz.prog 107 0 0 1 false := FieldIs.mk Tryz.underlying107 rfl rfl sz3 ag3 rfl

theorem ag107 : AggIs Tryz.prog 107 true := by unfold AggIs; kernel_rfl

theorem sz107 : SizeIs Tryz.prog 107 2 := by unfold SizeIs; kernel_rfl

theorem stru107 : StructIs Tryz.prog 107 [.int .i64 0, .bool false] [(0, 1), (1, 1)] := structIs_mk (by kernel_rfl) Tryz.underlying107 (by kernel_rfl)

theorem eqa107 : ∀ (a0 : Int) (a1 : Bool) (b0 : Int) (b1 : Bool), EqA Tryz.prog 107 [.int .i64 a0, .bool a1] [.int .i64 b0, .bool b1] (decide (a0 = b0) && (decide (a1 = b1) && true)) := fun _ _ _ _ => ⟨_, Tryz.underlying107, Tryz.stoodInHeld107, Tryz.eqGuardType107, (.int (k2 := .i64) rfl Tryz.underlying3 rfl rfl rfl (.bool rfl Tryz.underlying4 rfl rfl .nil))⟩

theorem fld107_1 : FieldIs Tryz.prog 107 1 1 1 false := FieldIs.mk Tryz.underlying107 rfl rfl sz4 ag4 rfl

theorem en186 : Enters Tryz.prog 186 := ⟨_, Tryz.func186, by kernel_rfl, rfl⟩

theorem en187 : Enters Tryz.prog 187 := ⟨_, Tryz.func187, by kernel_rfl, rfl⟩

theorem en188 : Enters Tryz.prog 188 := ⟨_, Tryz.func188, by kernel_rfl, rfl⟩

theorem en189 : Enters Tryz.prog 189 := ⟨_, Tryz.func189, by kernel_rfl, rfl⟩

theorem en191 : Enters Tryz.prog 191 := ⟨_, Tryz.func191, by kernel_rfl, rfl⟩

theorem en190 : Enters Tryz.prog 190 := ⟨_, Tryz.func190, by kernel_rfl, rfl⟩

theorem en160 : Enters Tryz.prog 160 := ⟨_, Tryz.func160, by kernel_rfl, rfl⟩

theorem en219 : Enters Tryz.prog 219 := ⟨_, Tryz.func219, by kernel_rfl, rfl⟩

theorem en214 : Enters Tryz.prog 214 := ⟨_, Tryz.func214, by kernel_rfl, rfl⟩

theorem zr4 : (Tryz.prog.info? 4).bind (·.zero) = some (.bool false) := by kernel_rfl

theorem sty146 : SlotTy Tryz.prog 146 4 1 1 := slotTy_mk (by kernel_rfl)

theorem en162 : Enters Tryz.prog 162 := ⟨_, Tryz.func162, by kernel_rfl, rfl⟩

theorem en164 : Enters Tryz.prog 164 := ⟨_, Tryz.func164, by kernel_rfl, rfl⟩

theorem en165 : Enters Tryz.prog 165 := ⟨_, Tryz.func165, by kernel_rfl, rfl⟩

def stepsOf (l : List Arc) : List Stp := l.map fun a => Stp.mk a.src a.dst

theorem steps_take {l : List Arc} {k : Nat} (hk : k < l.length) : stepsOf (l.take k) ++ [Stp.mk (l.getD k default).src (l.getD k default).dst] = stepsOf (l.take (k + 1)) := by
 unfold stepsOf; rw [List.take_succ_eq_append_getElem hk, List.map_append]; simp [hk]

theorem sp_impl_arcSteps (l : List Arc) (hn : l.length ≤ 1048576) : Sp Tryz.prog 191 [(.slice false 4 (l.map Arc.d))] [.any] (.slice true 2 ((stepsOf l).map Stp.d)) := by
 refine Sp_intro (lend := true) Tryz.func191 rfl rfl rfl (fun _ => rfl) (fun c hc hX => ?_)
 refine Ts hc (Ch.s (.c (.slice none 0 0)) pa (Ch.nil (Ts hc (Ch.s (.row 6000) (.slice 6000 _ 212 _ rfl sty193 (xs := []) rfl rfl .nil rfl rfl (by decide)) (Ch.s (.row 6000) pa ?_)))))
 refine Ch.nil (Tq (Ts hc (Ch.s (.d (.slice false 4 (l.map Arc.d))) pm (Ch.s (dI (l.length : Int)) (.pure (.len _ _ 125 rfl Tryz.underlying33 (.sh _ _) (by simp))) (Ch.s (dI 0) pm (Ch.nil ?_))))))
 refine Tb ?_
 refine T_loop (ι := Nat) (fun k => { n := 23, sl := [(3, (.row 3)), (7, (.d (.slice false 4 (l.map Arc.d)))), (8, (dI (l.length : Int))), (9, (dI (k : Int)))], hp := [(3, (some (.row 2 ((stepsOf (l.take k)).map Stp.d))))], pin := [] }) (fun k => k ≤ l.length) (fun k => l.length - k) ⟨0, (by omega), (Wk.ren [(3, 6000)] rfl rfl rfl rfl (ar (ar (ar (ai (vI a126) trivial)))) (ai (oR a122) trivial))⟩ (fun k hp0 => ?_)
 have hq : (stepsOf (l.take k)).length = k := by simp [stepsOf]; omega
 refine Ts hc (Ch.s (dB (decide ((k : Int) < (l.length : Int)))) (iX rfl rfl rfl) (Ch.nil (Tq ?_)))
 refine T_condD (p := ((k : Int) < (l.length : Int))) rfl (fun h1 => ?_) (fun h1 => ?_)
 ·
  refine Tk (Tq (Tb (Ts hc (Ch.s (.d (.ref (.agg [(.int .i64 ((l.getD k default).src)), (.int .i64 ((l.getD k default).sig)), (.bool ((l.getD k default).up)), (.int .i64 ((l.getD k default).dst))]))) (.pure (.idx _ _ _ 125 (k) rfl Tryz.underlying33 sz125 rfl rfl rfl get_mapA)) (Ch.s (.d (.agg [(.int .i64 ((l.getD k default).src)), (.int .i64 ((l.getD k default).sig)), (.bool ((l.getD k default).up)), (.int .i64 ((l.getD k default).dst))])) (.pure (.loadRefA _ _ rfl ag125 sz125 rfl)) (Ch.s (.ptr 5000 0) (.alloc 5000 _ rfl zer125) ?_))))))
  refine Ch.s .junk (.storePtr _ _ _ rfl rfl rfl (.aggD _) sz125 (lb rfl)) (Ch.nil (Tz hc (Ch.s (.row 3) pm (Ch.s (.ptr 5000 0) (fP fld125_0 rfl) (Ch.s (dI ((l.getD k default).src)) (lP ag3 rfl rfl rfl) (Ch.s (.ptr 5000 3) (fP fld125_3 rfl) (Ch.s (dI ((l.getD k default).dst)) (lP ag3 rfl rfl rfl) ?_)))))))
  refine Ch.s (.agg [(dI ((l.getD k default).src)), (dI ((l.getD k default).dst))]) (.build _ _ rfl stru212 (.cons (.one _ rfl) (.cons (.one _ rfl) .nil)) rfl) (Ch.s (.row 19000) (.slice 19000 _ 212 _ rfl sty193 (xs := [.tmp 18]) rfl rfl (.cons (.agg (.cons (.d _) (.cons (.d _) .nil)) rfl) .nil) rfl rfl (by decide)) ?_)
  refine Ch.step (v := (.row 20000)) rfl (.append 20000 _ _ _ 212 rfl sty193 (by decide) (.rowK rfl) (.inr ⟨_, rfl, rfl⟩) (.row rfl rfl) rfl a69) rfl rfl ?_
  refine Ch.s (.row 20000) pa (Ch.nil (Tz hc (Ch.s (dI ((k : Int) + 1)) (iX rfl rfl intV_addA) (Ch.s (dI ((k : Int) + 1)) pm (Ch.nil ?_)))))
  exact nx (k + 1) (by omega) (Wk.ren [(3, 20000)] rfl rfl rfl rfl (ar (ar (ar (ai (vI a126) trivial)))) (ai (oR a122) trivial))
 ·
  refine T_exit (Ts hc (Ch.s (.row 3) pm (Ch.s (.row 3) pa (Ch.nil (T_ret ?_)))))
  exact eR [(.row 3)] [] [3] (.cons (.tmp 2 rfl) .nil) eA (Exp.of (congrArg (D.slice true 2) (by rw [List.take_of_length_le (by omega)])) (.row rfl))

def hasI (xs : List Int) (v : Int) : Bool := xs.any fun a => decide (a = v)

theorem sp_Index_int (xs : List Int) (v : Int) (hn : xs.length ≤ 1048576) : Sp Tryz.prog 217 [(.slice false 1 (xs.map (fun n : Int => D.int .i64 n))), (.int .i64 v)] [.any, .any] (.int .i64 (ixF (fun a => decide (a = v)) xs)) := by
 refine Sp_intro (lend := true) Tryz.func217 rfl rfl rfl (fun _ => rfl) (fun c hc hX => ?_)
 refine Ts hc (Ch.s (dI 0) pa (Ch.nil (Tq (Ts hc (Ch.s (.d (.slice false 1 (xs.map (fun n : Int => D.int .i64 n)))) pm ?_)))))
 refine Ch.s (dI (xs.length : Int)) (.pure (.len _ _ 3 rfl Tryz.underlying55 (.sh _ _) (by simp))) (Ch.s (dI 0) pm (Ch.nil (Tb ?_)))
 refine T_loop (ι := Nat) (fun k => { n := 19, sl := [(0, (.d (.slice false 1 (xs.map (fun n : Int => D.int .i64 n))))), (1, (dI v)), (7, (dI (xs.length : Int))), (8, (dI (k : Int)))], hp := [], pin := [] }) (fun k => k ≤ xs.length ∧ ∀ j, j < k → decide (xs.getD j default = v) = false) (fun k => xs.length - k) ⟨0, ⟨by omega, fun j hj => by omega⟩, (Wk.of rfl rfl (ar (ar (ar (ai (vI a126) trivial)))) trivial)⟩ (fun k hp0 => ?_)
 refine Ts hc (Ch.s (dB (decide ((k : Int) < (xs.length : Int)))) (iX rfl rfl rfl) (Ch.nil (Tq ?_)))
 refine T_condD (p := ((k : Int) < (xs.length : Int))) rfl (fun h1 => ?_) (fun h1 => ?_)
 ·
  refine Tk (Tq (Tb (Ts hc (Ch.s (dI (k : Int)) pm (Ch.s (dI (k : Int)) pa (Ch.nil ?_))))))
  refine Ts hc (Ch.s (dI v) pm (Ch.s (.d (.slice false 1 (xs.map (fun n : Int => D.int .i64 n)))) pm (Ch.s (dI (k : Int)) pm (Ch.s (.d (.ref (.int .i64 (xs.getD k default)))) (.pure (.idx _ _ _ 3 (k) rfl Tryz.underlying55 sz3 rfl rfl rfl get_mapA)) (Ch.s (dI (xs.getD k default)) (rF ag3 rfl rfl) (Ch.s (dB (decide (v = (xs.getD k default)))) (iX rfl rfl rfl) ?_))))))
  refine Ch.nil ?_
  refine T_condD (p := (v = (xs.getD k default))) rfl (fun h2 => ?_) (fun h2 => ?_)
  ·
   refine Ts hc (Ch.s (dI (k : Int)) pm (Ch.s (dI (k : Int)) pa (Ch.nil (T_ret ?_))))
   exact eR [(dI (k : Int))] [] [] (.cons (.tmp 4 rfl) .nil) eB (Exp.of (congrArg (D.int .i64) (by exact (ixF_some (d := default) (by omega) hp0.2 (by first | (exact decide_eq_true h2.symm) | (exact decide_eq_true h2))).symm)) (.d _))
  ·
   refine Tk (Tz hc (Ch.s (dI ((k : Int) + 1)) (iX rfl rfl intV_addA) (Ch.s (dI ((k : Int) + 1)) pm (Ch.nil ?_))))
   exact nx (k + 1) ⟨by omega, upto_succ hp0.2 (by first | (exact decide_eq_false (fun e => h2 e.symm)) | (exact decide_eq_false h2))⟩ (Wk.of rfl rfl (ar (ar (ar (ai (vI a126) trivial)))) trivial)
 ·
  refine T_exit (Ts hc (Ch.s (dI (-1)) pa (Ch.nil (T_ret ?_))))
  exact eR [(dI (-1))] [] [] (.cons (.tmp 4 rfl) .nil) eB (Exp.of (congrArg (D.int .i64) a107) (.d _))

theorem sp_Contains_int (xs : List Int) (v : Int) (hn : xs.length ≤ 1048576) : Sp Tryz.prog 160 [(.slice false 1 (xs.map (fun n : Int => D.int .i64 n))), (.int .i64 v)] [.any, .any] (.bool (hasI xs v)) := by
 refine Sp_intro (lend := true) Tryz.func160 rfl rfl rfl (fun _ => rfl) (fun c hc hX => ?_)
 refine Ts hc (Ch.s (dB false) pa (Ch.nil (Ts hc (Ch.s (.d (.slice false 1 (xs.map (fun n : Int => D.int .i64 n)))) pm (Ch.s (dI v) pm ?_)))))
 refine Ch.s (dI (ixF (fun a => decide (a = v)) xs)) (.call 7000 217 _ _ _ en217 rfl (.inl rfl) (.cons (.d _) (.cons (.d _) .nil)) rfl rfl (sp_Index_int xs v a46) (.skip _ _ (.skip _ _ .nil)) rfl) (Ch.s (dB (decide (0 ≤ (ixF (fun a => decide (a = v)) xs)))) (iX rfl rfl rfl) (Ch.s (dB (decide (0 ≤ (ixF (fun a => decide (a = v)) xs)))) pa (Ch.nil (T_ret ?_))))
 exact eR [(dB (decide (0 ≤ (ixF (fun a => decide (a = v)) xs))))] [] [] (.cons (.tmp 4 rfl) .nil) eB (Exp.of (congrArg D.bool (by exact ixF_nonneg _ xs)) (.d _))

theorem sp_impl_isBits (u : List UInt8) (n : Int) (hs : u.length ≤ 1048576) : Sp Tryz.prog 187 [(.str u), (.int .i64 n)] [.any, .any] (.bool (codeN u n)) := by
 refine Sp_intro (lend := true) Tryz.func187 rfl rfl rfl (fun _ => rfl) (fun c hc hX => ?_)
 refine Ts hc (Ch.s (dB false) pa (Ch.nil (Tq (Ts hc (Ch.s (dI 0) pa ?_)))))
 refine Ch.nil (Tb ?_)
 refine T_loop (ι := Nat) (fun k => { n := 26, sl := [(0, (dS u)), (1, (dI n)), (5, (dI (k : Int)))], hp := [], pin := [] }) (fun k => k ≤ u.length ∧ ∀ j, j < k → codeCh (u.getD j 0) = true) (fun k => u.length - k) ⟨0, ⟨by omega, fun j hj => by omega⟩, (Wk.of rfl rfl (ar (ar (ai (vI a126) trivial))) trivial)⟩ (fun k hp0 => ?_)
 refine Tq (Ts hc (Ch.s (dI (k : Int)) pm (Ch.s (dS u) pm (Ch.s (dI (u.length : Int)) (.pure (.lenStr _ _ rfl Tryz.underlying9 rfl)) (Ch.s (dB (decide ((k : Int) < (u.length : Int)))) (iX rfl rfl rfl) (Ch.nil ?_))))))
 refine T_condD (p := ((k : Int) < (u.length : Int))) rfl (fun h1 => ?_) (fun h1 => ?_)
 ·
  refine Tk (Tq (Tb (Ts hc (Ch.s (dS u) pm (Ch.s (dI (k : Int)) pm (Ch.s (.d (.int .u8 ((u.getD k 0).toNat : Int))) (.pure (.idxStr _ _ _ (k) rfl Tryz.underlying9 rfl rfl rfl get_strA)) ?_))))))
  refine Ch.s (dB (!(decide (((u.getD k 0) : UInt8) = 48)))) (iX rfl rfl (u8_neq ((u.getD k 0) : UInt8) 48 rfl rfl)) (Ch.s (dB (!(decide (((u.getD k 0) : UInt8) = 48)))) pm ?_)
  cases h2 : (decide (((u.getD k 0) : UInt8) = 48)) with
  | true =>
   replace h2 := odt h2
   refine Ck (Ck (Ck (Ck (Ch.s (dB false) (pF rfl) (Ch.nil ?_)))))
   refine T_cond (b := false) rfl (fun h => nomatch h) (fun _ => ?_)
   refine Tk (Tz hc (Ch.s (dI (k : Int)) pm (Ch.s (dI ((k : Int) + 1)) (iX rfl rfl intV_addA) (Ch.s (dI ((k : Int) + 1)) pa (Ch.nil ?_)))))
   exact nx (k + 1) ⟨by omega, upto_succ hp0.2 (by simp_all [codeCh])⟩ (Wk.of rfl rfl (ar (ar (ai (vI a126) trivial))) trivial)
  | false =>
   replace h2 := odf h2
   refine Ch.s (dS u) pm (Ch.s (dI (k : Int)) pm (Ch.s (.d (.int .u8 ((u.getD k 0).toNat : Int))) (.pure (.idxStr _ _ _ (k) rfl Tryz.underlying9 rfl rfl rfl get_strA)) (Ch.s (dB (!(decide (((u.getD k 0) : UInt8) = 49)))) (iX rfl rfl (u8_neq ((u.getD k 0) : UInt8) 49 rfl rfl)) (Ch.s (dB (!(decide (((u.getD k 0) : UInt8) = 49)))) (pT rfl) (Ch.nil ?_)))))
   refine T_condN (b := (decide (((u.getD k 0) : UInt8) = 49))) rfl (fun h3 => ?_) (fun h3 => ?_)
   ·
    replace h3 := odf h3
    refine Ts hc (Ch.s (dB false) pa (Ch.nil (T_ret ?_)))
    exact eR [(dB false)] [] [] (.cons (.tmp 4 rfl) .nil) eB (Exp.of (congrArg D.bool a64) (.d _))
   ·
    replace h3 := odt h3
    refine Tk (Tz hc (Ch.s (dI (k : Int)) pm (Ch.s (dI ((k : Int) + 1)) (iX rfl rfl intV_addA) (Ch.s (dI ((k : Int) + 1)) pa (Ch.nil ?_)))))
    exact nx (k + 1) ⟨by omega, upto_succ hp0.2 (by simp_all [codeCh])⟩ (Wk.of rfl rfl (ar (ar (ai (vI a126) trivial))) trivial)
 ·
  refine T_exit (Ts hc (Ch.s (dS u) pm (Ch.s (dI (u.length : Int)) (.pure (.lenStr _ _ rfl Tryz.underlying9 rfl)) (Ch.s (dI n) pm (Ch.s (dB (decide ((u.length : Int) = n))) (iX rfl rfl rfl) (Ch.s (dB (decide ((u.length : Int) = n))) pa ?_))))))
  refine Ch.nil (T_ret ?_)
  exact eR [(dB (decide ((u.length : Int) = n)))] [] [] (.cons (.tmp 4 rfl) .nil) eB (Exp.of (congrArg D.bool a64) (.d _))

def edgeB (l : Lab) (n : Int) : Bool := withinB l.sig 0 (n - 1) || (decide (l.sig = -1) && !l.up)

theorem lab_eq (l : Lab) : decide (l = Lab.mk (-1) false) = (decide (l.sig = -1) && !l.up) := by
  cases l; rename_i a b; cases b <;> simp

theorem sp_impl_isEdge (l : Lab) (n : Int) (hn0 : 0 ≤ n) (hn : n ≤ 1048576) : Sp Tryz.prog 188 [(.agg [(.int .i64 l.sig), (.bool (l.up))]), (.int .i64 n)] [.any, .any] (.bool (edgeB l n)) := by
 refine Sp_intro (lend := true) Tryz.func188 rfl rfl rfl (fun _ => rfl) (fun c hc hX => ?_)
 refine Ts hc (Ch.s (.ptr 2000 0) (.box 2000 _ _ rfl (.aggD _)) (Ch.s (dB false) pa (Ch.nil (Ts hc (Ch.s (.ptr 2000 0) (fP fld107_0 rfl) ?_)))))
 refine Ch.s (dI l.sig) (lP ag3 rfl rfl rfl) (Ch.s (dI n) pm (Ch.s (dI (n - 1)) (iX rfl rfl intV_subA) (Ch.s (dB (withinB l.sig 0 (n - 1))) (.call 9000 91 _ _ _ en91 rfl (.inl rfl) (.cons (.d _) (.cons (.d _) (.cons (.d _) .nil))) rfl rfl (sp_impl_within l.sig 0 (n - 1)) (.skip _ _ (.skip _ _ (.skip _ _ .nil))) rfl) (Ch.s (dB (withinB l.sig 0 (n - 1))) pm ?_))))
 cases h1 : (withinB l.sig 0 (n - 1)) with
 | true =>
  refine Ck (Ck (Ck (Ch.s (dB true) (pT rfl) (Ch.s (dB true) pa (Ch.nil (T_ret ?_))))))
  exact eR [(dB true)] [] [] (.cons (.tmp 4 rfl) .nil) eB (Exp.of (congrArg D.bool a99) (.d _))
 | false =>
  refine Ch.s (.agg [(dI l.sig), (dB (l.up))]) (lA ag107 sz107 rfl rfl (lb rfl) rfl) (Ch.s (.agg [(dI (-1)), (dB false)]) (.build _ _ rfl stru107 (.cons (.one _ rfl) .nil) rfl) (Ch.s (dB (decide (l = (Lab.mk (-1) false)))) (.pure (.eqA _ _ _ _ rfl (eqa107 _ _ _ _) (.v [(.int .i64 l.sig), (.bool (l.up))]) (.v [(.int .i64 (-1)), (.bool false)]) (Lab.eqv l (Lab.mk (-1) false)))) (Ch.s (dB (decide (l = (Lab.mk (-1) false)))) (pF rfl) (Ch.s (dB (decide (l = (Lab.mk (-1) false)))) pa (Ch.nil (T_ret ?_))))))
  exact eR [(dB (decide (l = (Lab.mk (-1) false))))] [] [] (.cons (.tmp 4 rfl) .nil) eB (Exp.of (congrArg D.bool a99) (.d _))

theorem sp_spec_l2Label (l : Lab) (n : Int) (hn0 : 0 ≤ n) (hn : n ≤ 1048576) : Sp Tryz.prog 219 [(.agg [(.int .i64 l.sig), (.bool (l.up))]), (.int .i64 n)] [.any, .any] (.bool (edgeB l n)) := by
 refine Sp_intro (lend := true) Tryz.func219 rfl rfl rfl (fun _ => rfl) (fun c hc hX => ?_)
 refine Ts hc (Ch.s (.ptr 2000 0) (.box 2000 _ _ rfl (.aggD _)) (Ch.s (dB false) pa (Ch.nil (Ts hc (Ch.s (.ptr 2000 0) (fP fld107_0 rfl) ?_)))))
 refine Ch.s (dI l.sig) (lP ag3 rfl rfl rfl) (Ch.s (dI n) pm (Ch.s (dI (n - 1)) (iX rfl rfl intV_subA) (Ch.s (dB (withinB l.sig 0 (n - 1))) (.call 9000 89 _ _ _ en89 rfl (.inl rfl) (.cons (.d _) (.cons (.d _) (.cons (.d _) .nil))) rfl rfl (sp_spec_l1In l.sig 0 (n - 1)) (.skip _ _ (.skip _ _ (.skip _ _ .nil))) rfl) (Ch.s (dB (withinB l.sig 0 (n - 1))) pm ?_))))
 cases h1 : (withinB l.sig 0 (n - 1)) with
 | true =>
  refine Ck (Ck (Ck (Ck (Ck (Ck (Ck (Ch.skip rfl rfl ?_)))))))
  refine Ch.s (dB true) (pT rfl) (Ch.s (dB true) pa (Ch.nil (T_ret ?_)))
  exact eR [(dB true)] [] [] (.cons (.tmp 4 rfl) .nil) eB (Exp.of (congrArg D.bool a99) (.d _))
 | false =>
  refine Ch.s (.ptr 2000 0) (fP fld107_0 rfl) (Ch.s (dI l.sig) (lP ag3 rfl rfl rfl) (Ch.s (dB (decide (l.sig = (-1)))) (iX rfl rfl rfl) (Ch.s (dB (decide (l.sig = (-1)))) pm ?_)))
  cases h2 : (decide (l.sig = (-1))) with
  | true =>
   replace h2 := odt h2
   refine Ch.s (.ptr 2000 1) (fP fld107_1 rfl) (Ch.s (dB (l.up)) (lP ag4 rfl rfl rfl) (Ch.s (dB (!(l.up))) (nT rfl) (Ch.s (dB (!(l.up))) (pT rfl) (Ch.s (dB (!(l.up))) (pF rfl) (Ch.s (dB (!(l.up))) pa (Ch.nil (T_ret ?_)))))))
   exact eR [(dB (!(l.up)))] [] [] (.cons (.tmp 4 rfl) .nil) eB (Exp.of (congrArg D.bool a99) (.d _))
  | false =>
   replace h2 := odf h2
   refine Ck (Ck (Ck (Ch.s (dB false) (pF rfl) (Ch.s (dB false) (pF rfl) (Ch.s (dB false) pa (Ch.nil (T_ret ?_)))))))
   exact eR [(dB false)] [] [] (.cons (.tmp 4 rfl) .nil) eB (Exp.of (congrArg D.bool a99) (.d _))

def fitCh (a : Arc) (u v : List UInt8) (j : Nat) : Bool := if (j : Int) = a.sig then !decide (decide (u.getD j 0 = 49) = a.up) && decide (decide (v.getD j 0 = 49) = a.up) else decide (u.getD j 0 = v.getD j 0)

def fitB (a : Arc) (u v : List UInt8) : Bool := allB u.length (fitCh a u v)

theorem sp_impl_fitsCodes (a : Arc) (u v : List UInt8) (hu : u.length ≤ 1048576) (hv : v.length = u.length) : Sp Tryz.prog 189 [(.agg [(.int .i64 a.src), (.int .i64 a.sig), (.bool (a.up)), (.int .i64 a.dst)]), (.str u), (.str v)] [.any, .any, .any] (.bool (fitB a u v)) := by
 refine Sp_intro (lend := true) Tryz.func189 rfl rfl rfl (fun _ => rfl) (fun c hc hX => ?_)
 refine Ts hc (Ch.s (.ptr 3000 0) (.box 3000 _ _ rfl (.aggD _)) (Ch.s (dB false) pa (Ch.nil (Tq (Tq (Tz hc ?_))))))
 refine Ch.s (dS u) pm (Ch.s (dI (u.length : Int)) (.pure (.lenStr _ _ rfl Tryz.underlying9 rfl)) (Ch.s (dI 0) pm (Ch.nil (Tb ?_))))
 refine T_loop (ι := Nat) (fun k => { n := 43, sl := [(1, (dS u)), (2, (dS v)), (3, (.ptr 3000 0)), (9, (dI (u.length : Int))), (10, (dI (k : Int)))], hp := [(3000, (some (.box [(dI a.src), (dI a.sig), (dB (a.up)), (dI a.dst)])))], pin := [] }) (fun k => k ≤ u.length ∧ ∀ j, j < k → fitCh a u v j = true) (fun k => u.length - k) ⟨0, ⟨by omega, fun j hj => by omega⟩, (Wk.of rfl rfl (ar (ar (ar (ar (ai (vI a126) trivial))))) (ar trivial))⟩ (fun k hp0 => ?_)
 refine Ts hc (Ch.s (dB (decide ((k : Int) < (u.length : Int)))) (iX rfl rfl rfl) (Ch.nil (Tq ?_)))
 refine T_condD (p := ((k : Int) < (u.length : Int))) rfl (fun h1 => ?_) (fun h1 => ?_)
 ·
  refine Tk (Tq (Tb (Ts hc (Ch.s (dI (k : Int)) pm (Ch.s (dI (k : Int)) pa (Ch.nil ?_))))))
  refine Tb (Ts hc (Ch.s (dI (k : Int)) pm (Ch.s (.ptr 3000 1) (fP fld125_1 rfl) (Ch.s (dI a.sig) (lP ag3 rfl rfl rfl) (Ch.s (dB (!(decide ((k : Int) = a.sig)))) (iX rfl rfl rfl) (Ch.s (dB (!(decide ((k : Int) = a.sig)))) pa ?_))))))
  refine Ch.nil ?_
  refine T_condN (b := (decide ((k : Int) = a.sig))) rfl (fun h2 => ?_) (fun h2 => ?_)
  ·
   replace h2 := odf h2
   refine Tq ?_
   refine T_regionD hc (by kernel_rfl) ?_
   refine ChD.s (dS u) [] pm (ChD.s (dI (k : Int)) [] pm (ChD.s (.d (.int .u8 ((u.getD k 0).toNat : Int))) [] (.pure (.idxStr _ _ _ (k) rfl Tryz.underlying9 rfl rfl rfl get_strA)) (ChD.s (dS v) [] pm (ChD.s (dI (k : Int)) [] pm (ChD.s (.d (.int .u8 ((v.getD k 0).toNat : Int))) [] (.pure (.idxStr _ _ _ (k) rfl Tryz.underlying9 rfl rfl rfl get_strA)) (ChD.s (dB (!(decide (((u.getD k 0) : UInt8) = (v.getD k 0))))) [] (iX rfl rfl (u8_neq ((u.getD k 0) : UInt8) (v.getD k 0) rfl rfl)) ?_))))))
   refine ChD.nil (And.intro ?_ (by kernel_rfl))
   refine T_condN (b := (decide (((u.getD k 0) : UInt8) = (v.getD k 0)))) rfl (fun h3 => ?_) (fun h3 => ?_)
   ·
    replace h3 := odf h3
    refine Ts hc (Ch.s (dB false) pa (Ch.nil (T_ret ?_)))
    exact eR [(dB false)] [] [] (.cons (.tmp 6 rfl) .nil) eC (Exp.of (congrArg D.bool a20) (.d _))
   ·
    replace h3 := odt h3
    refine Tk (Tz hc (Ch.s (dI ((k : Int) + 1)) (iX rfl rfl intV_addA) (Ch.s (dI ((k : Int) + 1)) pm (Ch.nil ?_))))
    exact nx (k + 1) ⟨by omega, upto_succ hp0.2 a38⟩ (Wk.of rfl rfl (ar (ar (ar (ar (ai (vI a126) trivial))))) (ar trivial))
  ·
   replace h2 := odt h2
   refine Tq ?_
   refine T_regionD hc (by kernel_rfl) ?_
   refine ChD.s (dS u) [] pm (ChD.s (dI (k : Int)) [] pm (ChD.s (.d (.int .u8 ((u.getD k 0).toNat : Int))) [] (.pure (.idxStr _ _ _ (k) rfl Tryz.underlying9 rfl rfl rfl get_strA)) (ChD.s (dB (decide (((u.getD k 0) : UInt8) = 49))) [] (iX rfl rfl (u8_eql ((u.getD k 0) : UInt8) 49 rfl rfl)) (ChD.s (.ptr 3000 2) [] (fP fld125_2 rfl) (ChD.s (dB (a.up)) [3000] (lP ag4 rfl rfl rfl) (ChD.s (dB (decide ((decide (((u.getD k 0) : UInt8) = 49)) = (a.up)))) [] (.pure (.eqB _ _ _ _ rfl Tryz.underlying4 rfl rfl)) (ChD.s (dB (decide ((decide (((u.getD k 0) : UInt8) = 49)) = (a.up)))) [] pm ?_)))))))
   cases h4 : (decide ((decide (((u.getD k 0) : UInt8) = 49)) = (a.up))) with
   | true =>
    replace h4 := odt h4
    refine ChD.skip rfl rfl (ChD.skip rfl rfl (ChD.skip rfl rfl (ChD.skip rfl rfl (ChD.skip rfl rfl (ChD.skip rfl rfl (ChD.skip rfl rfl (ChD.s (dB true) [] (pT rfl) ?_)))))))
    refine ChD.s (dB true) [] pa ?_
    refine ChD.nil (And.intro ?_ (by kernel_rfl))
    refine T_cond (b := true) rfl (fun _ => ?_) (fun h => nomatch h)
    refine Ts hc (Ch.s (dB false) pa (Ch.nil (T_ret ?_)))
    exact eR [(dB false)] [] [] (.cons (.tmp 6 rfl) .nil) eC (Exp.of (congrArg D.bool a20) (.d _))
   | false =>
    replace h4 := odf h4
    refine ChD.s (dS v) [] pm (ChD.s (dI (k : Int)) [] pm (ChD.s (.d (.int .u8 ((v.getD k 0).toNat : Int))) [] (.pure (.idxStr _ _ _ (k) rfl Tryz.underlying9 rfl rfl rfl get_strA)) (ChD.s (dB (decide (((v.getD k 0) : UInt8) = 49))) [] (iX rfl rfl (u8_eql ((v.getD k 0) : UInt8) 49 rfl rfl)) (ChD.s (.ptr 3000 2) [] (fP fld125_2 rfl) (ChD.s (dB (a.up)) [3000] (lP ag4 rfl rfl rfl) (ChD.s (dB (!(decide ((decide (((v.getD k 0) : UInt8) = 49)) = (a.up))))) [] (.pure (.neB _ _ _ _ rfl Tryz.underlying4 rfl rfl)) (ChD.s (dB (!(decide ((decide (((v.getD k 0) : UInt8) = 49)) = (a.up))))) [] (pF rfl) ?_)))))))
    refine ChD.s (dB (!(decide ((decide (((v.getD k 0) : UInt8) = 49)) = (a.up))))) [] pa ?_
    refine ChD.nil (And.intro ?_ (by kernel_rfl))
    refine T_condN (b := (decide ((decide (((v.getD k 0) : UInt8) = 49)) = (a.up)))) rfl (fun h5 => ?_) (fun h5 => ?_)
    ·
     replace h5 := odf h5
     refine Ts hc (Ch.s (dB false) pa (Ch.nil (T_ret ?_)))
     exact eR [(dB false)] [] [] (.cons (.tmp 6 rfl) .nil) eC (Exp.of (congrArg D.bool a20) (.d _))
    ·
     replace h5 := odt h5
     refine Tk (Tz hc (Ch.s (dI ((k : Int) + 1)) (iX rfl rfl intV_addA) (Ch.s (dI ((k : Int) + 1)) pm (Ch.nil ?_))))
     exact nx (k + 1) ⟨by omega, upto_succ hp0.2 a38⟩ (Wk.of rfl rfl (ar (ar (ar (ar (ai (vI a126) trivial))))) (ar trivial))
 ·
  refine T_exit (Ts hc (Ch.s (dB true) pa (Ch.nil (T_ret ?_))))
  exact eR [(dB true)] [] [] (.cons (.tmp 6 rfl) .nil) eC (Exp.of (congrArg D.bool a20) (.d _))

inductive Rch (E : Int → Int → Prop) (S : Int → Prop) : Int → Prop
 | base {a : Int} : S a → Rch E S a
 | step {a b : Int} : Rch E S a → E a b → Rch E S b

theorem Rch.mono {E E' : Int → Int → Prop} {S S' : Int → Prop} (hE : ∀ a b, E a b → E' a b) (hS : ∀ a, S a → S' a) {a : Int} (h : Rch E S a) : Rch E' S' a := by
 induction h with
 | base h => exact .base (hS _ h)
 | step _ e ih => exact .step ih (hE _ _ e)

theorem Rch.ind {E : Int → Int → Prop} {S : Int → Prop} (P : Int → Prop) (h0 : ∀ a, S a → P a) (h1 : ∀ a b, P a → E a b → P b) {a : Int} (h : Rch E S a) : P a := by
 induction h with
 | base h => exact h0 _ h
 | step _ e ih => exact h1 _ _ ih e

structure Grow {σ ε : Type} (g : σ → ε → σ) (l : List ε) (size : σ → Nat) (ok : σ → Prop) (N : Nat) : Prop where
 keep : ∀ s e, e ∈ l → ok s → ok (g s e)
 more : ∀ s e, e ∈ l → ok s → size s ≤ size (g s e)
 same : ∀ s e, e ∈ l → ok s → size (g s e) ≤ size s → g s e = s
 top : ∀ s, ok s → size s ≤ N

theorem Grow.fold {σ ε : Type} {g : σ → ε → σ} {size : σ → Nat} {ok : σ → Prop} {N : Nat} : ∀ {l : List ε}, Grow g l size ok N → ∀ s, ok s → ok (l.foldl g s) ∧ size s ≤ size (l.foldl g s) ∧ (size (l.foldl g s) ≤ size s → l.foldl g s = s ∧ ∀ e ∈ l, g s e = s)
  | [], _, s, hs => ⟨hs, Nat.le_refl _, fun _ => ⟨rfl, fun e he => absurd he (List.not_mem_nil)⟩⟩
  | e :: l, h, s, hs => by
    have h' : Grow g l size ok N := ⟨fun s a ha => h.keep s a (List.mem_cons_of_mem _ ha), fun s a ha => h.more s a (List.mem_cons_of_mem _ ha), fun s a ha => h.same s a (List.mem_cons_of_mem _ ha), h.top⟩
    have h1 := h.keep s e (List.mem_cons_self) hs
    have h2 := h.more s e (List.mem_cons_self) hs
    obtain ⟨a, b, c⟩ := h'.fold (g s e) h1
    rw [List.foldl_cons]
    refine ⟨a, by omega, fun hle => ?_⟩
    obtain ⟨c1, c2⟩ := c (by omega)
    have e1 := h.same s e (List.mem_cons_self) hs (by rw [c1] at hle; exact hle)
    rw [e1] at c1 c2
    rw [e1]
    refine ⟨c1, fun x hx => ?_⟩
    rcases List.mem_cons.1 hx with rfl | hx
    · exact e1
    · exact c2 x hx

def itN {σ : Type} (f : σ → σ) : Nat → σ → σ
 | 0, s => s
 | k + 1, s => f (itN f k s)

theorem Grow.steps {σ ε : Type} {g : σ → ε → σ} {l : List ε} {size : σ → Nat} {ok : σ → Prop} {N : Nat} (h : Grow g l size ok N) {s : σ} (hs : ok s) : ∀ k, ok (itN (l.foldl g) k s) ∧ (k ≤ size (itN (l.foldl g) k s) ∨ ∀ e ∈ l, g (itN (l.foldl g) k s) e = itN (l.foldl g) k s)
  | 0 => ⟨hs, .inl (Nat.zero_le _)⟩
  | k + 1 => by
    obtain ⟨h1, h2⟩ := h.steps hs k
    obtain ⟨a, b, c⟩ := h.fold _ h1
    refine ⟨a, ?_⟩
    by_cases hle : size (l.foldl g (itN (l.foldl g) k s)) ≤ size (itN (l.foldl g) k s)
    · obtain ⟨c1, c2⟩ := c hle
      right
      show ∀ e ∈ l, g (l.foldl g (itN (l.foldl g) k s)) e = l.foldl g (itN (l.foldl g) k s)
      rw [c1]; exact c2
    · rcases h2 with h2 | h2
      · left
        show k + 1 ≤ size (l.foldl g (itN (l.foldl g) k s))
        omega
      · exfalso
        apply hle
        have : ∀ (l' : List ε) , (∀ e ∈ l', g (itN (l.foldl g) k s) e = itN (l.foldl g) k s) → l'.foldl g (itN (l.foldl g) k s) = itN (l.foldl g) k s := by
          intro l'
          induction l' with
          | nil => intro _; rfl
          | cons e l' ih =>
            intro hh
            rw [List.foldl_cons, hh e (List.mem_cons_self)]
            exact ih fun x hx => hh x (List.mem_cons_of_mem _ hx)
        rw [this l h2]; exact Nat.le_refl _

theorem Grow.fix {σ ε : Type} {g : σ → ε → σ} {l : List ε} {size : σ → Nat} {ok : σ → Prop} {N : Nat} (h : Grow g l size ok N) {s : σ} (hs : ok s) : ok (itN (l.foldl g) N s) ∧ ∀ e ∈ l, g (itN (l.foldl g) N s) e = itN (l.foldl g) N s := by
  obtain ⟨h1, h2⟩ := h.steps hs N
  refine ⟨h1, ?_⟩
  rcases h2 with h2 | h2
  · intro e he
    exact h.same _ e he h1 (by have := h.top _ (h.keep _ e he h1); omega)
  · exact h2

def markC (p : Arc → Bool) (m : List Bool) (a : Arc) : List Bool := if m.getD a.src.toNat default && p a then m.set a.dst.toNat true else m

def arcE (p : Arc → Bool) (l : List Arc) (a b : Int) : Prop := ∃ e ∈ l, e.src = a ∧ e.dst = b ∧ p e = true

def ends (n : Nat) (l : List Arc) : Prop := ∀ e ∈ l, (0 ≤ e.src ∧ e.src.toNat < n) ∧ (0 ≤ e.dst ∧ e.dst.toNat < n)

theorem getD_set {τ : Type} {d : τ} {l : List τ} {i j : Nat} {x : τ} : (l.set i x).getD j d = if i = j ∧ i < l.length then x else l.getD j d := by
  rw [List.getD_eq_getElem?_getD, List.getElem?_set]
  by_cases h : i = j
  · subst h
    by_cases h2 : i < l.length
    · simp [h2]
    · simp [h2]
  · simp [h]

theorem markC_size (p : Arc → Bool) (m : List Bool) (a : Arc) : m.count true ≤ (markC p m a).count true ∧ ((markC p m a).count true ≤ m.count true → markC p m a = m) := by
  unfold markC
  split
  · by_cases hd : a.dst.toNat < m.length
    · rw [List.count_set (h := hd)]
      by_cases hb : m[a.dst.toNat] = true
      · have hc : 0 < m.count true := List.count_pos_iff.2 (by rw [← hb]; exact List.getElem_mem hd)
        rw [hb]
        refine ⟨by simp; omega, fun _ => ?_⟩
        rw [← hb]; exact List.set_getElem_self hd
      · have hb' : m[a.dst.toNat] = false := by simpa using hb
        rw [hb']
        refine ⟨by simp, fun h => ?_⟩
        simp at h
        omega
    · rw [List.set_eq_of_length_le (by omega)]
      exact ⟨Nat.le_refl _, fun _ => rfl⟩
  · exact ⟨Nat.le_refl _, fun _ => rfl⟩

theorem markC_hit {p : Arc → Bool} {m : List Bool} {e : Arc} (h : m.getD e.src.toNat default = true) (hp : p e = true) (hd : e.dst.toNat < m.length) : (markC p m e).getD e.dst.toNat default = true := by
 unfold markC
 rw [h, hp, Bool.and_self, if_pos rfl, getD_set, if_pos ⟨rfl, hd⟩]

theorem markC_grow (p : Arc → Bool) {n : Nat} {l : List Arc} (hl : ends n l) (m0 : List Bool) :
    Grow (markC p) l (fun m => m.count true) (fun m => m.length = n ∧ (∀ j, m0.getD j default = true → m.getD j default = true) ∧ ∀ j : Nat, m.getD j default = true → Rch (arcE p l) (fun a => 0 ≤ a ∧ m0.getD a.toNat default = true) (j : Int)) n := by
  refine ⟨?_, fun s e _ _ => (markC_size p s e).1, fun s e _ _ => (markC_size p s e).2, fun s hs => by have := List.count_le_length (a := true) (l := s); omega⟩
  intro m e he ⟨h1, h2, h3⟩
  unfold markC
  split
  · rename_i hc
    rw [Bool.and_eq_true] at hc
    have hee := hl e he
    refine ⟨by rw [List.length_set]; exact h1, fun j hj => ?_, fun j hj => ?_⟩
    · rw [getD_set]; split
      · rfl
      · exact h2 j hj
    · rw [getD_set] at hj
      split at hj
      · rename_i hh
        have := h3 _ hc.1
        rw [show (e.src.toNat : Int) = e.src by omega] at this
        exact .step this ⟨e, he, rfl, by omega, hc.2⟩
      · exact h3 j hj
  · exact ⟨h1, h2, h3⟩

theorem markC_reach (p : Arc → Bool) {n : Nat} {l : List Arc} (hl : ends n l) {m0 : List Bool} (hm : m0.length = n) (j : Nat) :
  (itN (l.foldl (markC p)) n m0).getD j default = true ↔ Rch (arcE p l) (fun a => 0 ≤ a ∧ m0.getD a.toNat default = true) (j : Int) := by
 obtain ⟨⟨h1, h2, h3⟩, h4⟩ := (markC_grow p hl m0).fix (s := m0) ⟨hm, fun _ h => h, fun j h => .base ⟨by omega, h⟩⟩
 refine ⟨h3 j, fun h => ?_⟩
 have : 0 ≤ (j : Int) ∧ (itN (l.foldl (markC p)) n m0).getD ((j : Int)).toNat default = true := by
  refine Rch.ind (fun a => 0 ≤ a ∧ (itN (l.foldl (markC p)) n m0).getD a.toNat default = true) (fun a ha => ⟨ha.1, h2 _ ha.2⟩) ?_ h
  rintro a b ⟨ha, hb⟩ ⟨e, he, rfl, rfl, hp⟩
  have hs := h4 e he
  have hee := hl e he
  refine ⟨hee.2.1, ?_⟩
  rw [← hs]
  exact markC_hit hb hp (by omega)
 simpa using this.2

theorem linked_mem {a : List (List Int)} {e : Stp} {i : Nat} {t : Int} (he : e.src.toNat < a.length) : t ∈ (linked a e).getD i default ↔ t ∈ a.getD i default ∨ (e.src.toNat = i ∧ e.dst = t) := by
  unfold linked
  rw [getD_set]
  split
  · rename_i h
    rw [h.1, List.mem_append, List.mem_singleton]
    constructor
    · rintro (h2 | h2)
      · exact .inl h2
      · exact .inr ⟨rfl, h2.symm⟩
    · rintro (h2 | h2)
      · exact .inl h2
      · exact .inr h2.2.symm
  · rename_i h
    constructor
    · exact .inl
    · rintro (h2 | h2)
      · exact h2
      · exact absurd ⟨h2.1, he⟩ h

theorem adj_mem {n : Nat} {l : List Stp} (hl : ∀ e ∈ l, (0 ≤ e.src ∧ e.src.toNat < n) ∧ (0 ≤ e.dst ∧ e.dst.toNat < n)) {i : Nat} {t : Int} : ∀ k, k ≤ l.length → (t ∈ (adjTo n l k).getD i default ↔ ∃ e ∈ l.take k, e.src.toNat = i ∧ e.dst = t)
  | 0, _ => by
    rw [adjTo_zero]
    constructor
    · intro h
      exfalso
      by_cases hi : i < n
      · simp [hi] at h
      · simp [hi] at h
        cases h
    · rintro ⟨e, he, _⟩
      simp at he
  | k + 1, hk => by
    have hm := getD_mem (l := l) (j := k) (d := default) (by omega)
    have hg : l.getD k default = l[k] := by simp [show k < l.length by omega]
    rw [adjTo_succ (by omega), linked_mem (by rw [adjTo_length]; exact (hl _ hm).1.2), adj_mem hl k (by omega), List.take_succ_eq_append_getElem (by omega)]
    constructor
    · rintro (⟨e, he, h⟩ | h)
      · exact ⟨e, List.mem_append.2 (.inl he), h⟩
      · exact ⟨_, List.mem_append.2 (.inr (List.mem_singleton.2 rfl)), by rw [← hg]; exact h⟩
    · rintro ⟨e, he, h⟩
      rcases List.mem_append.1 he with he | he
      · exact .inl ⟨e, he, h⟩
      · rw [List.mem_singleton] at he; subst he; rw [← hg] at h; exact .inr h

structure BfsC (E : Int → Int → Prop) (s : Nat) (p : List Int × List Int) : Prop where
 snd : ∀ t ∈ p.2, Rch E (fun a => a = (s : Int)) t
 two : ∀ j, j < p.1.length → p.1.getD j default = -1 ∨ (j : Int) ∈ p.2
 src : (s : Int) ∈ p.2

theorem BfsC.relax {E : Int → Int → Prop} {s n k : Nat} {p : List Int × List Int} (h : BfsC E s p) (hi : Bfs n p) (hk : k < p.2.length) {t : Int} (ht : 0 ≤ t ∧ t.toNat < n) (he : E (p.2.getD k default) t) :
    BfsC E s (relax k p t) ∧ (∀ j : Nat, 0 ≤ p.1.getD j default → 0 ≤ (Go.AM.relax k p t).1.getD j default) ∧ 0 ≤ (Go.AM.relax k p t).1.getD t.toNat default := by
  have hq : p.2.getD k default ∈ p.2 := getD_mem hk
  have hqd := hi.qd _ hq
  have hlen := hi.len
  unfold Go.AM.relax
  split
  · refine ⟨⟨?_, ?_, List.mem_append.2 (.inl h.src)⟩, ?_, ?_⟩
    · intro x hx
      rcases List.mem_append.1 hx with hx | hx
      · exact h.snd x hx
      · rw [List.mem_singleton] at hx; subst hx; exact .step (h.snd _ hq) he
    · intro j hj
      dsimp only at hj ⊢
      rw [List.length_set] at hj
      rw [getD_set]
      split
      · rename_i hh
        right
        rw [← hh.1]
        exact List.mem_append.2 (.inr (List.mem_singleton.2 (by omega)))
      · rcases h.two j hj with h2 | h2
        · exact .inl h2
        · exact .inr (List.mem_append.2 (.inl h2))
    · intro j hj
      dsimp only
      rw [getD_set]
      split
      · omega
      · exact hj
    · dsimp only
      rw [getD_set, if_pos ⟨rfl, by omega⟩]; omega
  · exact ⟨h, fun _ h => h, by omega⟩

theorem relaxTo_c {E : Int → Int → Prop} {s n k : Nat} {o q ts : List Int} (hi : Bfs n (o, q)) (h : BfsC E s (o, q)) (hk : k < q.length) (hts : ∀ t ∈ ts, (0 ≤ t ∧ t.toNat < n) ∧ E (q.getD k default) t) : ∀ m, m ≤ ts.length →
    BfsC E s (relaxTo k o q ts m) ∧ (∀ j : Nat, 0 ≤ o.getD j default → 0 ≤ (relaxTo k o q ts m).1.getD j default) ∧ ∀ i, i < m → 0 ≤ (relaxTo k o q ts m).1.getD (ts.getD i default).toNat default
  | 0, _ => ⟨h, fun _ h => h, fun i hi => absurd hi (Nat.not_lt_zero _)⟩
  | m + 1, hm => by
    obtain ⟨h1, h2, h3⟩ := relaxTo_c hi h hk hts m (by omega)
    obtain ⟨h4, r, h5⟩ := relaxTo_inv hi hk (fun t ht => (hts t ht).1) m (by omega)
    have hkl : k < (relaxTo k o q ts m).2.length := by rw [h5, List.length_append]; omega
    have hqk : (relaxTo k o q ts m).2.getD k default = q.getD k default := by rw [h5]; exact getD_app hk
    have htm := hts _ (getD_mem (l := ts) (j := m) (d := default) (by omega))
    obtain ⟨a, b, c⟩ := h1.relax h4 hkl htm.1 (by rw [hqk]; exact htm.2)
    rw [relaxTo_succ (by omega)]
    refine ⟨a, fun j hj => b j (h2 j hj), fun i hi => ?_⟩
    by_cases hlt : i < m
    · exact b _ (h3 i hlt)
    · rw [show i = m by omega]; exact c

theorem bfsR_end {E : Int → Int → Prop} {s n : Nat} {nx : List (List Int)} (hnx : ∀ a : Int, (0 ≤ a ∧ a.toNat < n) → ∀ t ∈ nx.getD a.toNat default, (0 ≤ t ∧ t.toNat < n) ∧ E a t) : ∀ (f : Nat) (p : List Int × List Int) (k : Nat), Bfs n p → BfsC E s p → n ≤ k + f →
    (∀ i, i < k → i < p.2.length → ∀ t ∈ nx.getD (p.2.getD i default).toNat default, 0 ≤ p.1.getD t.toNat default) →
    ∃ q, Bfs n (bfsR nx f p k, q) ∧ BfsC E s (bfsR nx f p k, q) ∧ ∀ a ∈ q, ∀ t ∈ nx.getD a.toNat default, 0 ≤ (bfsR nx f p k).getD t.toNat default
  | 0, p, k, hi, hc, hf, hd => by
    refine ⟨p.2, hi, hc, fun a ha t ht => ?_⟩
    obtain ⟨i, hil, rfl⟩ := List.mem_iff_getElem.1 ha
    have hle := hi.le
    refine hd i (by omega) hil t ?_
    rwa [show p.2.getD i default = p.2[i] by simp [hil]]
  | f + 1, p, k, hi, hc, hf, hd => by
    rw [bfsR]
    split
    · rename_i hk
      have hqk := hi.qin _ (getD_mem (l := p.2) (j := k) (d := default) hk)
      have hts := hnx _ hqk
      obtain ⟨a, b, c⟩ := relaxTo_c (o := p.1) (q := p.2) hi hc hk hts _ (Nat.le_refl _)
      obtain ⟨h4, r, h5⟩ := relaxTo_inv (o := p.1) (q := p.2) hi hk (fun t ht => (hts t ht).1) _ (Nat.le_refl _)
      refine bfsR_end hnx f _ _ h4 a (by omega) ?_
      intro i hi1 hi2 t ht
      rw [h5] at ht
      by_cases hlt : i < k
      · rw [getD_app (by omega)] at ht
        exact b _ (hd i hlt (by omega) t ht)
      · have e : i = k := by omega
        subst e
        rw [getD_app hk] at ht
        obtain ⟨m, hm, rfl⟩ := List.mem_iff_getElem.1 ht
        have h6 := c m hm
        rw [List.getD_eq_getElem?_getD (i := m), List.getElem?_eq_getElem hm, Option.getD_some] at h6
        exact h6
    · rename_i hk
      refine ⟨p.2, hi, hc, fun a ha t ht => ?_⟩
      obtain ⟨i, hil, rfl⟩ := List.mem_iff_getElem.1 ha
      refine hd i (by omega) hil t ?_
      rwa [show p.2.getD i default = p.2[i] by simp [hil]]

def stE (l : List Stp) (a b : Int) : Prop := ∃ e ∈ l, e.src = a ∧ e.dst = b

theorem dist_all {n s : Nat} {l : List Stp} (hs : s < n) (hl : ∀ e ∈ l, (0 ≤ e.src ∧ e.src.toNat < n) ∧ (0 ≤ e.dst ∧ e.dst.toNat < n)) :
    hasI (distF n l s) (-1) = false ↔ ∀ j, j < n → Rch (stE l) (fun a => a = (s : Int)) (j : Int) := by
  have hnx : ∀ a : Int, (0 ≤ a ∧ a.toNat < n) → ∀ t ∈ (adjTo n l l.length).getD a.toNat default, (0 ≤ t ∧ t.toNat < n) ∧ stE l a t := by
    intro a ha t ht
    obtain ⟨e, he, h1, h2⟩ := (adj_mem hl l.length (Nat.le_refl _)).1 ht
    rw [List.take_length] at he
    have hee := hl e he
    exact ⟨by rw [← h2]; exact hee.2, e, he, by omega, h2⟩
  have hset : ∀ j, ((List.replicate n (-1 : Int)).set s 0).getD j default = if s = j then 0 else if j < n then -1 else default := by
    intro j
    rw [getD_set, List.length_replicate]
    by_cases h : s = j
    · rw [if_pos ⟨h, hs⟩, if_pos h]
    · rw [if_neg (fun hh => h hh.1), if_neg h]
      rw [List.getD_eq_getElem?_getD, List.getElem?_replicate]; split <;> rfl
  obtain ⟨q, hi, hc, hd⟩ := bfsR_end (E := stE l) (s := s) hnx n ((List.replicate n (-1)).set s 0, [(s : Int)]) 0 (BfsInv.zero (l := l) hs).inv
    ⟨fun t ht => by rw [List.mem_singleton] at ht; exact .base ht, fun j hj => by
      dsimp only at hj ⊢
      rw [List.length_set, List.length_replicate] at hj
      rw [hset]
      by_cases h : s = j
      · right; rw [h]; exact List.mem_singleton.2 rfl
      · left; rw [if_neg h, if_pos hj], List.mem_singleton.2 rfl⟩ (by omega) (fun i h => absurd h (Nat.not_lt_zero _))
  change Bfs n (distF n l s, q) at hi
  change BfsC (stE l) s (distF n l s, q) at hc
  change ∀ a ∈ q, ∀ t ∈ (adjTo n l l.length).getD a.toNat default, 0 ≤ (distF n l s).getD t.toNat default at hd
  have hlen : (distF n l s).length = n := hi.len
  unfold hasI
  constructor
  · intro h j hj
    rcases hc.two j (by rw [hlen]; exact hj) with h2 | h2
    · rw [List.any_eq_false] at h
      exact absurd (decide_eq_true h2) (h _ (getD_mem (by rw [hlen]; exact hj)))
    · exact hc.snd _ h2
  · intro h
    rw [List.any_eq_false]
    intro x hx hx1
    obtain ⟨j, hj, rfl⟩ := List.mem_iff_getElem.1 hx
    have hx1 := of_decide_eq_true hx1
    have hq : (j : Int) ∈ q := by
      refine Rch.ind (fun a => a ∈ q) (fun a ha => by rw [ha]; exact hc.src) ?_ (h j (by omega))
      rintro a b ha ⟨e, he, rfl, rfl⟩
      have hee := hl e he
      have h1 := hd _ ha e.dst ((adj_mem hl l.length (Nat.le_refl _)).2 ⟨e, by rw [List.take_length]; exact he, rfl, rfl⟩)
      rcases hc.two e.dst.toNat (by dsimp only; omega) with h2 | h2
      · rw [h2] at h1; omega
      · rwa [show (e.dst.toNat : Int) = e.dst by omega] at h2
    have h3 := hi.qd _ hq
    have h4 : (distF n l s).getD ((j : Int)).toNat default = (distF n l s)[j] := by simp [hj]
    dsimp only at h3
    rw [h4] at h3; omega

def setCh (u : List UInt8) (k : Int) (b : UInt8) : List UInt8 := u.take k.toNat ++ [b] ++ u.drop (k + 1).toNat

theorem setCh_get {u : List UInt8} {k : Int} {b : UInt8} (h0 : 0 ≤ k) (h1 : k.toNat < u.length) : ∀ j, (setCh u k b).getD j 0 = if (j : Int) = k then b else u.getD j 0 := by
  intro j
  unfold setCh
  have e1 : (u.take k.toNat).length = k.toNat := by simp; omega
  rw [show (k + 1).toNat = k.toNat + 1 by omega, List.append_assoc, List.getD_eq_getElem?_getD, List.getElem?_append]
  split
  · rw [List.getElem?_take, if_pos (by omega), if_neg (by omega), ← List.getD_eq_getElem?_getD]
  · rw [e1, List.singleton_append, List.getElem?_cons]
    split
    · rw [if_pos (by omega)]; rfl
    · rw [if_neg (by omega), List.getElem?_drop, show k.toNat + 1 + (j - k.toNat - 1) = j by omega, ← List.getD_eq_getElem?_getD]

theorem setCh_len {u : List UInt8} {k : Int} {b : UInt8} (h0 : 0 ≤ k) (h1 : k.toNat < u.length) : (setCh u k b).length = u.length := by
 unfold setCh
 simp only [List.length_append, List.length_take, List.length_singleton, List.length_drop]
 omega

theorem eq_getD {u v : List UInt8} (hl : u.length = v.length) : u = v ↔ ∀ j, j < u.length → u.getD j 0 = v.getD j 0 := by
  constructor
  · intro h j _; rw [h]
  · intro h
    apply List.ext_getElem hl
    intro j h1 h2
    have := h j h1
    simpa [h1, h2] using this

theorem fit_neg {a : Arc} {u v : List UInt8} (hv : v.length = u.length) (h : a.sig < 0) : fitB a u v = decide (u = v) := by
  rw [Bool.eq_iff_iff, decide_eq_true_iff, fitB, allB_true, eq_getD hv.symm]
  constructor
  · intro h2 j hj
    have := h2 j hj
    unfold fitCh at this
    rw [if_neg (by omega)] at this
    exact of_decide_eq_true this
  · intro h2 j hj
    unfold fitCh
    rw [if_neg (by omega)]
    exact decide_eq_true (h2 j hj)

theorem fit_pos {a : Arc} {u v : List UInt8} {n : Int} (hu : codeN u n = true) (hv : codeN v n = true) (h0 : 0 ≤ a.sig) (h1 : a.sig < n) : fitB a u v = (decide (u = setCh v a.sig (bitN (!a.up))) && decide (v = setCh u a.sig (bitN a.up))) := by
  unfold codeN at hu hv
  simp only [Bool.and_eq_true, decide_eq_true_iff, allB_true] at hu hv
  obtain ⟨cu, lu⟩ := hu
  obtain ⟨cv, lv⟩ := hv
  have h1u : a.sig.toNat < u.length := by omega
  have h1v : a.sig.toNat < v.length := by omega
  have bu := cu _ h1u
  have bv := cv _ h1v
  rw [Bool.eq_iff_iff, Bool.and_eq_true, decide_eq_true_iff, decide_eq_true_iff, fitB, allB_true, eq_getD (by rw [setCh_len h0 h1v]; omega), eq_getD (by rw [setCh_len h0 h1u]; omega)]
  have key : ∀ x y : UInt8, codeCh x = true → codeCh y = true → (((!decide (decide (x = 49) = a.up)) && decide (decide (y = 49) = a.up)) = true ↔ x = bitN (!a.up) ∧ y = bitN a.up) := by
    intro x y hx hy
    unfold codeCh at hx hy
    simp only [Bool.or_eq_true, beq_iff_eq] at hx hy
    rcases hx with rfl | rfl <;> rcases hy with rfl | rfl <;> cases a.up <;> decide
  constructor
  · intro h
    refine ⟨fun j hj => ?_, fun j hj => ?_⟩
    · rw [setCh_get h0 h1v]
      have := h j hj
      unfold fitCh at this
      split
      · rename_i e
        rw [if_pos e] at this
        obtain rfl : a.sig.toNat = j := by omega
        exact ((key _ _ bu bv).1 this).1
      · rename_i e
        rw [if_neg e] at this
        exact of_decide_eq_true this
    · rw [setCh_get h0 h1u]
      have := h j (by omega)
      unfold fitCh at this
      split
      · rename_i e
        rw [if_pos e] at this
        obtain rfl : a.sig.toNat = j := by omega
        exact ((key _ _ bu bv).1 this).2
      · rename_i e
        rw [if_neg e] at this
        exact (of_decide_eq_true this).symm
  · rintro ⟨h2, h3⟩ j hj
    unfold fitCh
    have a2 := h2 j hj
    have a3 := h3 j (by omega)
    rw [setCh_get h0 h1v] at a2
    rw [setCh_get h0 h1u] at a3
    split
    · rename_i e
      rw [if_pos e] at a2 a3
      obtain rfl : a.sig.toNat = j := by omega
      exact (key _ _ bu bv).2 ⟨a2, a3⟩
    · rename_i e
      rw [if_neg e] at a2
      exact decide_eq_true a2

def codeAt (x : Sgr) (k : Int) : List UInt8 := x.codes.getD k.toNat default

def arcB (x : Sgr) (a : Arc) : Bool := withinB a.src 0 ((x.codes.length : Int) - 1) && (withinB a.dst 0 ((x.codes.length : Int) - 1) && (edgeB (Lab.mk a.sig a.up) (x.sigs.length : Int) && fitB a (codeAt x a.src) (codeAt x a.dst)))

def sgB (x : Sgr) : Bool := sigsB x.sigs && (withinB (x.codes.length : Int) 1 300 && (!decide ((4000 : Int) < (x.arcs.length : Int)) && (allOf x.codes (fun u => codeN u (x.sigs.length : Int)) && (allOf x.arcs (arcB x) && !hasI (distF x.codes.length (stepsOf x.arcs) 0) (-1)))))

def metIt (x : Sgr) (k : Nat) : List Bool := itN (x.arcs.foldl (markC fun _ => true)) k ((List.replicate x.codes.length false).set 0 true)

theorem arc_ends {x : Sgr} (h : allOf x.arcs (arcB x) = true) : ends x.codes.length x.arcs := by
 intro e he
 obtain ⟨j, hj, rfl⟩ := List.mem_iff_getElem.1 he
 have := allB_true.1 h j hj
 rw [show x.arcs.getD j default = x.arcs[j] by simp [hj]] at this
 unfold arcB at this
 simp only [Bool.and_eq_true] at this
 have h1 := within_two this.1
 have h2 := within_two this.2.1
 omega

theorem stE_arcs (l : List Arc) (a b : Int) : stE (stepsOf l) a b ↔ arcE (fun _ => true) l a b := by
  unfold stE arcE stepsOf
  constructor
  · rintro ⟨e, he, h1, h2⟩
    obtain ⟨a, ha, rfl⟩ := List.mem_map.1 he
    exact ⟨a, ha, h1, h2, rfl⟩
  · rintro ⟨e, he, h1, h2, _⟩
    exact ⟨_, List.mem_map.2 ⟨e, he, rfl⟩, h1, h2⟩

theorem steps_ends {n : Nat} {l : List Arc} (h : ends n l) : ∀ e ∈ stepsOf l, (0 ≤ e.src ∧ e.src.toNat < n) ∧ (0 ≤ e.dst ∧ e.dst.toNat < n) := by
 intro e he
 obtain ⟨a, ha, rfl⟩ := List.mem_map.1 he
 exact h a ha

theorem met_all {x : Sgr} (hn : 1 ≤ x.codes.length) (hl : ends x.codes.length x.arcs) : allOf (metIt x x.codes.length) (fun b => b) = !hasI (distF x.codes.length (stepsOf x.arcs) 0) (-1) := by
  have hm : ((List.replicate x.codes.length false).set 0 true).length = x.codes.length := by simp
  have h1 := markC_reach (fun _ => true) hl hm
  have h2 := dist_all (n := x.codes.length) (s := 0) (by omega) (steps_ends hl)
  have hz : ∀ a : Int, (0 ≤ a ∧ ((List.replicate x.codes.length false).set 0 true).getD a.toNat default = true) ↔ a = ((0 : Nat) : Int) := by
    intro a
    rw [getD_set, List.length_replicate]
    constructor
    · rintro ⟨h3, h4⟩
      split at h4
      · omega
      · exfalso
        rw [List.getD_eq_getElem?_getD, List.getElem?_replicate] at h4
        split at h4 <;> cases h4
    · rintro rfl
      exact ⟨by omega, by rw [if_pos ⟨by omega, by omega⟩]⟩
  have hlen : (metIt x x.codes.length).length = x.codes.length := by
    have := ((markC_grow (fun _ => true) hl _).fix (s := (List.replicate x.codes.length false).set 0 true) ⟨hm, fun _ h => h, fun j h => .base ⟨by omega, h⟩⟩).1.1
    exact this
  rw [Bool.eq_iff_iff, Bool.not_eq_true', h2, allOf, allB_true, hlen]
  constructor
  · intro h j hj
    have h3 := (h1 j).1 (by have := h j hj; exact this)
    exact h3.mono (fun a b hh => (stE_arcs _ _ _).2 hh) (fun a ha => (hz a).1 ha)
  · intro h j hj
    have h3 := (h j hj).mono (fun a b hh => (stE_arcs _ _ _).1 hh) (fun a ha => (hz a).2 ha)
    exact (h1 j).2 h3

def metTo (x : Sgr) (k m : Nat) : List Bool := (x.arcs.take m).foldl (markC fun _ => true) (metIt x k)

theorem metTo_all (x : Sgr) (k : Nat) {m : Nat} (h : x.arcs.length ≤ m) : metTo x k m = metIt x (k + 1) := by
 rw [metTo, List.take_of_length_le h]; rfl

theorem metTo_succ {x : Sgr} {k m : Nat} (h : m < x.arcs.length) : metTo x k (m + 1) = markC (fun _ => true) (metTo x k m) (x.arcs.getD m default) := by
 have hg : x.arcs.getD m default = x.arcs[m] := by simp [h]
 unfold metTo
 rw [List.take_succ_eq_append_getElem h, List.foldl_append, hg]; rfl

theorem metTo_yes {x : Sgr} {k m : Nat} (h : m < x.arcs.length) (hs : (metTo x k m).getD (x.arcs.getD m default).src.toNat default = true) : ((metTo x k m).map D.bool).set (x.arcs.getD m default).dst.toNat (D.bool true) = (metTo x k (m + 1)).map D.bool := by
 rw [metTo_succ h, markC, hs, Bool.and_self, if_pos rfl, List.map_set]

theorem metTo_no {x : Sgr} {k m : Nat} (h : m < x.arcs.length) (hs : (metTo x k m).getD (x.arcs.getD m default).src.toNat default = false) : metTo x k m = metTo x k (m + 1) := by
 rw [metTo_succ h, markC, hs, if_neg (by decide)]

theorem markC_len (p : Arc → Bool) (m : List Bool) (a : Arc) : (markC p m a).length = m.length := by
  unfold markC; split
  · rw [List.length_set]
  · rfl

theorem marks_len (p : Arc → Bool) : ∀ (l : List Arc) (m : List Bool), (l.foldl (markC p) m).length = m.length
 | [], _ => rfl
 | a :: l, m => by rw [List.foldl_cons, marks_len p l, markC_len]

theorem metIt_len (x : Sgr) : ∀ k, (metIt x k).length = x.codes.length
 | 0 => by simp [metIt, itN]
 | k + 1 => by
  have : metIt x (k + 1) = x.arcs.foldl (markC fun _ => true) (metIt x k) := rfl
  rw [this, marks_len, metIt_len x k]

theorem metTo_len (x : Sgr) (k m : Nat) : (metTo x k m).length = x.codes.length := by rw [metTo, marks_len, metIt_len]

theorem metIt_start (x : Sgr) : (List.replicate x.codes.length (D.bool false)).set 0 (D.bool true) = (metIt x 0).map D.bool := by
 rw [metIt, itN, List.map_set, List.map_replicate]

theorem sg_codes {x : Sgr} {k : Nat} (hk : x.codes.length ≤ k) (h : ∀ j, j < k → codeN (x.codes.getD j default) (x.sigs.length : Int) = true) : allOf x.codes (fun u => codeN u (x.sigs.length : Int)) = true := allB_of fun j hj => h j (by omega)

theorem sg_arcs {x : Sgr} {k : Nat} (hk : x.arcs.length ≤ k) (h : ∀ j, j < k → arcB x (x.arcs.getD j default) = true) : allOf x.arcs (arcB x) = true := allB_of fun j hj => h j (by omega)

theorem sg_no_code {x : Sgr} {k : Nat} (hk : k < x.codes.length) (h : codeN (x.codes.getD k default) (x.sigs.length : Int) = false) : sgB x = false := by
  rw [sgB, show allOf x.codes (fun u => codeN u (x.sigs.length : Int)) = false from allB_no k hk h]
  cases sigsB x.sigs <;> cases withinB (x.codes.length : Int) 1 300 <;> cases decide ((4000 : Int) < (x.arcs.length : Int)) <;> rfl

theorem sg_no_arc {x : Sgr} {k : Nat} (hk : k < x.arcs.length) (h : arcB x (x.arcs.getD k default) = false) : sgB x = false := by
  rw [sgB, show allOf x.arcs (arcB x) = false from allB_no k hk h]
  cases sigsB x.sigs <;> cases withinB (x.codes.length : Int) 1 300 <;> cases decide ((4000 : Int) < (x.arcs.length : Int)) <;> cases allOf x.codes (fun u => codeN u (x.sigs.length : Int)) <;> rfl

theorem sg_end {x : Sgr} (h1 : sigsB x.sigs = true) (h2 : withinB (x.codes.length : Int) 1 300 = true) (h3 : ¬ (4000 : Int) < (x.arcs.length : Int)) (h4 : allOf x.codes (fun u => codeN u (x.sigs.length : Int)) = true) (h5 : allOf x.arcs (arcB x) = true) : (!hasI (distF x.codes.length (stepsOf x.arcs) 0) (-1)) = sgB x := by
 rw [sgB, h1, h2, decide_eq_false h3, h4, h5]; rfl

theorem codes_at {x : Sgr} (h : allOf x.codes (fun u => codeN u (x.sigs.length : Int)) = true) : ∀ a : Int, 0 ≤ a → a.toNat < x.codes.length → codeN (codeAt x a) (x.sigs.length : Int) = true ∧ (codeAt x a).length = x.sigs.length := by
 intro a h0 h1
 have h2 : codeN (codeAt x a) (x.sigs.length : Int) = true := allB_true.1 h _ h1
 refine ⟨h2, ?_⟩
 unfold codeN at h2
 simp only [Bool.and_eq_true, decide_eq_true_iff] at h2
 omega

theorem stepsOf_len (l : List Arc) : (stepsOf l).length = l.length := by simp [stepsOf]

theorem distF_len {n s : Nat} {l : List Stp} (hs : s < n) (hl : ∀ e ∈ l, (0 ≤ e.src ∧ e.src.toNat < n) ∧ (0 ≤ e.dst ∧ e.dst.toNat < n)) : (distF n l s).length = n := by
  have hnx : ∀ a : Int, (0 ≤ a ∧ a.toNat < n) → ∀ t ∈ (adjTo n l l.length).getD a.toNat default, (0 ≤ t ∧ t.toNat < n) ∧ True := by
    intro a ha t ht
    obtain ⟨e, he, h1, h2⟩ := (adj_mem hl l.length (Nat.le_refl _)).1 ht
    rw [List.take_length] at he
    exact ⟨by rw [← h2]; exact (hl e he).2, trivial⟩
  obtain ⟨q, hi, _⟩ := bfsR_end (E := fun _ _ => True) (s := s) hnx n ((List.replicate n (-1)).set s 0, [(s : Int)]) 0 (BfsInv.zero (l := l) hs).inv
    ⟨fun t ht => by rw [List.mem_singleton] at ht; exact .base ht, fun j hj => by
      dsimp only at hj ⊢
      rw [List.length_set, List.length_replicate] at hj
      rw [getD_set, List.length_replicate]
      by_cases h : s = j
      · right; rw [h]; exact List.mem_singleton.2 rfl
      · left
        rw [if_neg (fun hh => h hh.1), List.getD_eq_getElem?_getD, List.getElem?_replicate, if_pos hj]; rfl, List.mem_singleton.2 rfl⟩ (by omega) (fun i h => absurd h (Nat.not_lt_zero _))
  exact hi.len

theorem edge_lt {a : Arc} {n : Int} (h : edgeB (Lab.mk a.sig a.up) n = true) : a.sig < n ∨ a.sig = -1 := by
  unfold edgeB at h
  simp only [Bool.or_eq_true, Bool.and_eq_true, decide_eq_true_iff] at h
  rcases h with h | h
  · have := within_two h
    omega
  · exact .inr h.1

theorem met_no {x : Sgr} (hn : 1 ≤ x.codes.length) (hl : ends x.codes.length x.arcs) {k : Nat} (hk : k = x.codes.length) (m : Nat) (hm : m < x.codes.length) (h : (metIt x k).getD m default = false) : false = !hasI (distF x.codes.length (stepsOf x.arcs) 0) (-1) := by
 subst hk
 rw [← met_all hn hl]
 exact (allB_no m (by rw [metIt_len]; exact hm) h).symm

theorem met_yes {x : Sgr} (hn : 1 ≤ x.codes.length) (hl : ends x.codes.length x.arcs) {k : Nat} (hk : k = x.codes.length) (h : ∀ j, j < x.codes.length → (metIt x k).getD j default = true) : true = !hasI (distF x.codes.length (stepsOf x.arcs) 0) (-1) := by
 subst hk
 rw [← met_all hn hl]
 exact (allB_of fun j hj => h j (by rw [metIt_len] at hj; exact hj)).symm

set_option maxHeartbeats 2000000 in
theorem sp_impl_IsValidStateGraph (x : Sgr) (hb : x.bulk ≤ 1048576) : Sp Tryz.prog 120 [(.agg [(.slice false 2 (x.sigs.map Sgn.d)), (.slice false 1 (x.codes.map D.str)), (.slice false 4 (x.arcs.map Arc.d))])] [.any] (.bool (sgB x)) := by
 refine Sp_intro (lend := true) Tryz.func120 rfl rfl rfl (fun _ => rfl) (fun c hc hX => ?_)
 obtain ⟨hp0, hp1, hp2⟩ := Sgr.parts hb
 have hn0 := bulkF_len hp0
 have hn1 := bulk_len hp1
 have hx1 := bulk_mem hp1
 have hn2 := bulkF_len hp2
 refine Ts hc (Ch.s (.ptr 1000 0) (.box 1000 _ _ rfl (.aggD _)) (Ch.s (dB false) pa (Ch.nil (Tq (Tq (Tz hc ?_))))))
 refine Ch.s (.ptr 1000 0) (fP fld35_0 rfl) (Ch.s (.d (.slice false 2 (x.sigs.map Sgn.d))) (lP ag32 rfl rfl rfl) (Ch.s (dB (sigsB x.sigs)) (.call 10000 186 _ _ _ en186 rfl (.inl rfl) (.cons (.d _) .nil) rfl rfl (sp_impl_areSignals x.sigs a46) (.skip _ _ .nil) rfl) (Ch.s (dB (!(sigsB x.sigs))) (nT rfl) (Ch.s (dB (!(sigsB x.sigs))) pm ?_))))
 cases h1 : (sigsB x.sigs) with
 | true =>
  refine Ch.s (.ptr 1000 1) (fP fld35_1 rfl) (Ch.s (.d (.slice false 1 (x.codes.map D.str))) (lP ag23 rfl rfl rfl) (Ch.s (dI (x.codes.length : Int)) (.pure (.len _ _ 9 rfl Tryz.underlying23 (.sh _ _) (by simp))) (Ch.s (dB (withinB (x.codes.length : Int) 1 300)) (.call 16000 91 _ _ _ en91 rfl (.inl rfl) (.cons (.d _) (.cons (.d _) (.cons (.d _) .nil))) rfl rfl (sp_impl_within (x.codes.length : Int) 1 300) (.skip _ _ (.skip _ _ (.skip _ _ .nil))) rfl) (Ch.s (dB (!(withinB (x.codes.length : Int) 1 300))) (nT rfl) (Ch.s (dB (!(withinB (x.codes.length : Int) 1 300))) (pF rfl) (Ch.s (dB (!(withinB (x.codes.length : Int) 1 300))) pm ?_))))))
  cases h2 : (withinB (x.codes.length : Int) 1 300) with
  | true =>
   try have hw2 := within_two h2
   refine Ch.s (.ptr 1000 2) (fP fld35_2 rfl) (Ch.s (.d (.slice false 4 (x.arcs.map Arc.d))) (lP ag33 rfl rfl rfl) (Ch.s (dI (x.arcs.length : Int)) (.pure (.len _ _ 125 rfl Tryz.underlying33 (.sh _ _) (by simp))) (Ch.s (dB (decide (4000 < (x.arcs.length : Int)))) (iX rfl rfl rfl) (Ch.s (dB (decide (4000 < (x.arcs.length : Int)))) (pF rfl) (Ch.nil ?_)))))
   refine T_condD (p := (4000 < (x.arcs.length : Int))) rfl (fun h3 => ?_) (fun h3 => ?_)
   ·
    refine Ts hc (Ch.s (dB false) pa (Ch.nil (T_ret ?_)))
    exact eR [(dB false)] [] [] (.cons (.tmp 2 rfl) .nil) eA (Exp.of (congrArg D.bool a22) (.d _))
   ·
    refine Tk (Ts hc (Ch.s (.ptr 1000 1) (fP fld35_1 rfl) (Ch.s (.d (.slice false 1 (x.codes.map D.str))) (lP ag23 rfl rfl rfl) (Ch.s (dI (x.codes.length : Int)) (.pure (.len _ _ 9 rfl Tryz.underlying23 (.sh _ _) (by simp))) (Ch.s (dI ((x.codes.length : Int) - 1)) (iX rfl rfl intV_subA) (Ch.s (dI ((x.codes.length : Int) - 1)) pa ?_))))))
    refine Ch.nil (Tq (Ts hc (Ch.s (.ptr 1000 1) (fP fld35_1 rfl) (Ch.s (.d (.slice false 1 (x.codes.map D.str))) (lP ag23 rfl rfl rfl) (Ch.s (dI (x.codes.length : Int)) (.pure (.len _ _ 9 rfl Tryz.underlying23 (.sh _ _) (by simp))) (Ch.s (dI 0) pm ?_))))))
    refine Ch.nil (Tb ?_)
    refine T_loop (ι := Nat) (fun k => { n := 101, sl := [(1, (.ptr 1000 0)), (3, (dI ((x.codes.length : Int) - 1))), (30, (.d (.slice false 1 (x.codes.map D.str)))), (31, (dI (x.codes.length : Int))), (32, (dI (k : Int)))], hp := [(1000, (some (.box (vX x))))], pin := [] }) (fun k => k ≤ x.codes.length ∧ ∀ j, j < k → codeN (x.codes.getD j default) (x.sigs.length : Int) = true) (fun k => x.codes.length - k) ⟨0, ⟨by omega, fun j hj => by omega⟩, (Wk.of rfl rfl (ar (ar (ar (ar (ai (vI a126) trivial))))) (ar trivial))⟩ (fun k hp0 => ?_)
    refine Ts hc (Ch.s (dB (decide ((k : Int) < (x.codes.length : Int)))) (iX rfl rfl rfl) (Ch.nil (Tq ?_)))
    refine T_condD (p := ((k : Int) < (x.codes.length : Int))) rfl (fun h4 => ?_) (fun h4 => ?_)
    ·
     try have hcl := sg_codes (x := x) (k := k) (by omega) hp0.2
     try have hca := codes_at hcl
     refine Tk (Tq (Tb (Ts hc (Ch.s (.d (.ref (.str (x.codes.getD k default)))) (.pure (.idx _ _ _ 9 (k) rfl Tryz.underlying23 sz9 rfl rfl rfl get_mapA)) (Ch.s (dS (x.codes.getD k default)) (rF ag9 rfl rfl) (Ch.s (dS (x.codes.getD k default)) pa ?_))))))
     refine Ch.nil (Ts hc (Ch.s (dS (x.codes.getD k default)) pm (Ch.s (.ptr 1000 0) (fP fld35_0 rfl) (Ch.s (.d (.slice false 2 (x.sigs.map Sgn.d))) (lP ag32 rfl rfl rfl) (Ch.s (dI (x.sigs.length : Int)) (.pure (.len _ _ 154 rfl Tryz.underlying32 (.sh _ _) (by simp))) (Ch.s (dB (codeN (x.codes.getD k default) (x.sigs.length : Int))) (.call 40000 187 _ _ _ en187 rfl (.inl rfl) (.cons (.d _) (.cons (.d _) .nil)) rfl rfl (sp_impl_isBits (x.codes.getD k default) (x.sigs.length : Int) a46) (.skip _ _ (.skip _ _ .nil)) rfl) ?_))))))
     refine Ch.s (dB (!(codeN (x.codes.getD k default) (x.sigs.length : Int)))) (nT rfl) (Ch.nil ?_)
     refine T_condN (b := (codeN (x.codes.getD k default) (x.sigs.length : Int))) rfl (fun h5 => ?_) (fun h5 => ?_)
     ·
      refine Ts hc (Ch.s (dB false) pa (Ch.nil (T_ret ?_)))
      exact eR [(dB false)] [] [] (.cons (.tmp 2 rfl) .nil) eA (Exp.of (congrArg D.bool a22) (.d _))
     ·
      refine Tk (Tz hc (Ch.s (dI ((k : Int) + 1)) (iX rfl rfl intV_addA) (Ch.s (dI ((k : Int) + 1)) pm (Ch.nil ?_))))
      exact nx (k + 1) ⟨by omega, upto_succ hp0.2 (by assumption)⟩ (Wk.of rfl rfl (ar (ar (ar (ar (ai (vI a126) trivial))))) (ar trivial))
    ·
     try have hcl := sg_codes (x := x) (k := k) (by omega) hp0.2
     try have hca := codes_at hcl
     refine T_exit (Tq (Ts hc (Ch.s (.ptr 1000 2) (fP fld35_2 rfl) (Ch.s (.d (.slice false 4 (x.arcs.map Arc.d))) (lP ag33 rfl rfl rfl) (Ch.s (dI (x.arcs.length : Int)) (.pure (.len _ _ 125 rfl Tryz.underlying33 (.sh _ _) (by simp))) (Ch.s (dI 0) pm ?_))))))
     refine Ch.nil (Tb ?_)
     refine T_loop (ι := Nat) (fun m => { n := 101, sl := [(1, (.ptr 1000 0)), (3, (dI ((x.codes.length : Int) - 1))), (44, (.d (.slice false 4 (x.arcs.map Arc.d)))), (45, (dI (x.arcs.length : Int))), (46, (dI (m : Int)))], hp := [(1000, (some (.box (vX x))))], pin := [] }) (fun m => m ≤ x.arcs.length ∧ ∀ j, j < m → arcB x (x.arcs.getD j default) = true) (fun m => x.arcs.length - m) ⟨0, ⟨by omega, fun j hj => by omega⟩, (Wk.of rfl rfl (ar (ar (ar (ar (ai (vI a126) trivial))))) (ar trivial))⟩ (fun m hp1 => ?_)
     refine Ts hc (Ch.s (dB (decide ((m : Int) < (x.arcs.length : Int)))) (iX rfl rfl rfl) (Ch.nil (Tq ?_)))
     refine T_condD (p := ((m : Int) < (x.arcs.length : Int))) rfl (fun h6 => ?_) (fun h6 => ?_)
     ·
      try have hal := sg_arcs (x := x) (k := m) (by omega) hp1.2
      try have hen := arc_ends hal
      try have hse := steps_ends hen
      try have hsl := stepsOf_len x.arcs
      try have hdl := distF_len (n := x.codes.length) (s := 0) (by omega) hse
      refine Tk (Tq (Tb (Ts hc (Ch.s (.d (.ref (.agg [(.int .i64 ((x.arcs.getD m default).src)), (.int .i64 ((x.arcs.getD m default).sig)), (.bool ((x.arcs.getD m default).up)), (.int .i64 ((x.arcs.getD m default).dst))]))) (.pure (.idx _ _ _ 125 (m) rfl Tryz.underlying33 sz125 rfl rfl rfl get_mapA)) (Ch.s (.d (.agg [(.int .i64 ((x.arcs.getD m default).src)), (.int .i64 ((x.arcs.getD m default).sig)), (.bool ((x.arcs.getD m default).up)), (.int .i64 ((x.arcs.getD m default).dst))])) (.pure (.loadRefA _ _ rfl ag125 sz125 rfl)) (Ch.s (.ptr 7000 0) (.alloc 7000 _ rfl zer125) ?_))))))
      refine Ch.s .junk (.storePtr _ _ _ rfl rfl rfl (.aggD _) sz125 (lb rfl)) (Ch.nil (Tq ?_))
      refine T_regionD hc (by kernel_rfl) ?_
      refine ChD.s (.ptr 7000 0) [] (fP fld125_0 rfl) (ChD.s (dI ((x.arcs.getD m default).src)) [7000] (lP ag3 rfl rfl rfl) (ChD.s (dI ((x.codes.length : Int) - 1)) [] pm (ChD.s (dB (withinB ((x.arcs.getD m default).src) 0 ((x.codes.length : Int) - 1))) [] (.call 53000 91 _ _ _ en91 rfl (.inl rfl) (.cons (.d _) (.cons (.d _) (.cons (.d _) .nil))) rfl rfl (sp_impl_within ((x.arcs.getD m default).src) 0 ((x.codes.length : Int) - 1)) (.skip _ _ (.skip _ _ (.skip _ _ .nil))) rfl) (ChD.s (dB (!(withinB ((x.arcs.getD m default).src) 0 ((x.codes.length : Int) - 1)))) [] (nT rfl) (ChD.s (dB (!(withinB ((x.arcs.getD m default).src) 0 ((x.codes.length : Int) - 1)))) [] pm ?_)))))
      cases h7 : (withinB ((x.arcs.getD m default).src) 0 ((x.codes.length : Int) - 1)) with
      | true =>
       try have hw7 := within_two h7
       refine ChD.s (.ptr 7000 3) [] (fP fld125_3 rfl) (ChD.s (dI ((x.arcs.getD m default).dst)) [7000] (lP ag3 rfl rfl rfl) (ChD.s (dI ((x.codes.length : Int) - 1)) [] pm (ChD.s (dB (withinB ((x.arcs.getD m default).dst) 0 ((x.codes.length : Int) - 1))) [] (.call 59000 91 _ _ _ en91 rfl (.inl rfl) (.cons (.d _) (.cons (.d _) (.cons (.d _) .nil))) rfl rfl (sp_impl_within ((x.arcs.getD m default).dst) 0 ((x.codes.length : Int) - 1)) (.skip _ _ (.skip _ _ (.skip _ _ .nil))) rfl) (ChD.s (dB (!(withinB ((x.arcs.getD m default).dst) 0 ((x.codes.length : Int) - 1)))) [] (nT rfl) (ChD.s (dB (!(withinB ((x.arcs.getD m default).dst) 0 ((x.codes.length : Int) - 1)))) [] (pF rfl) (ChD.s (dB (!(withinB ((x.arcs.getD m default).dst) 0 ((x.codes.length : Int) - 1)))) [] pm ?_))))))
       cases h8 : (withinB ((x.arcs.getD m default).dst) 0 ((x.codes.length : Int) - 1)) with
       | true =>
        try have hw8 := within_two h8
        try have hl1 := hca (x.arcs.getD m default).src (by omega) (by omega)
        try have hl2 := hca (x.arcs.getD m default).dst (by omega) (by omega)
        try have hl3 := hl1.2
        try have hl4 := hl2.2
        try unfold codeAt at hl3 hl4
        refine ChD.s (.ptr 7000 1) [] (fP fld125_1 rfl) (ChD.s (dI ((x.arcs.getD m default).sig)) [7000] (lP ag3 rfl rfl rfl) (ChD.s (.ptr 7000 2) [] (fP fld125_2 rfl) (ChD.s (dB ((x.arcs.getD m default).up)) [7000] (lP ag4 rfl rfl rfl) (ChD.s (.agg [(dI ((x.arcs.getD m default).sig)), (dB ((x.arcs.getD m default).up))]) [] (.build _ _ rfl stru107 (.cons (.one _ rfl) (.cons (.one _ rfl) .nil)) rfl) (ChD.s (.ptr 1000 0) [] (fP fld35_0 rfl) (ChD.s (.d (.slice false 2 (x.sigs.map Sgn.d))) [1000] (lP ag32 rfl rfl rfl) (ChD.s (dI (x.sigs.length : Int)) [] (.pure (.len _ _ 154 rfl Tryz.underlying32 (.sh _ _) (by simp))) ?_)))))))
        refine ChD.s (dB (edgeB (Lab.mk ((x.arcs.getD m default).sig) ((x.arcs.getD m default).up)) (x.sigs.length : Int))) [] (.call 71000 188 _ _ _ en188 rfl (.inl rfl) (.cons (.lend (.agg (.cons (.d _) (.cons (.d _) .nil)) rfl)) (.cons (.d _) .nil)) rfl rfl (sp_impl_isEdge (Lab.mk ((x.arcs.getD m default).sig) ((x.arcs.getD m default).up)) (x.sigs.length : Int) a46 a46) (.skip _ _ (.skip _ _ .nil)) rfl) (ChD.s (dB (!(edgeB (Lab.mk ((x.arcs.getD m default).sig) ((x.arcs.getD m default).up)) (x.sigs.length : Int)))) [] (nT rfl) (ChD.s (dB (!(edgeB (Lab.mk ((x.arcs.getD m default).sig) ((x.arcs.getD m default).up)) (x.sigs.length : Int)))) [] (pF rfl) (ChD.s (dB (!(edgeB (Lab.mk ((x.arcs.getD m default).sig) ((x.arcs.getD m default).up)) (x.sigs.length : Int)))) [] pm ?_)))
        cases h9 : (edgeB (Lab.mk ((x.arcs.getD m default).sig) ((x.arcs.getD m default).up)) (x.sigs.length : Int)) with
        | true =>
         refine ChD.s (.agg [(dI ((x.arcs.getD m default).src)), (dI ((x.arcs.getD m default).sig)), (dB ((x.arcs.getD m default).up)), (dI ((x.arcs.getD m default).dst))]) [7000] (lA ag125 sz125 rfl rfl (lb rfl) rfl) (ChD.s (.ptr 1000 1) [] (fP fld35_1 rfl) (ChD.s (.d (.slice false 1 (x.codes.map D.str))) [1000] (lP ag23 rfl rfl rfl) (ChD.s (.ptr 7000 0) [] (fP fld125_0 rfl) (ChD.s (dI ((x.arcs.getD m default).src)) [7000] (lP ag3 rfl rfl rfl) (ChD.s (.d (.ref (.str (x.codes.getD ((((x.arcs.getD m default).src)).toNat) default)))) [] (.pure (.idx _ _ _ 9 ((((x.arcs.getD m default).src)).toNat) rfl Tryz.underlying23 sz9 rfl rfl (by omega) get_mapA)) (ChD.s (dS (x.codes.getD ((((x.arcs.getD m default).src)).toNat) default)) [] (rF ag9 rfl rfl) (ChD.s (.ptr 1000 1) [] (fP fld35_1 rfl) ?_)))))))
         refine ChD.s (.d (.slice false 1 (x.codes.map D.str))) [1000] (lP ag23 rfl rfl rfl) (ChD.s (.ptr 7000 3) [] (fP fld125_3 rfl) (ChD.s (dI ((x.arcs.getD m default).dst)) [7000] (lP ag3 rfl rfl rfl) (ChD.s (.d (.ref (.str (x.codes.getD ((((x.arcs.getD m default).dst)).toNat) default)))) [] (.pure (.idx _ _ _ 9 ((((x.arcs.getD m default).dst)).toNat) rfl Tryz.underlying23 sz9 rfl rfl (by omega) get_mapA)) (ChD.s (dS (x.codes.getD ((((x.arcs.getD m default).dst)).toNat) default)) [] (rF ag9 rfl rfl) (ChD.s (dB (fitB (x.arcs.getD m default) (x.codes.getD ((((x.arcs.getD m default).src)).toNat) default) (x.codes.getD ((((x.arcs.getD m default).dst)).toNat) default))) [] (.call 88000 189 _ _ _ en189 rfl (.inl rfl) (.cons (.lend (.agg (.cons (.d _) (.cons (.d _) (.cons (.d _) (.cons (.d _) .nil)))) rfl)) (.cons (.d _) (.cons (.d _) .nil))) rfl rfl (sp_impl_fitsCodes (x.arcs.getD m default) (x.codes.getD ((((x.arcs.getD m default).src)).toNat) default) (x.codes.getD ((((x.arcs.getD m default).dst)).toNat) default) a46 a46) (.skip _ _ (.skip _ _ (.skip _ _ .nil))) rfl) (ChD.s (dB (!(fitB (x.arcs.getD m default) (x.codes.getD ((((x.arcs.getD m default).src)).toNat) default) (x.codes.getD ((((x.arcs.getD m default).dst)).toNat) default)))) [] (nT rfl) (ChD.s (dB (!(fitB (x.arcs.getD m default) (x.codes.getD ((((x.arcs.getD m default).src)).toNat) default) (x.codes.getD ((((x.arcs.getD m default).dst)).toNat) default)))) [] (pF rfl) ?_)))))))
         refine ChD.nil (And.intro ?_ (by kernel_rfl))
         refine T_condN (b := (fitB (x.arcs.getD m default) (x.codes.getD ((((x.arcs.getD m default).src)).toNat) default) (x.codes.getD ((((x.arcs.getD m default).dst)).toNat) default))) rfl (fun h10 => ?_) (fun h10 => ?_)
         ·
          refine Ts hc (Ch.s (dB false) pa (Ch.nil (T_ret ?_)))
          exact eR [(dB false)] [] [] (.cons (.tmp 2 rfl) .nil) eA (Exp.of (congrArg D.bool a22) (.d _))
         ·
          refine Tk (Tz hc (Ch.s (dI ((m : Int) + 1)) (iX rfl rfl intV_addA) (Ch.s (dI ((m : Int) + 1)) pm (Ch.nil ?_))))
          exact nx (m + 1) ⟨by omega, upto_succ hp1.2 a119⟩ (Wk.of rfl rfl (ar (ar (ar (ar (ai (vI a126) trivial))))) (ar trivial))
        | false =>
         refine ChD.skip rfl rfl (ChD.skip rfl rfl (ChD.skip rfl rfl (ChD.skip rfl rfl (ChD.skip rfl rfl (ChD.skip rfl rfl (ChD.skip rfl rfl (ChD.skip rfl rfl ?_)))))))
         refine ChD.skip rfl rfl (ChD.skip rfl rfl (ChD.skip rfl rfl (ChD.skip rfl rfl (ChD.skip rfl rfl (ChD.skip rfl rfl (ChD.skip rfl rfl (ChD.s (dB true) [] (pT rfl) ?_)))))))
         refine ChD.nil (And.intro ?_ (by kernel_rfl))
         refine T_cond (b := true) rfl (fun _ => ?_) (fun h => nomatch h)
         refine Ts hc (Ch.s (dB false) pa (Ch.nil (T_ret ?_)))
         exact eR [(dB false)] [] [] (.cons (.tmp 2 rfl) .nil) eA (Exp.of (congrArg D.bool a22) (.d _))
       | false =>
        try have hw8 := within_two h8
        try have hl1 := hca (x.arcs.getD m default).src (by omega) (by omega)
        try have hl2 := hca (x.arcs.getD m default).dst (by omega) (by omega)
        try have hl3 := hl1.2
        try have hl4 := hl2.2
        try unfold codeAt at hl3 hl4
        refine ChD.skip rfl rfl (ChD.skip rfl rfl (ChD.skip rfl rfl (ChD.skip rfl rfl (ChD.skip rfl rfl (ChD.skip rfl rfl (ChD.skip rfl rfl (ChD.skip rfl rfl ?_)))))))
        refine ChD.skip rfl rfl (ChD.skip rfl rfl (ChD.s (dB true) [] (pT rfl) (ChD.s (dB true) [] pm (ChD.skip rfl rfl (ChD.skip rfl rfl (ChD.skip rfl rfl (ChD.skip rfl rfl ?_)))))))
        refine ChD.skip rfl rfl (ChD.skip rfl rfl (ChD.skip rfl rfl (ChD.skip rfl rfl (ChD.skip rfl rfl (ChD.skip rfl rfl (ChD.skip rfl rfl (ChD.skip rfl rfl ?_)))))))
        refine ChD.skip rfl rfl (ChD.skip rfl rfl (ChD.skip rfl rfl (ChD.s (dB true) [] (pT rfl) ?_)))
        refine ChD.nil (And.intro ?_ (by kernel_rfl))
        refine T_cond (b := true) rfl (fun _ => ?_) (fun h => nomatch h)
        refine Ts hc (Ch.s (dB false) pa (Ch.nil (T_ret ?_)))
        exact eR [(dB false)] [] [] (.cons (.tmp 2 rfl) .nil) eA (Exp.of (congrArg D.bool a22) (.d _))
      | false =>
       try have hw7 := within_two h7
       refine ChD.skip rfl rfl (ChD.skip rfl rfl (ChD.skip rfl rfl (ChD.skip rfl rfl (ChD.skip rfl rfl (ChD.s (dB true) [] (pT rfl) (ChD.s (dB true) [] pm (ChD.skip rfl rfl ?_)))))))
       refine ChD.skip rfl rfl (ChD.skip rfl rfl (ChD.skip rfl rfl (ChD.skip rfl rfl (ChD.skip rfl rfl (ChD.skip rfl rfl (ChD.skip rfl rfl (ChD.skip rfl rfl ?_)))))))
       refine ChD.skip rfl rfl (ChD.s (dB true) [] (pT rfl) (ChD.s (dB true) [] pm (ChD.skip rfl rfl (ChD.skip rfl rfl (ChD.skip rfl rfl (ChD.skip rfl rfl (ChD.skip rfl rfl ?_)))))))
       refine ChD.skip rfl rfl (ChD.skip rfl rfl (ChD.skip rfl rfl (ChD.skip rfl rfl (ChD.skip rfl rfl (ChD.skip rfl rfl (ChD.skip rfl rfl (ChD.skip rfl rfl ?_)))))))
       refine ChD.skip rfl rfl (ChD.skip rfl rfl (ChD.s (dB true) [] (pT rfl) ?_))
       refine ChD.nil (And.intro ?_ (by kernel_rfl))
       refine T_cond (b := true) rfl (fun _ => ?_) (fun h => nomatch h)
       refine Ts hc (Ch.s (dB false) pa (Ch.nil (T_ret ?_)))
       exact eR [(dB false)] [] [] (.cons (.tmp 2 rfl) .nil) eA (Exp.of (congrArg D.bool a22) (.d _))
     ·
      try have hal := sg_arcs (x := x) (k := m) (by omega) hp1.2
      try have hen := arc_ends hal
      try have hse := steps_ends hen
      try have hsl := stepsOf_len x.arcs
      try have hdl := distF_len (n := x.codes.length) (s := 0) (by omega) hse
      refine T_exit (Tq ?_)
      refine T_regionD hc (by kernel_rfl) ?_
      refine ChD.s (.ptr 1000 1) [] (fP fld35_1 rfl) (ChD.s (.d (.slice false 1 (x.codes.map D.str))) [1000] (lP ag23 rfl rfl rfl) (ChD.s (dI (x.codes.length : Int)) [] (.pure (.len _ _ 9 rfl Tryz.underlying23 (.sh _ _) (by simp))) (ChD.s (.ptr 1000 2) [] (fP fld35_2 rfl) (ChD.s (.d (.slice false 4 (x.arcs.map Arc.d))) [1000] (lP ag33 rfl rfl rfl) (ChD.s (.row 97000) [] (.call 97000 191 _ _ _ en191 rfl (.inl rfl) (.cons (.d _) .nil) rfl (sol (solid_row (fun _ => rfl) _) rfl) (sp_impl_arcSteps x.arcs a46) (.skip _ _ .nil) rfl) (ChD.s (.row 98000) [97000] (.call 98000 190 _ _ _ en190 rfl (.inl rfl) (.cons (.d _) (.cons (.lend (.row rfl (frozs_map (fun _ => rfl) _))) (.cons (.d _) .nil))) rfl (sol (solid_row (fun _ => rfl) _) rfl) (sp_impl_distances x.codes.length (stepsOf x.arcs) 0 a46 a46 a46 (by assumption)) (.skip _ _ (.skip _ _ (.skip _ _ .nil))) rfl) (ChD.s (dB (hasI (distF x.codes.length (stepsOf x.arcs) 0) (-1))) [98000] (.call 99000 160 _ _ _ en160 rfl (.inl rfl) (.cons (.lend (.row rfl (frozs_map (fun _ => rfl) _))) (.cons (.d _) .nil)) rfl rfl (sp_Contains_int (distF x.codes.length (stepsOf x.arcs) 0) (-1) a46) (.skip _ _ (.skip _ _ .nil)) rfl) ?_)))))))
      refine ChD.s (dB (!(hasI (distF x.codes.length (stepsOf x.arcs) 0) (-1)))) [] (nT rfl) (ChD.s (dB (!(hasI (distF x.codes.length (stepsOf x.arcs) 0) (-1)))) [] pa ?_)
      refine ChD.nil (And.intro ?_ (by kernel_rfl))
      refine T_ret ?_
      exact eR [(dB (!(hasI (distF x.codes.length (stepsOf x.arcs) 0) (-1))))] [] [] (.cons (.tmp 2 rfl) .nil) eA (Exp.of (congrArg D.bool a22) (.d _))
  | false =>
   try have hw2 := within_two h2
   refine Ck (Ck (Ck (Ck (Ch.s (dB true) (pT rfl) (Ch.nil ?_)))))
   refine T_cond (b := true) rfl (fun _ => ?_) (fun h => nomatch h)
   refine Ts hc (Ch.s (dB false) pa (Ch.nil (T_ret ?_)))
   exact eR [(dB false)] [] [] (.cons (.tmp 2 rfl) .nil) eA (Exp.of (congrArg D.bool a22) (.d _))
 | false =>
  refine Ck (Ck (Ck (Ck (Ck (Ch.s (dB true) (pT rfl) (Ch.s (dB true) pm (Ch.skip rfl rfl ?_)))))))
  refine Ck (Ck (Ck (Ch.s (dB true) (pT rfl) (Ch.nil ?_))))
  refine T_cond (b := true) rfl (fun _ => ?_) (fun h => nomatch h)
  refine Ts hc (Ch.s (dB false) pa (Ch.nil (T_ret ?_)))
  exact eR [(dB false)] [] [] (.cons (.tmp 2 rfl) .nil) eA (Exp.of (congrArg D.bool a22) (.d _))

set_option maxHeartbeats 2000000 in
theorem sp_spec_l5Arc (x : Sgr) (a : Arc) (hb : x.bulk ≤ 1048576) (h8 : x.sigs.length ≤ 8) (hcl : allOf x.codes (fun u => codeN u (x.sigs.length : Int)) = true) : Sp Tryz.prog 164 [(.agg [(.slice false 2 (x.sigs.map Sgn.d)), (.slice false 1 (x.codes.map D.str)), (.slice false 4 (x.arcs.map Arc.d))]), (.agg [(.int .i64 a.src), (.int .i64 a.sig), (.bool (a.up)), (.int .i64 a.dst)])] [.any, .any] (.bool (arcB x a)) := by
 refine Sp_intro (lend := true) Tryz.func164 rfl rfl rfl (fun _ => rfl) (fun c hc hX => ?_)
 obtain ⟨hp0, hp1, hp2⟩ := Sgr.parts hb
 have hn0 := bulkF_len hp0
 have hn1 := bulk_len hp1
 have hx1 := bulk_mem hp1
 have hn2 := bulkF_len hp2; have hca := codes_at hcl
 refine Ts hc (Ch.s (.ptr 2000 0) (.box 2000 _ _ rfl (.aggD _)) (Ch.s (.ptr 3000 0) (.box 3000 _ _ rfl (.aggD _)) (Ch.s (dB false) pa (Ch.nil (Tq (Tq ?_))))))
 refine Tz hc (Ch.s (.ptr 3000 0) (fP fld125_0 rfl) (Ch.s (dI a.src) (lP ag3 rfl rfl rfl) (Ch.s (.ptr 2000 1) (fP fld35_1 rfl) (Ch.s (.d (.slice false 1 (x.codes.map D.str))) (lP ag23 rfl rfl rfl) (Ch.s (dI (x.codes.length : Int)) (.pure (.len _ _ 9 rfl Tryz.underlying23 (.sh _ _) (by simp))) (Ch.s (dI ((x.codes.length : Int) - 1)) (iX rfl rfl intV_subA) (Ch.s (dB (withinB a.src 0 ((x.codes.length : Int) - 1))) (.call 13000 89 _ _ _ en89 rfl (.inl rfl) (.cons (.d _) (.cons (.d _) (.cons (.d _) .nil))) rfl rfl (sp_spec_l1In a.src 0 ((x.codes.length : Int) - 1)) (.skip _ _ (.skip _ _ (.skip _ _ .nil))) rfl) ?_)))))))
 refine Ch.s (dB (!(withinB a.src 0 ((x.codes.length : Int) - 1)))) (nT rfl) (Ch.s (dB (!(withinB a.src 0 ((x.codes.length : Int) - 1)))) pm ?_)
 cases h1 : (withinB a.src 0 ((x.codes.length : Int) - 1)) with
 | true =>
  try have hw1 := within_two h1
  refine Ch.s (.ptr 3000 3) (fP fld125_3 rfl) (Ch.s (dI a.dst) (lP ag3 rfl rfl rfl) (Ch.s (.ptr 2000 1) (fP fld35_1 rfl) (Ch.s (.d (.slice false 1 (x.codes.map D.str))) (lP ag23 rfl rfl rfl) (Ch.s (dI (x.codes.length : Int)) (.pure (.len _ _ 9 rfl Tryz.underlying23 (.sh _ _) (by simp))) (Ch.s (dI ((x.codes.length : Int) - 1)) (iX rfl rfl intV_subA) (Ch.s (dB (withinB a.dst 0 ((x.codes.length : Int) - 1))) (.call 22000 89 _ _ _ en89 rfl (.inl rfl) (.cons (.d _) (.cons (.d _) (.cons (.d _) .nil))) rfl rfl (sp_spec_l1In a.dst 0 ((x.codes.length : Int) - 1)) (.skip _ _ (.skip _ _ (.skip _ _ .nil))) rfl) (Ch.s (dB (!(withinB a.dst 0 ((x.codes.length : Int) - 1)))) (nT rfl) ?_)))))))
  refine Ch.s (dB (!(withinB a.dst 0 ((x.codes.length : Int) - 1)))) (pF rfl) (Ch.s (dB (!(withinB a.dst 0 ((x.codes.length : Int) - 1)))) pm ?_)
  cases h2 : (withinB a.dst 0 ((x.codes.length : Int) - 1)) with
  | true =>
   try have hw2 := within_two h2
   try have hl1 := hca a.src (by omega) (by omega)
   try have hl2 := hca a.dst (by omega) (by omega)
   try have hl3 := hl1.2
   try have hl4 := hl2.2
   try unfold codeAt at hl3 hl4
   refine Ch.s (.ptr 3000 1) (fP fld125_1 rfl) (Ch.s (dI a.sig) (lP ag3 rfl rfl rfl) (Ch.s (.ptr 3000 2) (fP fld125_2 rfl) (Ch.s (dB (a.up)) (lP ag4 rfl rfl rfl) (Ch.s (.agg [(dI a.sig), (dB (a.up))]) (.build _ _ rfl stru107 (.cons (.one _ rfl) (.cons (.one _ rfl) .nil)) rfl) (Ch.s (.ptr 2000 0) (fP fld35_0 rfl) (Ch.s (.d (.slice false 2 (x.sigs.map Sgn.d))) (lP ag32 rfl rfl rfl) (Ch.s (dI (x.sigs.length : Int)) (.pure (.len _ _ 154 rfl Tryz.underlying32 (.sh _ _) (by simp))) ?_)))))))
   refine Ch.s (dB (edgeB (Lab.mk a.sig a.up) (x.sigs.length : Int))) (.call 34000 219 _ _ _ en219 rfl (.inl rfl) (.cons (.lend (.agg (.cons (.d _) (.cons (.d _) .nil)) rfl)) (.cons (.d _) .nil)) rfl rfl (sp_spec_l2Label (Lab.mk a.sig a.up) (x.sigs.length : Int) a46 a46) (.skip _ _ (.skip _ _ .nil)) rfl) (Ch.s (dB (!(edgeB (Lab.mk a.sig a.up) (x.sigs.length : Int)))) (nT rfl) (Ch.s (dB (!(edgeB (Lab.mk a.sig a.up) (x.sigs.length : Int)))) (pF rfl) (Ch.nil ?_)))
   refine T_condN (b := (edgeB (Lab.mk a.sig a.up) (x.sigs.length : Int))) rfl (fun h3 => ?_) (fun h3 => ?_)
   ·
    refine Ts hc (Ch.s (dB false) pa (Ch.nil (T_ret ?_)))
    exact eR [(dB false)] [] [] (.cons (.tmp 4 rfl) .nil) eB (Exp.of (congrArg D.bool a12) (.d _))
   ·
    refine Tk (Tq ?_)
    refine T_regionD hc (by kernel_rfl) ?_
    refine ChD.s (.ptr 2000 1) [] (fP fld35_1 rfl) (ChD.s (.d (.slice false 1 (x.codes.map D.str))) [2000] (lP ag23 rfl rfl rfl) (ChD.s (.ptr 3000 0) [] (fP fld125_0 rfl) (ChD.s (dI a.src) [3000] (lP ag3 rfl rfl rfl) (ChD.s (.d (.ref (.str (x.codes.getD ((a.src).toNat) default)))) [] (.pure (.idx _ _ _ 9 ((a.src).toNat) rfl Tryz.underlying23 sz9 rfl rfl (by omega) get_mapA)) (ChD.s (dS (x.codes.getD ((a.src).toNat) default)) [] (rF ag9 rfl rfl) (ChD.s (.ptr 2000 1) [] (fP fld35_1 rfl) (ChD.s (.d (.slice false 1 (x.codes.map D.str))) [2000] (lP ag23 rfl rfl rfl) ?_)))))))
    refine ChD.s (.ptr 3000 3) [] (fP fld125_3 rfl) (ChD.s (dI a.dst) [3000] (lP ag3 rfl rfl rfl) (ChD.s (.d (.ref (.str (x.codes.getD ((a.dst).toNat) default)))) [] (.pure (.idx _ _ _ 9 ((a.dst).toNat) rfl Tryz.underlying23 sz9 rfl rfl (by omega) get_mapA)) (ChD.s (dS (x.codes.getD ((a.dst).toNat) default)) [] (rF ag9 rfl rfl) (ChD.s (dS (x.codes.getD ((a.src).toNat) default)) [] pa (ChD.s (dS (x.codes.getD ((a.dst).toNat) default)) [] pa ?_)))))
    refine ChD.nil (And.intro ?_ (by kernel_rfl))
    refine Tq (Ts hc (Ch.s (.ptr 3000 1) (fP fld125_1 rfl) (Ch.s (dI a.sig) (lP ag3 rfl rfl rfl) (Ch.s (dB (decide (a.sig < 0))) (iX rfl rfl rfl) (Ch.nil ?_)))))
    refine T_condD (p := (a.sig < 0)) rfl (fun h4 => ?_) (fun h4 => ?_)
    ·
     try have hf4 := fit_neg (a := a) (u := codeAt x a.src) (v := codeAt x a.dst) (by omega) (by omega)
     try have hf5 := fit_pos (a := a) hl1.1 hl2.1 (by omega) (by have := edge_lt h3; omega)
     try have hlt := edge_lt h3
     refine Ts hc (Ch.s (dS (x.codes.getD ((a.src).toNat) default)) pm (Ch.s (dS (x.codes.getD ((a.dst).toNat) default)) pm (Ch.s (dB (decide ((x.codes.getD ((a.src).toNat) default) = (x.codes.getD ((a.dst).toNat) default)))) (.pure (.str _ _ _ _ _ rfl rfl rfl rfl)) (Ch.s (dB (decide ((x.codes.getD ((a.src).toNat) default) = (x.codes.getD ((a.dst).toNat) default)))) pa (Ch.nil (T_ret ?_))))))
     exact eR [(dB (decide ((x.codes.getD ((a.src).toNat) default) = (x.codes.getD ((a.dst).toNat) default))))] [] [] (.cons (.tmp 4 rfl) .nil) eB (Exp.of (congrArg D.bool a12) (.d _))
    ·
     try have hf4 := fit_neg (a := a) (u := codeAt x a.src) (v := codeAt x a.dst) (by omega) (by omega)
     try have hf5 := fit_pos (a := a) hl1.1 hl2.1 (by omega) (by have := edge_lt h3; omega)
     try have hlt := edge_lt h3
     refine Tk (Tq ?_)
     refine T_regionD hc (by kernel_rfl) ?_
     refine ChD.s (dS (x.codes.getD ((a.src).toNat) default)) [] pm (ChD.s (dS (x.codes.getD ((a.dst).toNat) default)) [] pm (ChD.s (.ptr 3000 1) [] (fP fld125_1 rfl) (ChD.s (dI a.sig) [3000] (lP ag3 rfl rfl rfl) (ChD.s (.ptr 3000 2) [] (fP fld125_2 rfl) (ChD.s (dB (a.up)) [3000] (lP ag4 rfl rfl rfl) (ChD.s (dB (!(a.up))) [] (nT rfl) (ChD.s (dS ([bitN (!(a.up))])) [] (.call 62000 214 _ _ _ en214 rfl (.inl rfl) (.cons (.d _) .nil) rfl rfl (sp_spec_l5Bit (!(a.up))) (.skip _ _ .nil) rfl) ?_)))))))
     refine ChD.s (dS ((x.codes.getD ((a.dst).toNat) default).take a.sig.toNat ++ ([bitN (!(a.up))]) ++ (x.codes.getD ((a.dst).toNat) default).drop (a.sig + 1).toNat)) [] (.call 63000 220 _ _ _ en220 rfl (.inl rfl) (.cons (.d _) (.cons (.d _) (.cons (.d _) .nil))) rfl rfl (sp_spec_l5Set (x.codes.getD ((a.dst).toNat) default) a.sig ([bitN (!(a.up))]) a26 a130 a26 a26) (.skip _ _ (.skip _ _ (.skip _ _ .nil))) rfl) (ChD.s (dB (decide ((x.codes.getD ((a.src).toNat) default) = ((x.codes.getD ((a.dst).toNat) default).take a.sig.toNat ++ ([bitN (!(a.up))]) ++ (x.codes.getD ((a.dst).toNat) default).drop (a.sig + 1).toNat)))) [] (.pure (.str _ _ _ _ _ rfl rfl rfl rfl)) (ChD.s (dB (decide ((x.codes.getD ((a.src).toNat) default) = ((x.codes.getD ((a.dst).toNat) default).take a.sig.toNat ++ ([bitN (!(a.up))]) ++ (x.codes.getD ((a.dst).toNat) default).drop (a.sig + 1).toNat)))) [] pm ?_))
     cases h5 : (decide ((x.codes.getD ((a.src).toNat) default) = ((x.codes.getD ((a.dst).toNat) default).take a.sig.toNat ++ ([bitN (!(a.up))]) ++ (x.codes.getD ((a.dst).toNat) default).drop (a.sig + 1).toNat))) with
     | true =>
      replace h5 := odt h5
      refine ChD.s (dS (x.codes.getD ((a.dst).toNat) default)) [] pm (ChD.s (dS (x.codes.getD ((a.src).toNat) default)) [] pm (ChD.s (.ptr 3000 1) [] (fP fld125_1 rfl) (ChD.s (dI a.sig) [3000] (lP ag3 rfl rfl rfl) (ChD.s (.ptr 3000 2) [] (fP fld125_2 rfl) (ChD.s (dB (a.up)) [3000] (lP ag4 rfl rfl rfl) (ChD.s (dS ([bitN (a.up)])) [] (.call 72000 214 _ _ _ en214 rfl (.inl rfl) (.cons (.d _) .nil) rfl rfl (sp_spec_l5Bit (a.up)) (.skip _ _ .nil) rfl) (ChD.s (dS ((x.codes.getD ((a.src).toNat) default).take a.sig.toNat ++ ([bitN (a.up)]) ++ (x.codes.getD ((a.src).toNat) default).drop (a.sig + 1).toNat)) [] (.call 73000 220 _ _ _ en220 rfl (.inl rfl) (.cons (.d _) (.cons (.d _) (.cons (.d _) .nil))) rfl rfl (sp_spec_l5Set (x.codes.getD ((a.src).toNat) default) a.sig ([bitN (a.up)]) a26 a130 a26 a26) (.skip _ _ (.skip _ _ (.skip _ _ .nil))) rfl) ?_)))))))
      refine ChD.s (dB (decide ((x.codes.getD ((a.dst).toNat) default) = ((x.codes.getD ((a.src).toNat) default).take a.sig.toNat ++ ([bitN (a.up)]) ++ (x.codes.getD ((a.src).toNat) default).drop (a.sig + 1).toNat)))) [] (.pure (.str _ _ _ _ _ rfl rfl rfl rfl)) (ChD.s (dB (decide ((x.codes.getD ((a.dst).toNat) default) = ((x.codes.getD ((a.src).toNat) default).take a.sig.toNat ++ ([bitN (a.up)]) ++ (x.codes.getD ((a.src).toNat) default).drop (a.sig + 1).toNat)))) [] (pT rfl) (ChD.s (dB (decide ((x.codes.getD ((a.dst).toNat) default) = ((x.codes.getD ((a.src).toNat) default).take a.sig.toNat ++ ([bitN (a.up)]) ++ (x.codes.getD ((a.src).toNat) default).drop (a.sig + 1).toNat)))) [] pa ?_))
      refine ChD.nil (And.intro ?_ (by kernel_rfl))
      refine T_ret ?_
      exact eR [(dB (decide ((x.codes.getD ((a.dst).toNat) default) = ((x.codes.getD ((a.src).toNat) default).take a.sig.toNat ++ ([bitN (a.up)]) ++ (x.codes.getD ((a.src).toNat) default).drop (a.sig + 1).toNat))))] [] [] (.cons (.tmp 4 rfl) .nil) eB (Exp.of (congrArg D.bool a12) (.d _))
     | false =>
      replace h5 := odf h5
      refine ChD.skip rfl rfl (ChD.skip rfl rfl (ChD.skip rfl rfl (ChD.skip rfl rfl (ChD.skip rfl rfl (ChD.skip rfl rfl (ChD.skip rfl rfl (ChD.skip rfl rfl ?_)))))))
      refine ChD.skip rfl rfl (ChD.s (dB false) [] (pF rfl) (ChD.s (dB false) [] pa ?_))
      refine ChD.nil (And.intro ?_ (by kernel_rfl))
      refine T_ret ?_
      exact eR [(dB false)] [] [] (.cons (.tmp 4 rfl) .nil) eB (Exp.of (congrArg D.bool a12) (.d _))
  | false =>
   try have hw2 := within_two h2
   try have hl1 := hca a.src (by omega) (by omega)
   try have hl2 := hca a.dst (by omega) (by omega)
   try have hl3 := hl1.2
   try have hl4 := hl2.2
   try unfold codeAt at hl3 hl4
   refine Ck (Ck (Ck (Ck (Ck (Ck (Ck (Ch.skip rfl rfl ?_)))))))
   refine Ck (Ck (Ch.s (dB true) (pT rfl) (Ch.nil ?_)))
   refine T_cond (b := true) rfl (fun _ => ?_) (fun h => nomatch h)
   refine Ts hc (Ch.s (dB false) pa (Ch.nil (T_ret ?_)))
   exact eR [(dB false)] [] [] (.cons (.tmp 4 rfl) .nil) eB (Exp.of (congrArg D.bool a12) (.d _))
 | false =>
  try have hw1 := within_two h1
  refine Ck (Ck (Ck (Ck (Ck (Ck (Ck (Ch.skip rfl rfl ?_)))))))
  refine Ch.s (dB true) (pT rfl) (Ch.s (dB true) pm (Ck (Ck (Ck (Ck (Ck (Ch.skip rfl rfl ?_)))))))
  refine Ck (Ck (Ck (Ck (Ch.s (dB true) (pT rfl) (Ch.nil ?_)))))
  refine T_cond (b := true) rfl (fun _ => ?_) (fun h => nomatch h)
  refine Ts hc (Ch.s (dB false) pa (Ch.nil (T_ret ?_)))
  exact eR [(dB false)] [] [] (.cons (.tmp 4 rfl) .nil) eB (Exp.of (congrArg D.bool a12) (.d _))

set_option maxHeartbeats 2000000 in
theorem sp_spec_l5All (x : Sgr) (hb : x.bulk ≤ 1048576) (hn : 1 ≤ x.codes.length) (hen : ends x.codes.length x.arcs) : Sp Tryz.prog 165 [(.agg [(.slice false 2 (x.sigs.map Sgn.d)), (.slice false 1 (x.codes.map D.str)), (.slice false 4 (x.arcs.map Arc.d))])] [.any] (.bool (!hasI (distF x.codes.length (stepsOf x.arcs) 0) (-1))) := by
 refine Sp_intro (lend := true) Tryz.func165 rfl rfl rfl (fun _ => rfl) (fun c hc hX => ?_)
 obtain ⟨hp0, hp1, hp2⟩ := Sgr.parts hb
 have hn0 := bulkF_len hp0
 have hn1 := bulk_len hp1
 have hx1 := bulk_mem hp1
 have hn2 := bulkF_len hp2
 refine Ts hc (Ch.s (.ptr 1000 0) (.box 1000 _ _ rfl (.aggD _)) (Ch.s (dB false) pa (Ch.nil (Ts hc (Ch.s (.ptr 1000 1) (fP fld35_1 rfl) ?_)))))
 refine Ch.s (.d (.slice false 1 (x.codes.map D.str))) (lP ag23 rfl rfl rfl) (Ch.s (dI (x.codes.length : Int)) (.pure (.len _ _ 9 rfl Tryz.underlying23 (.sh _ _) (by simp))) (Ch.s (.row 11000) (.make 11000 _ 4 _ _ (x.codes.length) (x.codes.length) rfl sty146 rfl rfl rfl rfl a52 a52 a52 (zeroD_mk (zd := (.bool false)) zr4 a134 rfl)) (Ch.s (.row 11000) pa (Ch.nil (Ts hc (Ch.s (.row 11000) pm ?_))))))
 refine Ch.s (.el 11000 1 0 0) (.pure (.idxRow _ _ _ 4 (0) rfl Tryz.underlying146 sz4 rfl rfl rfl rfl a96)) (Ch.s .junk (.storeEl (y' := (.bool true)) _ _ _ rfl rfl rfl (.d _) rfl sz4 rfl (by rw [List.getElem?_replicate, if_pos (by omega)]) rfl rfl) (Ch.nil (Tq (Ts hc (Ch.s (.ptr 1000 1) (fP fld35_1 rfl) (Ch.s (.d (.slice false 1 (x.codes.map D.str))) (lP ag23 rfl rfl rfl) ?_))))))
 refine Ch.s (dI (x.codes.length : Int)) (.pure (.len _ _ 9 rfl Tryz.underlying23 (.sh _ _) (by simp))) (Ch.s (dI 0) pm (Ch.nil (Tb ?_)))
 refine T_loop (ι := Nat) (fun k => { n := 46, sl := [(1, (.ptr 1000 0)), (3, (.row 3)), (16, (dI (x.codes.length : Int))), (17, (dI (k : Int)))], hp := [(3, (some (.row 1 ((metIt x k).map D.bool)))), (1000, (some (.box (vX x))))], pin := [] }) (fun k => k ≤ x.codes.length) (fun k => x.codes.length - k) ⟨0, (by omega), (Wk.ren [(3, 11000)] rfl rfl rfl rfl (ar (ar (ar (ai (vI a126) trivial)))) (ai (oR a111) (ar trivial)))⟩ (fun k hp0 => ?_)
 have hml := metIt_len x k
 refine Ts hc (Ch.s (dB (decide ((k : Int) < (x.codes.length : Int)))) (iX rfl rfl rfl) (Ch.nil (Tq ?_)))
 refine T_condD (p := ((k : Int) < (x.codes.length : Int))) rfl (fun h1 => ?_) (fun h1 => ?_)
 ·
  refine Tk (Tq (Tb (Ts hc (Ch.s (.ptr 1000 2) (fP fld35_2 rfl) (Ch.s (.d (.slice false 4 (x.arcs.map Arc.d))) (lP ag33 rfl rfl rfl) (Ch.s (dI (x.arcs.length : Int)) (.pure (.len _ _ 125 rfl Tryz.underlying33 (.sh _ _) (by simp))) ?_))))))
  refine Ch.s (dI 0) pm (Ch.nil (Tb ?_))
  refine T_loop (ι := Nat) (fun m => { n := 46, sl := [(1, (.ptr 1000 0)), (3, (.row 3)), (16, (dI (x.codes.length : Int))), (17, (dI (k : Int))), (20, (.d (.slice false 4 (x.arcs.map Arc.d)))), (21, (dI (x.arcs.length : Int))), (22, (dI (m : Int)))], hp := [(3, (some (.row 1 ((metTo x k m).map D.bool)))), (1000, (some (.box (vX x))))], pin := [] }) (fun m => m ≤ x.arcs.length) (fun m => x.arcs.length - m) ⟨0, (by omega), (Wk.of rfl rfl (ar (ar (ar (ar (ar (ar (ai (vI a126) trivial))))))) (ai (oR a74) (ar trivial)))⟩ (fun m hp1 => ?_)
  have hmt := metTo_len x k m
  refine Ts hc (Ch.s (dB (decide ((m : Int) < (x.arcs.length : Int)))) (iX rfl rfl rfl) (Ch.nil (Tq ?_)))
  refine T_condD (p := ((m : Int) < (x.arcs.length : Int))) rfl (fun h2 => ?_) (fun h2 => ?_)
  ·
   try have hee := hen _ (getD_mem (l := x.arcs) (j := m) (d := default) (by omega))
   refine Tk (Tq (Tb (Ts hc (Ch.s (.d (.ref (.agg [(.int .i64 ((x.arcs.getD m default).src)), (.int .i64 ((x.arcs.getD m default).sig)), (.bool ((x.arcs.getD m default).up)), (.int .i64 ((x.arcs.getD m default).dst))]))) (.pure (.idx _ _ _ 125 (m) rfl Tryz.underlying33 sz125 rfl rfl rfl get_mapA)) (Ch.s (.d (.agg [(.int .i64 ((x.arcs.getD m default).src)), (.int .i64 ((x.arcs.getD m default).sig)), (.bool ((x.arcs.getD m default).up)), (.int .i64 ((x.arcs.getD m default).dst))])) (.pure (.loadRefA _ _ rfl ag125 sz125 rfl)) (Ch.s (.ptr 5000 0) (.alloc 5000 _ rfl zer125) ?_))))))
   refine Ch.s .junk (.storePtr _ _ _ rfl rfl rfl (.aggD _) sz125 (lb rfl)) (Ch.nil (Ts hc (Ch.s (.row 3) pm (Ch.s (.ptr 5000 0) (fP fld125_0 rfl) (Ch.s (dI ((x.arcs.getD m default).src)) (lP ag3 rfl rfl rfl) (Ch.s (.el 3 1 ((((x.arcs.getD m default).src)).toNat) 0) (.pure (.idxRow _ _ _ 4 ((((x.arcs.getD m default).src)).toNat) rfl Tryz.underlying146 sz4 rfl rfl rfl (by omega) a96)) ?_))))))
   refine Ch.s (dB (((metTo x k m).getD ((((x.arcs.getD m default).src)).toNat) default))) (.pure (.loadEl1 _ _ rfl ag4 rfl rfl get_mapA rfl rfl rfl)) (Ch.nil ?_)
   refine T_cond (b := (((metTo x k m).getD ((((x.arcs.getD m default).src)).toNat) default))) rfl (fun h3 => ?_) (fun h3 => ?_)
   ·
    refine Tz hc (Ch.s (.row 3) pm (Ch.s (.ptr 5000 3) (fP fld125_3 rfl) (Ch.s (dI ((x.arcs.getD m default).dst)) (lP ag3 rfl rfl rfl) (Ch.s (.el 3 1 ((((x.arcs.getD m default).dst)).toNat) 0) (.pure (.idxRow _ _ _ 4 ((((x.arcs.getD m default).dst)).toNat) rfl Tryz.underlying146 sz4 rfl rfl rfl (by omega) a96)) (Ch.s .junk (.storeEl (y' := (.bool true)) _ _ _ rfl rfl rfl (.d _) rfl sz4 rfl get_mapA rfl rfl) (Ch.nil (Tz hc ?_)))))))
    refine Ch.s (dI ((m : Int) + 1)) (iX rfl rfl intV_addA) (Ch.s (dI ((m : Int) + 1)) pm (Ch.nil ?_))
    exact nx (m + 1) (by omega) (Wk.of rfl rfl (ar (ar (ar (ar (ar (ar (ai (vI a126) trivial))))))) (ai (oR a74) (ar trivial)))
   ·
    refine Tk (Tz hc (Ch.s (dI ((m : Int) + 1)) (iX rfl rfl intV_addA) (Ch.s (dI ((m : Int) + 1)) pm (Ch.nil ?_))))
    exact nx (m + 1) (by omega) (Wk.of rfl rfl (ar (ar (ar (ar (ar (ar (ai (vI a126) trivial))))))) (ai (oR a74) (ar trivial)))
  ·
   try have hee := hen _ (getD_mem (l := x.arcs) (j := m) (d := default) (by omega))
   refine T_exit (Tz hc (Ch.s (dI ((k : Int) + 1)) (iX rfl rfl intV_addA) (Ch.s (dI ((k : Int) + 1)) pm (Ch.nil ?_))))
   exact nx (k + 1) (by omega) (Wk.of rfl rfl (ar (ar (ar (ai (vI a126) trivial)))) (ai (oR a111) (ar trivial)))
 ·
  refine T_exit (Tq (Ts hc (Ch.s (.row 3) pm (Ch.s (dI ((metIt x k).length : Int)) (.pure (.len _ _ 4 rfl Tryz.underlying146 (.row rfl) (by simp))) (Ch.s (dI 0) pm (Ch.nil ?_))))))
  refine Tb ?_
  refine T_loop (ι := Nat) (fun m => { n := 46, sl := [(37, (.row 3)), (38, (dI ((metIt x k).length : Int))), (39, (dI (m : Int)))], hp := [(3, (some (.row 1 ((metIt x k).map D.bool))))], pin := [] }) (fun m => m ≤ x.codes.length ∧ ∀ j, j < m → (metIt x k).getD j default = true) (fun m => x.codes.length - m) ⟨0, ⟨by omega, fun j hj => by omega⟩, (Wk.of rfl rfl (ar (ar (ai (vI a126) trivial))) (ar trivial))⟩ (fun m hp2 => ?_)
  refine Ts hc (Ch.s (dB (decide ((m : Int) < ((metIt x k).length : Int)))) (iX rfl rfl rfl) (Ch.nil (Tq ?_)))
  refine T_condD (p := ((m : Int) < ((metIt x k).length : Int))) rfl (fun h4 => ?_) (fun h4 => ?_)
  ·
   refine Tk (Tq (Tb (Ts hc (Ch.s (.el 3 1 m 0) (.pure (.idxRow _ _ _ 4 (m) rfl Tryz.underlying146 sz4 rfl rfl rfl rfl a96)) (Ch.s (dB (((metIt x k).getD m default))) (.pure (.loadEl1 _ _ rfl ag4 rfl rfl get_mapA rfl rfl rfl)) (Ch.s (dB (((metIt x k).getD m default))) pa ?_))))))
   refine Ch.nil (Ts hc (Ch.s (dB (((metIt x k).getD m default))) pm (Ch.s (dB (!(((metIt x k).getD m default)))) (nT rfl) (Ch.nil ?_))))
   refine T_condN (b := (((metIt x k).getD m default))) rfl (fun h5 => ?_) (fun h5 => ?_)
   ·
    refine Ts hc (Ch.s (dB false) pa (Ch.nil (T_ret ?_)))
    exact eR [(dB false)] [] [] (.cons (.tmp 2 rfl) .nil) eA (Exp.of (congrArg D.bool a23) (.d _))
   ·
    refine Tk (Tz hc (Ch.s (dI ((m : Int) + 1)) (iX rfl rfl intV_addA) (Ch.s (dI ((m : Int) + 1)) pm (Ch.nil ?_))))
    exact nx (m + 1) ⟨by omega, upto_succ hp2.2 (by assumption)⟩ (Wk.of rfl rfl (ar (ar (ai (vI a126) trivial))) (ar trivial))
  ·
   refine T_exit (Ts hc (Ch.s (dB true) pa (Ch.nil (T_ret ?_))))
   exact eR [(dB true)] [] [] (.cons (.tmp 2 rfl) .nil) eA (Exp.of (congrArg D.bool a23) (.d _))

set_option maxHeartbeats 2000000 in
theorem sp_spec_l5Good (x : Sgr) (hb : x.bulk ≤ 1048576) : Sp Tryz.prog 93 [(.agg [(.slice false 2 (x.sigs.map Sgn.d)), (.slice false 1 (x.codes.map D.str)), (.slice false 4 (x.arcs.map Arc.d))])] [.any] (.bool (sgB x)) := by
 refine Sp_intro (lend := true) Tryz.func93 rfl rfl rfl (fun _ => rfl) (fun c hc hX => ?_)
 obtain ⟨hp0, hp1, hp2⟩ := Sgr.parts hb
 have hn0 := bulkF_len hp0
 have hn1 := bulk_len hp1
 have hx1 := bulk_mem hp1
 have hn2 := bulkF_len hp2
 refine Ts hc (Ch.s (.ptr 1000 0) (.box 1000 _ _ rfl (.aggD _)) (Ch.s (dB false) pa (Ch.nil (Tq (Tq (Tz hc ?_))))))
 refine Ch.s (.ptr 1000 0) (fP fld35_0 rfl) (Ch.s (.d (.slice false 2 (x.sigs.map Sgn.d))) (lP ag32 rfl rfl rfl) (Ch.s (dB (sigsB x.sigs)) (.call 9000 162 _ _ _ en162 rfl (.inl rfl) (.cons (.d _) .nil) rfl rfl (sp_spec_l2Signals x.sigs a46) (.skip _ _ .nil) rfl) (Ch.s (dB (!(sigsB x.sigs))) (nT rfl) (Ch.s (dB (!(sigsB x.sigs))) pm ?_))))
 cases h1 : (sigsB x.sigs) with
 | true =>
  try have hs8 := within_two (sigsB_len h1)
  refine Ch.s (.ptr 1000 1) (fP fld35_1 rfl) (Ch.s (.d (.slice false 1 (x.codes.map D.str))) (lP ag23 rfl rfl rfl) (Ch.s (dI (x.codes.length : Int)) (.pure (.len _ _ 9 rfl Tryz.underlying23 (.sh _ _) (by simp))) (Ch.s (dB (withinB (x.codes.length : Int) 1 300)) (.call 15000 89 _ _ _ en89 rfl (.inl rfl) (.cons (.d _) (.cons (.d _) (.cons (.d _) .nil))) rfl rfl (sp_spec_l1In (x.codes.length : Int) 1 300) (.skip _ _ (.skip _ _ (.skip _ _ .nil))) rfl) (Ch.s (dB (!(withinB (x.codes.length : Int) 1 300))) (nT rfl) (Ch.s (dB (!(withinB (x.codes.length : Int) 1 300))) (pF rfl) (Ch.s (dB (!(withinB (x.codes.length : Int) 1 300))) pm ?_))))))
  cases h2 : (withinB (x.codes.length : Int) 1 300) with
  | true =>
   try have hw2 := within_two h2
   refine Ch.s (.ptr 1000 2) (fP fld35_2 rfl) (Ch.s (.d (.slice false 4 (x.arcs.map Arc.d))) (lP ag33 rfl rfl rfl) (Ch.s (dI (x.arcs.length : Int)) (.pure (.len _ _ 125 rfl Tryz.underlying33 (.sh _ _) (by simp))) (Ch.s (dB (decide (4000 < (x.arcs.length : Int)))) (iX rfl rfl rfl) (Ch.s (dB (decide (4000 < (x.arcs.length : Int)))) (pF rfl) (Ch.nil ?_)))))
   refine T_condD (p := (4000 < (x.arcs.length : Int))) rfl (fun h3 => ?_) (fun h3 => ?_)
   ·
    refine Ts hc (Ch.s (dB false) pa (Ch.nil (T_ret ?_)))
    exact eR [(dB false)] [] [] (.cons (.tmp 2 rfl) .nil) eA (Exp.of (congrArg D.bool a15) (.d _))
   ·
    refine Tk (Tq (Ts hc (Ch.s (.ptr 1000 1) (fP fld35_1 rfl) (Ch.s (.d (.slice false 1 (x.codes.map D.str))) (lP ag23 rfl rfl rfl) (Ch.s (dI (x.codes.length : Int)) (.pure (.len _ _ 9 rfl Tryz.underlying23 (.sh _ _) (by simp))) (Ch.s (dI 0) pm ?_))))))
    refine Ch.nil (Tb ?_)
    refine T_loop (ι := Nat) (fun k => { n := 52, sl := [(1, (.ptr 1000 0)), (25, (.d (.slice false 1 (x.codes.map D.str)))), (26, (dI (x.codes.length : Int))), (27, (dI (k : Int)))], hp := [(1000, (some (.box (vX x))))], pin := [] }) (fun k => k ≤ x.codes.length ∧ ∀ j, j < k → codeN (x.codes.getD j default) (x.sigs.length : Int) = true) (fun k => x.codes.length - k) ⟨0, ⟨by omega, fun j hj => by omega⟩, (Wk.of rfl rfl (ar (ar (ar (ai (vI a126) trivial)))) (ar trivial))⟩ (fun k hp0 => ?_)
    refine Ts hc (Ch.s (dB (decide ((k : Int) < (x.codes.length : Int)))) (iX rfl rfl rfl) (Ch.nil (Tq ?_)))
    refine T_condD (p := ((k : Int) < (x.codes.length : Int))) rfl (fun h4 => ?_) (fun h4 => ?_)
    ·
     try have hcl := sg_codes (x := x) (k := k) (by omega) hp0.2
     try have hca := codes_at hcl
     refine Tk (Tq (Tb (Ts hc (Ch.s (.d (.ref (.str (x.codes.getD k default)))) (.pure (.idx _ _ _ 9 (k) rfl Tryz.underlying23 sz9 rfl rfl rfl get_mapA)) (Ch.s (dS (x.codes.getD k default)) (rF ag9 rfl rfl) (Ch.s (dS (x.codes.getD k default)) pa ?_))))))
     refine Ch.nil (Ts hc (Ch.s (dS (x.codes.getD k default)) pm (Ch.s (.ptr 1000 0) (fP fld35_0 rfl) (Ch.s (.d (.slice false 2 (x.sigs.map Sgn.d))) (lP ag32 rfl rfl rfl) (Ch.s (dI (x.sigs.length : Int)) (.pure (.len _ _ 154 rfl Tryz.underlying32 (.sh _ _) (by simp))) (Ch.s (dB (codeN (x.codes.getD k default) (x.sigs.length : Int))) (.call 35000 163 _ _ _ en163 rfl (.inl rfl) (.cons (.d _) (.cons (.d _) .nil)) rfl rfl (sp_spec_l5Code (x.codes.getD k default) (x.sigs.length : Int) a26) (.skip _ _ (.skip _ _ .nil)) rfl) ?_))))))
     refine Ch.s (dB (!(codeN (x.codes.getD k default) (x.sigs.length : Int)))) (nT rfl) (Ch.nil ?_)
     refine T_condN (b := (codeN (x.codes.getD k default) (x.sigs.length : Int))) rfl (fun h5 => ?_) (fun h5 => ?_)
     ·
      refine Ts hc (Ch.s (dB false) pa (Ch.nil (T_ret ?_)))
      exact eR [(dB false)] [] [] (.cons (.tmp 2 rfl) .nil) eA (Exp.of (congrArg D.bool a15) (.d _))
     ·
      refine Tk (Tz hc (Ch.s (dI ((k : Int) + 1)) (iX rfl rfl intV_addA) (Ch.s (dI ((k : Int) + 1)) pm (Ch.nil ?_))))
      exact nx (k + 1) ⟨by omega, upto_succ hp0.2 (by assumption)⟩ (Wk.of rfl rfl (ar (ar (ar (ai (vI a126) trivial)))) (ar trivial))
    ·
     try have hcl := sg_codes (x := x) (k := k) (by omega) hp0.2
     try have hca := codes_at hcl
     refine T_exit (Tq (Ts hc (Ch.s (.ptr 1000 2) (fP fld35_2 rfl) (Ch.s (.d (.slice false 4 (x.arcs.map Arc.d))) (lP ag33 rfl rfl rfl) (Ch.s (dI (x.arcs.length : Int)) (.pure (.len _ _ 125 rfl Tryz.underlying33 (.sh _ _) (by simp))) (Ch.s (dI 0) pm ?_))))))
     refine Ch.nil (Tb ?_)
     refine T_loop (ι := Nat) (fun m => { n := 52, sl := [(1, (.ptr 1000 0)), (39, (.d (.slice false 4 (x.arcs.map Arc.d)))), (40, (dI (x.arcs.length : Int))), (41, (dI (m : Int)))], hp := [(1000, (some (.box (vX x))))], pin := [] }) (fun m => m ≤ x.arcs.length ∧ ∀ j, j < m → arcB x (x.arcs.getD j default) = true) (fun m => x.arcs.length - m) ⟨0, ⟨by omega, fun j hj => by omega⟩, (Wk.of rfl rfl (ar (ar (ar (ai (vI a126) trivial)))) (ar trivial))⟩ (fun m hp1 => ?_)
     refine Ts hc (Ch.s (dB (decide ((m : Int) < (x.arcs.length : Int)))) (iX rfl rfl rfl) (Ch.nil (Tq ?_)))
     refine T_condD (p := ((m : Int) < (x.arcs.length : Int))) rfl (fun h6 => ?_) (fun h6 => ?_)
     ·
      try have hal := sg_arcs (x := x) (k := m) (by omega) hp1.2
      try have hen := arc_ends hal
      try have hse := steps_ends hen
      try have hsl := stepsOf_len x.arcs
      try have hdl := distF_len (n := x.codes.length) (s := 0) (by omega) hse
      refine Tk (Tq (Tb (Ts hc (Ch.s (.d (.ref (.agg [(.int .i64 ((x.arcs.getD m default).src)), (.int .i64 ((x.arcs.getD m default).sig)), (.bool ((x.arcs.getD m default).up)), (.int .i64 ((x.arcs.getD m default).dst))]))) (.pure (.idx _ _ _ 125 (m) rfl Tryz.underlying33 sz125 rfl rfl rfl get_mapA)) (Ch.s (.d (.agg [(.int .i64 ((x.arcs.getD m default).src)), (.int .i64 ((x.arcs.getD m default).sig)), (.bool ((x.arcs.getD m default).up)), (.int .i64 ((x.arcs.getD m default).dst))])) (.pure (.loadRefA _ _ rfl ag125 sz125 rfl)) (Ch.s (.ptr 6000 0) (.alloc 6000 _ rfl zer125) ?_))))))
      refine Ch.s .junk (.storePtr _ _ _ rfl rfl rfl (.aggD _) sz125 (lb rfl)) (Ch.nil (Ts hc (Ch.s (.agg (vX x)) (lA ag35 sz35 rfl rfl (lb rfl) rfl) (Ch.s (.agg [(dI ((x.arcs.getD m default).src)), (dI ((x.arcs.getD m default).sig)), (dB ((x.arcs.getD m default).up)), (dI ((x.arcs.getD m default).dst))]) (lA ag125 sz125 rfl rfl (lb rfl) rfl) (Ch.s (dB (arcB x (x.arcs.getD m default))) (.call 47000 164 _ _ _ en164 rfl (.inl rfl) (.cons lX (.cons (.lend (.agg (.cons (.d _) (.cons (.d _) (.cons (.d _) (.cons (.d _) .nil)))) rfl)) .nil)) rfl rfl (sp_spec_l5Arc x (x.arcs.getD m default) a46 a46 (by assumption)) (.skip _ _ (.skip _ _ .nil)) rfl) (Ch.s (dB (!(arcB x (x.arcs.getD m default)))) (nT rfl) ?_))))))
      refine Ch.nil ?_
      refine T_condN (b := (arcB x (x.arcs.getD m default))) rfl (fun h7 => ?_) (fun h7 => ?_)
      ·
       refine Ts hc (Ch.s (dB false) pa (Ch.nil (T_ret ?_)))
       exact eR [(dB false)] [] [] (.cons (.tmp 2 rfl) .nil) eA (Exp.of (congrArg D.bool a15) (.d _))
      ·
       refine Tk (Tz hc (Ch.s (dI ((m : Int) + 1)) (iX rfl rfl intV_addA) (Ch.s (dI ((m : Int) + 1)) pm (Ch.nil ?_))))
       exact nx (m + 1) ⟨by omega, upto_succ hp1.2 a119⟩ (Wk.of rfl rfl (ar (ar (ar (ai (vI a126) trivial)))) (ar trivial))
     ·
      try have hal := sg_arcs (x := x) (k := m) (by omega) hp1.2
      try have hen := arc_ends hal
      try have hse := steps_ends hen
      try have hsl := stepsOf_len x.arcs
      try have hdl := distF_len (n := x.codes.length) (s := 0) (by omega) hse
      refine T_exit (Ts hc (Ch.s (.agg (vX x)) (lA ag35 sz35 rfl rfl (lb rfl) rfl) (Ch.s (dB (!hasI (distF x.codes.length (stepsOf x.arcs) 0) (-1))) (.call 51000 165 _ _ _ en165 rfl (.inl rfl) (.cons lX .nil) rfl rfl (sp_spec_l5All x a46 a46 (by assumption)) (.skip _ _ .nil) rfl) (Ch.s (dB (!hasI (distF x.codes.length (stepsOf x.arcs) 0) (-1))) pa (Ch.nil (T_ret ?_))))))
      exact eR [(dB (!hasI (distF x.codes.length (stepsOf x.arcs) 0) (-1)))] [] [] (.cons (.tmp 2 rfl) .nil) eA (Exp.of (congrArg D.bool a15) (.d _))
  | false =>
   try have hw2 := within_two h2
   refine Ck (Ck (Ck (Ck (Ch.s (dB true) (pT rfl) (Ch.nil ?_)))))
   refine T_cond (b := true) rfl (fun _ => ?_) (fun h => nomatch h)
   refine Ts hc (Ch.s (dB false) pa (Ch.nil (T_ret ?_)))
   exact eR [(dB false)] [] [] (.cons (.tmp 2 rfl) .nil) eA (Exp.of (congrArg D.bool a15) (.d _))
 | false =>
  try have hs8 := within_two (sigsB_len h1)
  refine Ck (Ck (Ck (Ck (Ck (Ch.s (dB true) (pT rfl) (Ch.s (dB true) pm (Ch.skip rfl rfl ?_)))))))
  refine Ck (Ck (Ck (Ch.s (dB true) (pT rfl) (Ch.nil ?_))))
  refine T_cond (b := true) rfl (fun _ => ?_) (fun h => nomatch h)
  refine Ts hc (Ch.s (dB false) pa (Ch.nil (T_ret ?_)))
  exact eR [(dB false)] [] [] (.cons (.tmp 2 rfl) .nil) eA (Exp.of (congrArg D.bool a15) (.d _))

theorem en76 : Enters Tryz.prog 76 := ⟨_, Tryz.func76, by kernel_rfl, rfl⟩

theorem en30 : Enters Tryz.prog 30 := ⟨_, Tryz.func30, by kernel_rfl, rfl⟩

theorem en77 : Enters Tryz.prog 77 := ⟨_, Tryz.func77, by kernel_rfl, rfl⟩

theorem en120 : Enters Tryz.prog 120 := ⟨_, Tryz.func120, by kernel_rfl, rfl⟩

theorem en208 : Enters Tryz.prog 208 := ⟨_, Tryz.func208, by kernel_rfl, rfl⟩

theorem en207 : Enters Tryz.prog 207 := ⟨_, Tryz.func207, by kernel_rfl, rfl⟩

theorem sp_laws_markSignalS (xs : List Sgn) (k : Nat) (hn : xs.length ≤ 1048576) (hk : k ≤ 2097152) : Sp Tryz.prog 76 [(.slice true 2 (xs.map Sgn.d)), (.int .i64 (k : Int))] [.any, .any] (.int .i64 ((k + 2 * xs.length : Nat) : Int)) := by
 refine Sp_intro (lend := false) Tryz.func76 rfl rfl rfl (fun h => nomatch h) (fun c hc hX => ?_)
 refine Ts hc (Ch.s (dI 0) pa (Ch.nil (Tq (Ts hc (Ch.s (dI 0) pa ?_)))))
 refine Ch.nil (Tb ?_)
 refine T_loop (ι := Nat × List Sgn) (fun p => { n := 28, sl := [(0, (.row 1)), (1, (dI ((k + 2 * p.1 : Nat) : Int))), (5, (dI (p.1 : Int)))], hp := [(1, (some (.row 2 (p.2.map Sgn.d))))], pin := [1] }) (fun p => p.1 ≤ xs.length ∧ p.2.length = xs.length) (fun p => xs.length - p.1) ⟨(0, xs), ⟨by dsimp only; omega, rfl⟩, (Wk.of rfl rfl (ar (ai (vI a126) (ai (vI a126) trivial))) (ai (oR a49) trivial))⟩ (fun p hp0 => ?_)
 have hql := hp0.2
 refine Tq (Ts hc (Ch.s (dI (p.1 : Int)) pm (Ch.s (.row 1) pm (Ch.s (dI (p.2.length : Int)) (.pure (.len _ _ 154 rfl Tryz.underlying32 (.row rfl) (by simp))) (Ch.s (dB (decide ((p.1 : Int) < (p.2.length : Int)))) (iX rfl rfl rfl) (Ch.nil ?_))))))
 refine T_condD (p := ((p.1 : Int) < (p.2.length : Int))) rfl (fun h1 => ?_) (fun h1 => ?_)
 ·
  refine Tk (Tq (Tb (Ts hc (Ch.s (.row 1) pm (Ch.s (dI (p.1 : Int)) pm (Ch.s (dI ((k + 2 * p.1 : Nat) : Int)) pm ?_))))))
  refine Ch.s (dS (mtext (k + 2 * p.1))) (.call 15000 84 _ _ _ en84 rfl (.inl rfl) (.cons (.d _) .nil) rfl rfl (sp_laws_markText (k + 2 * p.1) a26) (.skip _ _ .nil) rfl) (Ch.s (.el 1 2 p.1 0) (.pure (.idxRow _ _ _ 154 (p.1) rfl Tryz.underlying32 sz154 rfl rfl rfl rfl a96)) (Ch.s (.el 1 2 p.1 0) (.pure (.fldEl _ _ _ rfl fld154_0 rfl)) (Ch.s .junk (.storeEl (y' := (.agg [(.str (mtext (k + 2 * p.1))), (.int .i64 ((p.2.getD p.1 default).kind))])) _ _ _ rfl rfl rfl (.d _) rfl sz9 rfl get_mapA rfl rfl) (Ch.nil (Ts hc (Ch.s (dI ((k + 2 * p.1 : Nat) : Int)) pm ?_))))))
  refine Ch.s (dI (((k + 2 * p.1 : Nat) : Int) + 1)) (iX rfl rfl intV_addA) (Ch.s (dI (((k + 2 * p.1 : Nat) : Int) + 1)) pa (Ch.nil (Ts hc (Ch.s (.row 1) pm (Ch.s (dI (p.1 : Int)) pm (Ch.s (dI (((k + 2 * p.1 : Nat) : Int) + 1)) pm ?_))))))
  refine Ch.s (.el 1 2 p.1 0) (.pure (.idxRow _ _ _ 154 (p.1) rfl Tryz.underlying32 sz154 rfl rfl rfl rfl a96)) (Ch.s (.el 1 2 p.1 1) (.pure (.fldEl _ _ _ rfl fld154_1 rfl)) (Ch.s .junk (.storeEl (y' := (.agg [(.str (mtext (k + 2 * p.1))), (.int .i64 (((k + 2 * p.1 : Nat) : Int) + 1))])) _ _ _ rfl rfl rfl (.d _) rfl sz3 rfl (get_set a96) rfl rfl) (Ch.nil (Tz hc (Ch.s (dI (((k + 2 * p.1 : Nat) : Int) + 1)) pm (Ch.s (dI ((((k + 2 * p.1 : Nat) : Int) + 1) + 1)) (iX rfl rfl intV_addA) (Ch.s (dI ((((k + 2 * p.1 : Nat) : Int) + 1) + 1)) pa ?_)))))))
  refine Ch.nil (Tz hc (Ch.s (dI (p.1 : Int)) pm (Ch.s (dI ((p.1 : Int) + 1)) (iX rfl rfl intV_addA) (Ch.s (dI ((p.1 : Int) + 1)) pa (Ch.nil ?_)))))
  exact nx (p.1 + 1, p.2.set p.1 (Sgn.mk (mtext (k + 2 * p.1)) ((k + 2 * p.1 + 1 : Nat) : Int))) ⟨by dsimp only; omega, by dsimp only; rw [List.length_set]; exact hp0.2⟩ (Wk.of rfl rfl (ar (ai (vI a126) (ai (vI a126) trivial))) (ai (oR a49) trivial))
 ·
  refine T_exit (Ts hc (Ch.s (dI ((k + 2 * p.1 : Nat) : Int)) pm (Ch.s (dI ((k + 2 * p.1 : Nat) : Int)) pa (Ch.nil (T_ret ?_)))))
  exact eR [(dI ((k + 2 * p.1 : Nat) : Int))] [] [] (.cons (.tmp 4 rfl) .nil) eB (Exp.of (congrArg (D.int .i64) (by omega)) (.d _))

theorem sp_laws_markArcS (xs : List Arc) (k : Nat) (hn : xs.length ≤ 1048576) (hk : k ≤ 4194304) : Sp Tryz.prog 77 [(.slice true 4 (xs.map Arc.d)), (.int .i64 (k : Int))] [.any, .any] (.int .i64 ((k + 4 * xs.length : Nat) : Int)) := by
 refine Sp_intro (lend := false) Tryz.func77 rfl rfl rfl (fun h => nomatch h) (fun c hc hX => ?_)
 refine Ts hc (Ch.s (dI 0) pa (Ch.nil (Tq (Ts hc (Ch.s (dI 0) pa ?_)))))
 refine Ch.nil (Tb ?_)
 refine T_loop (ι := Nat × List Arc) (fun p => { n := 43, sl := [(0, (.row 1)), (1, (dI ((k + 4 * p.1 : Nat) : Int))), (5, (dI (p.1 : Int)))], hp := [(1, (some (.row 4 (p.2.map Arc.d))))], pin := [1] }) (fun p => p.1 ≤ xs.length ∧ p.2.length = xs.length) (fun p => xs.length - p.1) ⟨(0, xs), ⟨by dsimp only; omega, rfl⟩, (Wk.of rfl rfl (ar (ai (vI a126) (ai (vI a126) trivial))) (ai (oR a49) trivial))⟩ (fun p hp0 => ?_)
 have hql := hp0.2
 refine Tq (Ts hc (Ch.s (dI (p.1 : Int)) pm (Ch.s (.row 1) pm (Ch.s (dI (p.2.length : Int)) (.pure (.len _ _ 125 rfl Tryz.underlying33 (.row rfl) (by simp))) (Ch.s (dB (decide ((p.1 : Int) < (p.2.length : Int)))) (iX rfl rfl rfl) (Ch.nil ?_))))))
 refine T_condD (p := ((p.1 : Int) < (p.2.length : Int))) rfl (fun h1 => ?_) (fun h1 => ?_)
 ·
  refine Tk (Tq (Tb (Ts hc (Ch.s (.row 1) pm (Ch.s (dI (p.1 : Int)) pm (Ch.s (dI ((k + 4 * p.1 : Nat) : Int)) pm ?_))))))
  refine Ch.s (.el 1 4 p.1 0) (.pure (.idxRow _ _ _ 125 (p.1) rfl Tryz.underlying33 sz125 rfl rfl rfl rfl a96)) (Ch.s (.el 1 4 p.1 0) (.pure (.fldEl _ _ _ rfl fld125_0 rfl)) (Ch.s .junk (.storeEl (y' := (.agg [(.int .i64 ((k + 4 * p.1 : Nat) : Int)), (.int .i64 ((p.2.getD p.1 default).sig)), (.bool ((p.2.getD p.1 default).up)), (.int .i64 ((p.2.getD p.1 default).dst))])) _ _ _ rfl rfl rfl (.d _) rfl sz3 rfl get_mapA rfl rfl) (Ch.nil (Ts hc (Ch.s (dI ((k + 4 * p.1 : Nat) : Int)) pm (Ch.s (dI (((k + 4 * p.1 : Nat) : Int) + 1)) (iX rfl rfl intV_addA) ?_))))))
  refine Ch.s (dI (((k + 4 * p.1 : Nat) : Int) + 1)) pa (Ch.nil (Ts hc (Ch.s (.row 1) pm (Ch.s (dI (p.1 : Int)) pm (Ch.s (dI (((k + 4 * p.1 : Nat) : Int) + 1)) pm (Ch.s (.el 1 4 p.1 0) (.pure (.idxRow _ _ _ 125 (p.1) rfl Tryz.underlying33 sz125 rfl rfl rfl rfl a96)) ?_))))))
  refine Ch.s (.el 1 4 p.1 1) (.pure (.fldEl _ _ _ rfl fld125_1 rfl)) (Ch.s .junk (.storeEl (y' := (.agg [(.int .i64 ((k + 4 * p.1 : Nat) : Int)), (.int .i64 (((k + 4 * p.1 : Nat) : Int) + 1)), (.bool ((p.2.getD p.1 default).up)), (.int .i64 ((p.2.getD p.1 default).dst))])) _ _ _ rfl rfl rfl (.d _) rfl sz3 rfl (get_set a96) rfl rfl) (Ch.nil (Ts hc (Ch.s (dI (((k + 4 * p.1 : Nat) : Int) + 1)) pm (Ch.s (dI ((((k + 4 * p.1 : Nat) : Int) + 1) + 1)) (iX rfl rfl intV_addA) (Ch.s (dI ((((k + 4 * p.1 : Nat) : Int) + 1) + 1)) pa ?_))))))
  refine Ch.nil (Ts hc (Ch.s (.row 1) pm (Ch.s (dI (p.1 : Int)) pm (Ch.s (dI ((((k + 4 * p.1 : Nat) : Int) + 1) + 1)) pm ?_))))
  refine Ch.step (v := (dI ((((k + 4 * p.1 + 1) + 1) % 3 : Nat) : Int))) rfl (iX rfl rfl (remN (n := ((k + 4 * p.1 + 1) + 1)) (d := 3) (by omega) rfl (by decide))) rfl rfl ?_
  refine Ch.s (dB (decide (((((k + 4 * p.1 + 1) + 1) % 3 : Nat) : Int) = 0))) (iX rfl rfl rfl) (Ch.s (.el 1 4 p.1 0) (.pure (.idxRow _ _ _ 125 (p.1) rfl Tryz.underlying33 sz125 rfl rfl rfl rfl a96)) (Ch.s (.el 1 4 p.1 2) (.pure (.fldEl _ _ _ rfl fld125_2 rfl)) (Ch.s .junk (.storeEl (y' := (.agg [(.int .i64 ((k + 4 * p.1 : Nat) : Int)), (.int .i64 (((k + 4 * p.1 : Nat) : Int) + 1)), (.bool (decide (((((k + 4 * p.1 + 1) + 1) % 3 : Nat) : Int) = 0))), (.int .i64 ((p.2.getD p.1 default).dst))])) _ _ _ rfl rfl rfl (.d _) rfl sz4 rfl (get_set a96) rfl rfl) (Ch.nil (Ts hc (Ch.s (dI ((((k + 4 * p.1 : Nat) : Int) + 1) + 1)) pm ?_))))))
  refine Ch.s (dI (((((k + 4 * p.1 : Nat) : Int) + 1) + 1) + 1)) (iX rfl rfl intV_addA) (Ch.s (dI (((((k + 4 * p.1 : Nat) : Int) + 1) + 1) + 1)) pa (Ch.nil (Ts hc (Ch.s (.row 1) pm (Ch.s (dI (p.1 : Int)) pm (Ch.s (dI (((((k + 4 * p.1 : Nat) : Int) + 1) + 1) + 1)) pm ?_))))))
  refine Ch.s (.el 1 4 p.1 0) (.pure (.idxRow _ _ _ 125 (p.1) rfl Tryz.underlying33 sz125 rfl rfl rfl rfl a96)) (Ch.s (.el 1 4 p.1 3) (.pure (.fldEl _ _ _ rfl fld125_3 rfl)) (Ch.s .junk (.storeEl (y' := (.agg [(.int .i64 ((k + 4 * p.1 : Nat) : Int)), (.int .i64 (((k + 4 * p.1 : Nat) : Int) + 1)), (.bool (decide (((((k + 4 * p.1 + 1) + 1) % 3 : Nat) : Int) = 0))), (.int .i64 (((((k + 4 * p.1 : Nat) : Int) + 1) + 1) + 1))])) _ _ _ rfl rfl rfl (.d _) rfl sz3 rfl (get_set a96) rfl rfl) (Ch.nil (Tz hc (Ch.s (dI (((((k + 4 * p.1 : Nat) : Int) + 1) + 1) + 1)) pm (Ch.s (dI ((((((k + 4 * p.1 : Nat) : Int) + 1) + 1) + 1) + 1)) (iX rfl rfl intV_addA) (Ch.s (dI ((((((k + 4 * p.1 : Nat) : Int) + 1) + 1) + 1) + 1)) pa ?_)))))))
  refine Ch.nil (Tz hc (Ch.s (dI (p.1 : Int)) pm (Ch.s (dI ((p.1 : Int) + 1)) (iX rfl rfl intV_addA) (Ch.s (dI ((p.1 : Int) + 1)) pa (Ch.nil ?_)))))
  exact nx (p.1 + 1, p.2.set p.1 (Arc.mk ((k + 4 * p.1 : Nat) : Int) ((k + 4 * p.1 + 1 : Nat) : Int) (decide ((((k + 4 * p.1 + 1 + 1) % 3 : Nat) : Int) = 0)) ((k + 4 * p.1 + 1 + 1 + 1 : Nat) : Int))) ⟨by dsimp only; omega, by dsimp only; rw [List.length_set]; exact hp0.2⟩ (Wk.of rfl rfl (ar (ai (vI a126) (ai (vI a126) trivial))) (ai (oR a49) trivial))
 ·
  refine T_exit (Ts hc (Ch.s (dI ((k + 4 * p.1 : Nat) : Int)) pm (Ch.s (dI ((k + 4 * p.1 : Nat) : Int)) pa (Ch.nil (T_ret ?_)))))
  exact eR [(dI ((k + 4 * p.1 : Nat) : Int))] [] [] (.cons (.tmp 4 rfl) .nil) eB (Exp.of (congrArg (D.int .i64) (by omega)) (.d _))

theorem sp_laws_markStateGraph (x : Sgr) (k : Nat) (hb : x.bulk ≤ 1048576) (hk : k ≤ 1) : Sp Tryz.prog 22 [(.agg [(.slice true 2 (x.sigs.map Sgn.d)), (.slice true 1 (x.codes.map D.str)), (.slice true 4 (x.arcs.map Arc.d))]), (.int .i64 (k : Int))] [.any, .any] (.int .i64 ((k + 2 * x.sigs.length + x.codes.length + 4 * x.arcs.length : Nat) : Int)) := by
 refine Sp_intro (lend := false) Tryz.func22 rfl rfl rfl (fun h => nomatch h) (fun c hc hX => ?_)
 obtain ⟨hp0, hp1, hp2⟩ := Sgr.parts hb
 have hn0 := bulkF_len hp0
 have hn1 := bulk_len hp1
 have hx1 := bulk_mem hp1
 have hn2 := bulkF_len hp2
 refine Ts hc (Ch.s (.ptr 2000 0) (.box 2000 _ _ rfl (.agg _ rfl)) (Ch.s (dI 0) pa (Ch.nil (Ts hc (Ch.s (.ptr 2000 0) (fP fld35_0 rfl) ?_)))))
 refine Ch.s (.row 1) (lP ag32 rfl rfl rfl) (Ch.s (dI (k : Int)) pm (Ch.s (dI ((k + 2 * x.sigs.length : Nat) : Int)) (.call 8000 76 _ _ _ en76 rfl (.inl rfl) (.cons (.row rfl) (.cons (.d _) .nil)) rfl rfl (sp_laws_markSignalS x.sigs k a46 a46) (.skip _ _ (.skip _ _ .nil)) rfl) (Ch.s (dI ((k + 2 * x.sigs.length : Nat) : Int)) pa (Ch.nil (Ts hc (Ch.s (.ptr 2000 1) (fP fld35_1 rfl) ?_))))))
 refine Ch.s (.row 2) (lP ag23 rfl rfl rfl) (Ch.s (dI ((k + 2 * x.sigs.length : Nat) : Int)) pm ?_)
 refine Ch.step (v := (dI (((k + 2 * x.sigs.length) + x.codes.length : Nat) : Int))) rfl (.call 12000 30 _ _ _ en30 rfl (.inl rfl) (.cons (.row rfl) (.cons (.d _) .nil)) rfl (sol rfl (solids_c (solid_row (fun _ => rfl) _) rfl)) (sp_laws_markStringS x.codes (k + 2 * x.sigs.length) a26 a26) (.row _ _ _ (.skip _ _ .nil)) rfl) rfl rfl ?_
 refine Ch.s (dI (((k + 2 * x.sigs.length) + x.codes.length : Nat) : Int)) pa (Ch.nil (Ts hc (Ch.s (.ptr 2000 2) (fP fld35_2 rfl) (Ch.s (.row 3) (lP ag33 rfl rfl rfl) (Ch.s (dI (((k + 2 * x.sigs.length) + x.codes.length : Nat) : Int)) pm (Ch.s (dI ((((k + 2 * x.sigs.length) + x.codes.length) + 4 * x.arcs.length : Nat) : Int)) (.call 16000 77 _ _ _ en77 rfl (.inl rfl) (.cons (.row rfl) (.cons (.d _) .nil)) rfl rfl (sp_laws_markArcS x.arcs ((k + 2 * x.sigs.length) + x.codes.length) a46 a46) (.skip _ _ (.skip _ _ .nil)) rfl) ?_))))))
 refine Ch.s (dI ((((k + 2 * x.sigs.length) + x.codes.length) + 4 * x.arcs.length : Nat) : Int)) pa (Ch.nil (Ts hc (Ch.s (dI ((((k + 2 * x.sigs.length) + x.codes.length) + 4 * x.arcs.length : Nat) : Int)) pm (Ch.s (dI ((((k + 2 * x.sigs.length) + x.codes.length) + 4 * x.arcs.length : Nat) : Int)) pa (Ch.nil (T_ret ?_))))))
 exact eR [(dI ((((k + 2 * x.sigs.length) + x.codes.length) + 4 * x.arcs.length : Nat) : Int))] [] [] (.cons (.tmp 4 rfl) .nil) eB (Exp.of (congrArg (D.int .i64) (by omega)) (.d _))

structure SgOk (x : Sgr) : Prop where
 sigs : sigsB x.sigs = true
 eight : 1 ≤ x.sigs.length ∧ x.sigs.length ≤ 8
 len : 1 ≤ x.codes.length ∧ x.codes.length ≤ 300
 few : x.arcs.length ≤ 4000
 codes : allOf x.codes (fun u => codeN u (x.sigs.length : Int)) = true
 arcs : allOf x.arcs (arcB x) = true
 ends : ends x.codes.length x.arcs

theorem sg_has {x : Sgr} (h : sgB x = true) : SgOk x := by
 unfold sgB at h
 simp only [Bool.and_eq_true] at h
 obtain ⟨h1, h2, h3, h4, h5, _⟩ := h
 have h6 := within_two h2
 have h7 := within_two (sigsB_len h1)
 have h8 : ¬ (4000 : Int) < (x.arcs.length : Int) := by simpa using h3
 exact ⟨h1, by omega, by omega, by omega, h4, h5, arc_ends h5⟩

theorem SgOk.sig {x : Sgr} (h : SgOk x) : ∀ a ∈ x.arcs, a.sig < (x.sigs.length : Int) ∧ (0 ≤ a.sig ∨ a.sig = -1) := by
  intro a ha
  obtain ⟨j, hj, rfl⟩ := List.mem_iff_getElem.1 ha
  have := allB_true.1 h.arcs j hj
  rw [show x.arcs.getD j default = x.arcs[j] by simp [hj]] at this
  unfold arcB at this
  simp only [Bool.and_eq_true] at this
  have h2 := this.2.2.1
  unfold edgeB at h2
  simp only [Bool.or_eq_true, Bool.and_eq_true, decide_eq_true_iff] at h2
  have h8 := h.eight
  rcases h2 with h2 | h2
  · have := within_two h2
    omega
  · have := h2.1
    omega

def hasSigB (x : Sgr) (sig : Int) : Bool := sgB x && withinB sig 0 ((x.sigs.length : Int) - 1)

theorem has_sig {x : Sgr} {sig : Int} (h : hasSigB x sig = true) : sgB x = true ∧ (0 ≤ sig ∧ sig.toNat < x.sigs.length) := by
 unfold hasSigB at h
 rw [Bool.and_eq_true] at h
 have := within_two h.2
 exact ⟨h.1, by omega, by omega⟩

def isArc (k sig : Int) (a : Arc) : Bool := decide (a.src = k) && decide (a.sig = sig)

def excB (x : Sgr) (k sig : Int) : Bool := x.arcs.any (isArc k sig)

theorem sp_impl_hasSignal (x : Sgr) (sig : Int) (hb : x.bulk ≤ 1048576) : Sp Tryz.prog 206 [(.agg [(.slice false 2 (x.sigs.map Sgn.d)), (.slice false 1 (x.codes.map D.str)), (.slice false 4 (x.arcs.map Arc.d))]), (.int .i64 sig)] [.any, .any] (.bool (hasSigB x sig)) := by
 refine Sp_intro (lend := true) Tryz.func206 rfl rfl rfl (fun _ => rfl) (fun c hc hX => ?_)
 obtain ⟨hp0, hp1, hp2⟩ := Sgr.parts hb
 have hn0 := bulkF_len hp0
 have hn1 := bulk_len hp1
 have hx1 := bulk_mem hp1
 have hn2 := bulkF_len hp2
 refine Ts hc (Ch.s (.ptr 2000 0) (.box 2000 _ _ rfl (.aggD _)) (Ch.s (dB false) pa (Ch.nil (Ts hc (Ch.s (.agg (vX x)) (lA ag35 sz35 rfl rfl (lb rfl) rfl) ?_)))))
 refine Ch.s (dB (sgB x)) (.call 6000 120 _ _ _ en120 rfl (.inl rfl) (.cons lX .nil) rfl rfl (sp_impl_IsValidStateGraph x a46) (.skip _ _ .nil) rfl) (Ch.s (dB (sgB x)) pm ?_)
 cases h1 : (sgB x) with
 | true =>
  refine Ch.s (dI sig) pm (Ch.s (.ptr 2000 0) (fP fld35_0 rfl) (Ch.s (.d (.slice false 2 (x.sigs.map Sgn.d))) (lP ag32 rfl rfl rfl) (Ch.s (dI (x.sigs.length : Int)) (.pure (.len _ _ 154 rfl Tryz.underlying32 (.sh _ _) (by simp))) (Ch.s (dI ((x.sigs.length : Int) - 1)) (iX rfl rfl intV_subA) (Ch.s (dB (withinB sig 0 ((x.sigs.length : Int) - 1))) (.call 13000 91 _ _ _ en91 rfl (.inl rfl) (.cons (.d _) (.cons (.d _) (.cons (.d _) .nil))) rfl rfl (sp_impl_within sig 0 ((x.sigs.length : Int) - 1)) (.skip _ _ (.skip _ _ (.skip _ _ .nil))) rfl) (Ch.s (dB (withinB sig 0 ((x.sigs.length : Int) - 1))) (pT rfl) (Ch.s (dB (withinB sig 0 ((x.sigs.length : Int) - 1))) pa ?_)))))))
  refine Ch.nil (T_ret ?_)
  exact eR [(dB (withinB sig 0 ((x.sigs.length : Int) - 1)))] [] [] (.cons (.tmp 4 rfl) .nil) eB (Exp.of (congrArg D.bool a116) (.d _))
 | false =>
  refine Ck (Ck (Ck (Ck (Ck (Ck (Ch.s (dB false) (pF rfl) (Ch.s (dB false) pa ?_)))))))
  refine Ch.nil (T_ret ?_)
  exact eR [(dB false)] [] [] (.cons (.tmp 4 rfl) .nil) eB (Exp.of (congrArg D.bool a116) (.d _))

theorem sp_impl_isExcited_1 (a : Arc) (k sig : Int) : Sp Tryz.prog 208 [(.agg [(.int .i64 a.src), (.int .i64 a.sig), (.bool (a.up)), (.int .i64 a.dst)]), (.ref (.int .i64 k)), (.ref (.int .i64 sig))] [.any, .any, .any] (.bool (isArc k sig a)) := by
 refine Sp_intro (lend := true) Tryz.func208 rfl rfl rfl (fun _ => rfl) (fun c hc hX => ?_)
 refine Ts hc (Ch.s (.ptr 3000 0) (.box 3000 _ _ rfl (.aggD _)) (Ch.s (dB false) pa (Ch.nil (Ts hc (Ch.s (.ptr 3000 0) (fP fld125_0 rfl) ?_)))))
 refine Ch.s (dI a.src) (lP ag3 rfl rfl rfl) (Ch.s (dI k) (rF ag3 rfl rfl) (Ch.s (dB (decide (a.src = k))) (iX rfl rfl rfl) (Ch.s (dB (decide (a.src = k))) pm ?_)))
 cases h1 : (decide (a.src = k)) with
 | true =>
  replace h1 := odt h1
  refine Ch.s (.ptr 3000 1) (fP fld125_1 rfl) (Ch.s (dI a.sig) (lP ag3 rfl rfl rfl) (Ch.s (dI sig) (rF ag3 rfl rfl) (Ch.s (dB (decide (a.sig = sig))) (iX rfl rfl rfl) (Ch.s (dB (decide (a.sig = sig))) (pT rfl) (Ch.s (dB (decide (a.sig = sig))) pa (Ch.nil (T_ret ?_)))))))
  exact eR [(dB (decide (a.sig = sig)))] [] [] (.cons (.tmp 4 rfl) .nil) eC (Exp.of (congrArg D.bool a19) (.d _))
 | false =>
  replace h1 := odf h1
  refine Ck (Ck (Ck (Ck (Ch.s (dB false) (pF rfl) (Ch.s (dB false) pa (Ch.nil (T_ret ?_)))))))
  exact eR [(dB false)] [] [] (.cons (.tmp 4 rfl) .nil) eC (Exp.of (congrArg D.bool a19) (.d _))

theorem sp_impl_isExcited (x : Sgr) (k sig : Int) (hb : x.bulk ≤ 1048576) : Sp Tryz.prog 141 [(.agg [(.slice false 2 (x.sigs.map Sgn.d)), (.slice false 1 (x.codes.map D.str)), (.slice false 4 (x.arcs.map Arc.d))]), (.int .i64 k), (.int .i64 sig)] [.any, .any, .any] (.bool (excB x k sig)) := by
 refine Sp_intro (lend := true) Tryz.func141 rfl rfl rfl (fun _ => rfl) (fun c hc hX => ?_)
 obtain ⟨hp0, hp1, hp2⟩ := Sgr.parts hb
 have hn0 := bulkF_len hp0
 have hn1 := bulk_len hp1
 have hx1 := bulk_mem hp1
 have hn2 := bulkF_len hp2
 refine Ts hc (Ch.s (.ptr 3000 0) (.box 3000 _ _ rfl (.aggD _)) (Ch.s (.ptr 4000 0) (.box 4000 _ _ rfl (.one _ rfl)) (Ch.s (.ptr 5000 0) (.box 5000 _ _ rfl (.one _ rfl)) (Ch.s (dB false) pa (Ch.nil (Tq ?_))))))
 refine Tz hc (Ch.s (.ptr 3000 2) (fP fld35_2 rfl) (Ch.s (.d (.slice false 4 (x.arcs.map Arc.d))) (lP ag33 rfl rfl rfl) (Ch.s (.fn 208 [(.ptr 4000 0), (.ptr 5000 0)]) (.pure (.func _ _ rfl rfl)) (Ch.s (dB (x.arcs.any (isArc k sig))) (.call 10000 207 _ _ _ en207 rfl (.inl rfl) (.cons (.d _) (.cons (.lend (.fn (.cons (.ptr rfl (.one (.d _) rfl)) (.cons (.ptr rfl (.one (.d _) rfl)) .nil)))) .nil)) rfl rfl (sp_ContainsFunc_arc x.arcs 208 [(.ref (.int .i64 k)), (.ref (.int .i64 sig))] (isArc k sig) en208 (fun a ha => sp_impl_isExcited_1 a k sig) a26) (.skip _ _ (.skip _ _ .nil)) rfl) (Ch.s (dB (x.arcs.any (isArc k sig))) pa (Ch.nil (T_ret ?_)))))))
 exact eR [(dB (x.arcs.any (isArc k sig)))] [] [] (.cons (.tmp 6 rfl) .nil) eC (Exp.of (congrArg D.bool (by rfl)) (.d _))

theorem sp_spec_l5Excited (x : Sgr) (k sig : Int) (hb : x.bulk ≤ 1048576) : Sp Tryz.prog 158 [(.agg [(.slice false 2 (x.sigs.map Sgn.d)), (.slice false 1 (x.codes.map D.str)), (.slice false 4 (x.arcs.map Arc.d))]), (.int .i64 k), (.int .i64 sig)] [.any, .any, .any] (.bool (excB x k sig)) := by
 refine Sp_intro (lend := true) Tryz.func158 rfl rfl rfl (fun _ => rfl) (fun c hc hX => ?_)
 obtain ⟨hp0, hp1, hp2⟩ := Sgr.parts hb
 have hn0 := bulkF_len hp0
 have hn1 := bulk_len hp1
 have hx1 := bulk_mem hp1
 have hn2 := bulkF_len hp2
 refine Ts hc (Ch.s (.ptr 3000 0) (.box 3000 _ _ rfl (.aggD _)) (Ch.s (dB false) pa (Ch.nil (Tq (Tq (Tz hc ?_))))))
 refine Ch.s (.ptr 3000 2) (fP fld35_2 rfl) (Ch.s (.d (.slice false 4 (x.arcs.map Arc.d))) (lP ag33 rfl rfl rfl) (Ch.s (dI (x.arcs.length : Int)) (.pure (.len _ _ 125 rfl Tryz.underlying33 (.sh _ _) (by simp))) (Ch.s (dI 0) pm (Ch.nil (Tb ?_)))))
 refine T_loop (ι := Nat) (fun m => { n := 27, sl := [(1, (dI k)), (2, (dI sig)), (10, (.d (.slice false 4 (x.arcs.map Arc.d)))), (11, (dI (x.arcs.length : Int))), (12, (dI (m : Int)))], hp := [], pin := [] }) (fun m => m ≤ x.arcs.length ∧ ∀ j, j < m → isArc k sig (x.arcs.getD j default) = false) (fun m => x.arcs.length - m) ⟨0, ⟨by omega, fun j hj => by omega⟩, (Wk.of rfl rfl (ar (ar (ar (ar (ai (vI a126) trivial))))) trivial)⟩ (fun m hp0 => ?_)
 refine Ts hc (Ch.s (dB (decide ((m : Int) < (x.arcs.length : Int)))) (iX rfl rfl rfl) (Ch.nil (Tq ?_)))
 refine T_condD (p := ((m : Int) < (x.arcs.length : Int))) rfl (fun h1 => ?_) (fun h1 => ?_)
 ·
  refine Tk (Tq (Tb (Ts hc (Ch.s (.d (.ref (.agg [(.int .i64 ((x.arcs.getD m default).src)), (.int .i64 ((x.arcs.getD m default).sig)), (.bool ((x.arcs.getD m default).up)), (.int .i64 ((x.arcs.getD m default).dst))]))) (.pure (.idx _ _ _ 125 (m) rfl Tryz.underlying33 sz125 rfl rfl rfl get_mapA)) (Ch.s (.d (.agg [(.int .i64 ((x.arcs.getD m default).src)), (.int .i64 ((x.arcs.getD m default).sig)), (.bool ((x.arcs.getD m default).up)), (.int .i64 ((x.arcs.getD m default).dst))])) (.pure (.loadRefA _ _ rfl ag125 sz125 rfl)) (Ch.s (.ptr 8000 0) (.alloc 8000 _ rfl zer125) ?_))))))
  refine Ch.s .junk (.storePtr _ _ _ rfl rfl rfl (.aggD _) sz125 (lb rfl)) (Ch.nil (Ts hc (Ch.s (.ptr 8000 0) (fP fld125_0 rfl) (Ch.s (dI ((x.arcs.getD m default).src)) (lP ag3 rfl rfl rfl) (Ch.s (dI k) pm (Ch.s (dB (decide (((x.arcs.getD m default).src) = k))) (iX rfl rfl rfl) ?_))))))
  refine Ch.s (dB (decide (((x.arcs.getD m default).src) = k))) pm ?_
  cases h2 : (decide (((x.arcs.getD m default).src) = k)) with
  | true =>
   replace h2 := odt h2
   refine Ch.s (.ptr 8000 1) (fP fld125_1 rfl) (Ch.s (dI ((x.arcs.getD m default).sig)) (lP ag3 rfl rfl rfl) (Ch.s (dI sig) pm (Ch.s (dB (decide (((x.arcs.getD m default).sig) = sig))) (iX rfl rfl rfl) (Ch.s (dB (decide (((x.arcs.getD m default).sig) = sig))) (pT rfl) (Ch.nil ?_)))))
   refine T_condD (p := (((x.arcs.getD m default).sig) = sig)) rfl (fun h3 => ?_) (fun h3 => ?_)
   ·
    refine Ts hc (Ch.s (dB true) pa (Ch.nil (T_ret ?_)))
    exact eR [(dB true)] [] [] (.cons (.tmp 6 rfl) .nil) eC (Exp.of (congrArg D.bool (by exact any_yes default m (by omega) (by simp_all [isArc]))) (.d _))
   ·
    refine Tk (Tz hc (Ch.s (dI ((m : Int) + 1)) (iX rfl rfl intV_addA) (Ch.s (dI ((m : Int) + 1)) pm (Ch.nil ?_))))
    exact nx (m + 1) ⟨by omega, upto_succ hp0.2 (by simp_all [isArc])⟩ (Wk.of rfl rfl (ar (ar (ar (ar (ai (vI a126) trivial))))) trivial)
  | false =>
   replace h2 := odf h2
   refine Ck (Ck (Ck (Ck (Ch.s (dB false) (pF rfl) (Ch.nil ?_)))))
   refine T_cond (b := false) rfl (fun h => nomatch h) (fun _ => ?_)
   refine Tk (Tz hc (Ch.s (dI ((m : Int) + 1)) (iX rfl rfl intV_addA) (Ch.s (dI ((m : Int) + 1)) pm (Ch.nil ?_))))
   exact nx (m + 1) ⟨by omega, upto_succ hp0.2 (by simp_all [isArc])⟩ (Wk.of rfl rfl (ar (ar (ar (ar (ai (vI a126) trivial))))) trivial)
 ·
  refine T_exit (Ts hc (Ch.s (dB false) pa (Ch.nil (T_ret ?_))))
  exact eR [(dB false)] [] [] (.cons (.tmp 6 rfl) .nil) eC (Exp.of (congrArg D.bool a124) (.d _))

theorem en306 : Enters Tryz.prog 306 := ⟨_, Tryz.func306, by kernel_rfl, rfl⟩

theorem ofInt_nat (m : Nat) : (BitVec.ofInt 64 (m : Int)).toNat = m % 18446744073709551616 := by
 rw [BitVec.toNat_ofInt]; omega

theorem i64_or {a b : Nat} (ha : a < 4611686018427387904) (hb : b < 4611686018427387904) : intV .or .i64 (a : Int) (b : Int) = some (.int .i64 ((a ||| b : Nat) : Int)) := by
 have e : (BitVec.ofInt IntKind.i64.bits (a : Int) ||| BitVec.ofInt IntKind.i64.bits (b : Int)).toNat = a ||| b := by
  show (BitVec.ofInt 64 (a : Int) ||| BitVec.ofInt 64 (b : Int)).toNat = a ||| b
  rw [BitVec.toNat_or, ofInt_nat, ofInt_nat, Nat.mod_eq_of_lt (by omega), Nat.mod_eq_of_lt (by omega)]
 have hlt : a ||| b < 2 ^ 62 := Nat.or_lt_two_pow (by omega) (by omega)
 rw [intV, e, IntWalk.i64_in _ (by omega)]

theorem i64_and3 (m : Nat) : intV .and .i64 (m : Int) 3 = some (.int .i64 ((m &&& 3 : Nat) : Int)) := by
 have e : (BitVec.ofInt IntKind.i64.bits (m : Int) &&& BitVec.ofInt IntKind.i64.bits 3).toNat = m &&& 3 := by
  show (BitVec.ofInt 64 (m : Int) &&& BitVec.ofInt 64 ((3 : Nat) : Int)).toNat = m &&& 3
  rw [BitVec.toNat_and, ofInt_nat, ofInt_nat]
  rw [show 3 % 18446744073709551616 = 2 ^ 2 - 1 from rfl, Nat.and_two_pow_sub_one_eq_mod, show (3 : Nat) = 2 ^ 2 - 1 from rfl, Nat.and_two_pow_sub_one_eq_mod]
  omega
 have hle : m &&& 3 ≤ 3 := Nat.and_le_right
 rw [intV, e, IntWalk.i64_in _ (by omega)]

theorem i64_shr {m n : Nat} {y : Int} (h : y = (n : Int)) (hn : n ≤ 63) : shiftV .shr .i64 (m : Int) y = some (.int .i64 ((m >>> n : Nat) : Int)) := by
 subst h
 rw [shiftV, if_neg (by omega)]
 have h1 : min (n : Int).toNat IntKind.i64.bits = n := by
  have : IntKind.i64.bits = 64 := rfl
  rw [this, Int.toNat_natCast]; omega
 rw [h1, Nat.shiftRight_eq_div_pow, Int.fdiv_eq_ediv_of_nonneg _ (by exact Int.le_of_lt (Int.pow_pos (by decide)))]
 congr 2

theorem shl2 {b : Int} {n : Nat} (h : b = (n : Int)) (hn : n ≤ 61) : shiftV .shl .i64 2 b = some (.int .i64 ((2 * 2 ^ n : Nat) : Int)) := by
 subst h
 rw [shiftV, if_neg (by omega)]
 have h1 : min (n : Int).toNat IntKind.i64.bits = n := by
  have : IntKind.i64.bits = 64 := rfl
  rw [this, Int.toNat_natCast]; omega
 have h2 : 2 ^ n ≤ 2 ^ 61 := Nat.pow_le_pow_right (by omega) hn
 rw [h1, show (2 : Int) * (2 : Int) ^ n = ((2 * 2 ^ n : Nat) : Int) by simp]
 generalize 2 ^ n = m at h2
 rw [IntWalk.i64_in _ (by omega)]

def two (m s : Nat) : Nat := m >>> s &&& 3

theorem two_zero {m s : Nat} : two m s = 0 ↔ m.testBit s = false ∧ m.testBit (s + 1) = false := by
 have h : two m s = (m >>> s) % 4 := by
  unfold two
  rw [show (3 : Nat) = 2 ^ 2 - 1 from rfl, Nat.and_two_pow_sub_one_eq_mod]
 have h0 : m.testBit s = (m >>> s).testBit 0 := by rw [Nat.testBit_shiftRight, Nat.add_zero]
 have h1 : m.testBit (s + 1) = (m >>> s).testBit 1 := by rw [Nat.testBit_shiftRight]
 rw [h, h0, h1]
 generalize m >>> s = q
 rw [Nat.testBit_zero, Nat.testBit_succ, Nat.testBit_zero]
 simp only [decide_eq_false_iff_not]
 omega

def lmask (l : Lab) : Nat := if l.up then 2 * 2 ^ (2 * l.sig).toNat else 2 ^ (2 * l.sig).toNat

def maskStep (ms : List Nat) (a : Arc) : List Nat := if 0 ≤ a.sig then ms.set a.src.toNat (ms.getD a.src.toNat default ||| lmask (Lab.mk a.sig a.up)) else ms

def masksTo (x : Sgr) (k : Nat) : List Nat := (x.arcs.take k).foldl maskStep (List.replicate x.codes.length 0)

def masksL (x : Sgr) : List Nat := masksTo x x.arcs.length

def isEd (s : Int) (up : Bool) (a : Arc) : Bool := decide (a.sig = s) && decide (a.up = up)

def isLab (k s : Int) (up : Bool) (a : Arc) : Bool := decide (a.src = k) && isEd s up a

def labB (x : Sgr) (k s : Int) (up : Bool) : Bool := x.arcs.any (isLab k s up)

theorem maskStep_len (ms : List Nat) (a : Arc) : (maskStep ms a).length = ms.length := by
  unfold maskStep; split
  · rw [List.length_set]
  · rfl

theorem masks_len : ∀ (l : List Arc) (ms : List Nat), (l.foldl maskStep ms).length = ms.length
 | [], _ => rfl
 | a :: l, ms => by rw [List.foldl_cons, masks_len l, maskStep_len]

theorem masksTo_len (x : Sgr) (k : Nat) : (masksTo x k).length = x.codes.length := by rw [masksTo, masks_len, List.length_replicate]

theorem masksTo_zero (x : Sgr) : masksTo x 0 = List.replicate x.codes.length 0 := rfl

theorem masksTo_succ {x : Sgr} {k : Nat} (h : k < x.arcs.length) : masksTo x (k + 1) = maskStep (masksTo x k) (x.arcs.getD k default) := by
 have hg : x.arcs.getD k default = x.arcs[k] := by simp [h]
 unfold masksTo
 rw [List.take_succ_eq_append_getElem h, List.foldl_append, hg]; rfl

theorem lmask_pow {l : Lab} : lmask l = 2 ^ ((2 * l.sig).toNat + if l.up then 1 else 0) := by
  unfold lmask
  cases l.up
  · rfl
  · rw [if_pos rfl, if_pos rfl, Nat.pow_succ, Nat.mul_comm]

theorem lmask_lt {l : Lab} (h : l.sig < 8) : lmask l < 65536 := by
  rw [lmask_pow]
  have h1 : (2 * l.sig).toNat + (if l.up then 1 else 0) ≤ 15 := by split <;> omega
  have h2 : 2 ^ ((2 * l.sig).toNat + (if l.up then 1 else 0)) ≤ 2 ^ 15 := Nat.pow_le_pow_right (by omega) h1
  omega

theorem maskStep_lt {ms : List Nat} {a : Arc} (ha : a.sig < 8) (h : ∀ j : Nat, ms.getD j default < 65536) : ∀ j : Nat, (maskStep ms a).getD j default < 65536 := by
  intro j
  unfold maskStep
  split
  · rw [getD_set]
    split
    · exact Nat.or_lt_two_pow (n := 16) (h _) (lmask_lt ha)
    · exact h j
  · exact h j

theorem masks_lt : ∀ (l : List Arc) (ms : List Nat), (∀ a ∈ l, a.sig < 8) → (∀ j : Nat, ms.getD j default < 65536) → ∀ j : Nat, (l.foldl maskStep ms).getD j default < 65536
 | [], _, _, h => h
 | a :: l, ms, ha, h => masks_lt l (maskStep ms a) (fun b hb => ha b (List.mem_cons_of_mem _ hb)) (maskStep_lt (ha a List.mem_cons_self) h)

theorem rep_getD (n j : Nat) : (List.replicate n (0 : Nat)).getD j default = 0 := by
  rw [List.getD_eq_getElem?_getD, List.getElem?_replicate]; split <;> rfl

theorem masksTo_lt {x : Sgr} (h : ∀ a ∈ x.arcs, a.sig < 8) (k j : Nat) : (masksTo x k).getD j default < 65536 :=
 masks_lt _ _ (fun a ha => h a (List.mem_of_mem_take ha)) (fun j => by rw [rep_getD]; decide) j

theorem lmask_bit {a : Arc} {s : Int} {up : Bool} (h0 : 0 ≤ a.sig) (h1 : 0 ≤ s) : (lmask (Lab.mk a.sig a.up)).testBit ((2 * s).toNat + if up then 1 else 0) = isEd s up a := by
  rw [lmask_pow, Nat.testBit_two_pow]
  unfold isEd
  rw [Bool.eq_iff_iff, Bool.and_eq_true, decide_eq_true_iff, decide_eq_true_iff, decide_eq_true_iff]
  dsimp only
  cases a.up <;> cases up <;> simp <;> omega

theorem masks_bit {s : Int} {up : Bool} (h1 : 0 ≤ s) (n : Nat) (j : Nat) (hj : j < n) : ∀ (l : List Arc) (ms : List Nat), ms.length = n → (∀ a ∈ l, 0 ≤ a.src) →
    ((l.foldl maskStep ms).getD j default).testBit ((2 * s).toNat + if up then 1 else 0) = ((ms.getD j default).testBit ((2 * s).toNat + if up then 1 else 0) || l.any (isLab (j : Int) s up))
  | [], ms, _, _ => by simp
  | a :: l, ms, hm, hl => by
    have h0 := hl a List.mem_cons_self
    rw [List.foldl_cons, masks_bit h1 n j hj l _ (by rw [maskStep_len]; exact hm) (fun b hb => hl b (List.mem_cons_of_mem _ hb)), List.any_cons, ← Bool.or_assoc]
    congr 1
    unfold maskStep
    split
    · rename_i h2
      rw [getD_set]
      split
      · rename_i h3
        rw [Nat.testBit_or, lmask_bit h2 h1, h3.1]
        unfold isLab
        rw [decide_eq_true (by omega : a.src = (j : Int)), Bool.true_and]
      · rename_i h3
        unfold isLab
        rw [decide_eq_false (fun e => h3 ⟨by omega, by omega⟩), Bool.false_and, Bool.or_false]
    · rename_i h2
      unfold isLab isEd
      rw [decide_eq_false (fun e : a.sig = s => h2 (by omega)), Bool.false_and, Bool.and_false, Bool.or_false]

theorem masksL_bit {x : Sgr} {s k : Int} {up : Bool} (hx : SgOk x) (h1 : 0 ≤ s) (hk : 0 ≤ k ∧ k.toNat < x.codes.length) : ((masksL x).getD k.toNat default).testBit ((2 * s).toNat + if up then 1 else 0) = labB x k s up := by
 unfold masksL masksTo labB
 rw [List.take_length, masks_bit h1 x.codes.length k.toNat hk.2 _ _ (by simp) (fun a ha => (hx.ends a ha).1.1), rep_getD, Nat.zero_testBit, Bool.false_or, show (k.toNat : Int) = k by omega]

theorem exc_lab (x : Sgr) (k s : Int) : excB x k s = (labB x k s false || labB x k s true) := by
  unfold excB labB
  induction x.arcs with
  | nil => rfl
  | cons a l ih =>
    rw [List.any_cons, List.any_cons, List.any_cons, ih]
    have : isArc k s a = (isLab k s false a || isLab k s true a) := by
      unfold isArc isLab isEd
      cases a.up <;> simp
    rw [this]
    cases isLab k s false a <;> cases isLab k s true a <;> cases l.any (isLab k s false) <;> rfl

theorem two_exc {x : Sgr} {s k : Int} (hx : SgOk x) (h1 : 0 ≤ s) (hk : 0 ≤ k ∧ k.toNat < x.codes.length) : decide (((two ((masksL x).getD k.toNat default) (2 * s).toNat : Nat) : Int) = 0) = !excB x k s := by
 have b0 := masksL_bit (up := false) hx h1 hk
 have b1 := masksL_bit (up := true) hx h1 hk
 rw [if_neg (by decide), Nat.add_zero] at b0
 rw [if_pos rfl] at b1
 rw [exc_lab, Bool.eq_iff_iff, decide_eq_true_iff, ← b0, ← b1]
 have := two_zero (m := (masksL x).getD k.toNat default) (s := (2 * s).toNat)
 simp only [Bool.not_eq_true', Bool.or_eq_false_iff]
 rw [← this]; omega

theorem outs_in {sg : List Sgn} : ∀ s ∈ outsL sg, 0 ≤ s ∧ s.toNat < sg.length := by
 intro s hs
 obtain ⟨j, hj, rfl⟩ := List.mem_map.1 hs
 have := List.mem_range.1 (List.mem_filter.1 hj).1
 omega

theorem outs_len (sg : List Sgn) : (outsL sg).length ≤ sg.length := outK_le sg _

theorem sp_impl_labelMask (l : Lab) (h0 : 0 ≤ l.sig) (h8 : l.sig < 8) : Sp Tryz.prog 306 [(.agg [(.int .i64 l.sig), (.bool (l.up))])] [.any] (.int .i64 (lmask l : Int)) := by
 refine Sp_intro (lend := true) Tryz.func306 rfl rfl rfl (fun _ => rfl) (fun c hc hX => ?_)
 refine Ts hc (Ch.s (.ptr 1000 0) (.box 1000 _ _ rfl (.aggD _)) (Ch.s (dI 0) pa (Ch.nil (Tq (Tq (Tz hc ?_))))))
 refine Ch.s (.ptr 1000 1) (fP fld107_1 rfl) (Ch.s (dB (l.up)) (lP ag4 rfl rfl rfl) (Ch.nil ?_))
 refine T_cond (b := (l.up)) rfl (fun h1 => ?_) (fun h1 => ?_)
 ·
  refine Ts hc (Ch.s (.ptr 1000 0) (fP fld107_0 rfl) (Ch.s (dI l.sig) (lP ag3 rfl rfl rfl) (Ch.s (dI (2 * l.sig)) (iX rfl rfl (intV_mul a52 a52)) (Ch.s (dI ((2 * 2 ^ (((2 * l.sig)).toNat) : Nat) : Int)) (.pure (.shift _ _ _ _ _ rfl rfl rfl (shl2 (n := ((2 * l.sig)).toNat) (by omega) a52))) (Ch.s (dI ((2 * 2 ^ (((2 * l.sig)).toNat) : Nat) : Int)) pa (Ch.nil ?_))))))
  refine T_ret ?_
  exact eR [(dI ((2 * 2 ^ (((2 * l.sig)).toNat) : Nat) : Int))] [] [] (.cons (.tmp 2 rfl) .nil) eA (Exp.of (congrArg (D.int .i64) a89) (.d _))
 ·
  refine Tk (Ts hc (Ch.s (.ptr 1000 0) (fP fld107_0 rfl) (Ch.s (dI l.sig) (lP ag3 rfl rfl rfl) (Ch.s (dI (2 * l.sig)) (iX rfl rfl (intV_mul a52 a52)) (Ch.s (dI ((2 ^ (((2 * l.sig)).toNat) : Nat) : Int)) (.pure (.shift _ _ _ _ _ rfl rfl rfl (shl1 (n := ((2 * l.sig)).toNat) (by omega) a52))) (Ch.s (dI ((2 ^ (((2 * l.sig)).toNat) : Nat) : Int)) pa ?_))))))
  refine Ch.nil (T_ret ?_)
  exact eR [(dI ((2 ^ (((2 * l.sig)).toNat) : Nat) : Int))] [] [] (.cons (.tmp 2 rfl) .nil) eA (Exp.of (congrArg (D.int .i64) a89) (.d _))

set_option maxHeartbeats 1000000 in
theorem sp_impl_labelMasks (x : Sgr) (hb : x.bulk ≤ 1048576) (hx : SgOk x) : Sp Tryz.prog 296 [(.agg [(.slice false 2 (x.sigs.map Sgn.d)), (.slice false 1 (x.codes.map D.str)), (.slice false 4 (x.arcs.map Arc.d))])] [.any] (.slice true 1 ((masksL x).map (fun n : Nat => D.int .i64 (n : Int)))) := by
 refine Sp_intro (lend := true) Tryz.func296 rfl rfl rfl (fun _ => rfl) (fun c hc hX => ?_)
 obtain ⟨hp0, hp1, hp2⟩ := Sgr.parts hb
 have hn0 := bulkF_len hp0
 have hn1 := bulk_len hp1
 have hx1 := bulk_mem hp1
 have hn2 := bulkF_len hp2; have hx8 := hx.eight; have hxl := hx.len; have hxf := hx.few; have hs8 : ∀ a ∈ x.arcs, a.sig < 8 := fun a ha => (by have := hx.sig a ha; omega)
 refine Ts hc (Ch.s (.ptr 1000 0) (.box 1000 _ _ rfl (.aggD _)) (Ch.s (.c (.slice none 0 0)) pa (Ch.nil (Ts hc (Ch.s (.ptr 1000 1) (fP fld35_1 rfl) ?_)))))
 refine Ch.s (.d (.slice false 1 (x.codes.map D.str))) (lP ag23 rfl rfl rfl) (Ch.s (dI (x.codes.length : Int)) (.pure (.len _ _ 9 rfl Tryz.underlying23 (.sh _ _) (by simp))) (Ch.s (.row 9000) (.make 9000 _ 3 _ _ (x.codes.length) (x.codes.length) rfl sty55 rfl rfl rfl rfl a52 a52 a52 (zeroD_mk (zd := (.int .i64 0)) zr3 a134 rfl)) (Ch.s (.row 9000) pa (Ch.nil (Tq (Tq (Tz hc ?_)))))))
 refine Ch.s (.ptr 1000 2) (fP fld35_2 rfl) (Ch.s (.d (.slice false 4 (x.arcs.map Arc.d))) (lP ag33 rfl rfl rfl) (Ch.s (dI (x.arcs.length : Int)) (.pure (.len _ _ 125 rfl Tryz.underlying33 (.sh _ _) (by simp))) (Ch.s (dI 0) pm (Ch.nil (Tb ?_)))))
 refine T_loop (ι := Nat) (fun k => { n := 35, sl := [(3, (.row 3)), (11, (.d (.slice false 4 (x.arcs.map Arc.d)))), (12, (dI (x.arcs.length : Int))), (13, (dI (k : Int)))], hp := [(3, (some (.row 1 ((masksTo x k).map (fun n : Nat => D.int .i64 (n : Int))))))], pin := [] }) (fun k => k ≤ x.arcs.length) (fun k => x.arcs.length - k) ⟨0, (by omega), (Wk.ren [(3, 9000)] rfl rfl rfl rfl (ar (ar (ar (ai (vI a126) trivial)))) (ai (oR a39) trivial))⟩ (fun k hp0 => ?_)
 have hq := masksTo_len x k; have hm6 := masksTo_lt hs8 k
 refine Ts hc (Ch.s (dB (decide ((k : Int) < (x.arcs.length : Int)))) (iX rfl rfl rfl) (Ch.nil (Tq ?_)))
 refine T_condD (p := ((k : Int) < (x.arcs.length : Int))) rfl (fun h1 => ?_) (fun h1 => ?_)
 ·
  try have hek := hx.ends _ (getD_mem (l := x.arcs) (j := k) (d := default) (by omega))
  try have hsk := hs8 _ (getD_mem (l := x.arcs) (j := k) (d := default) (by omega))
  refine Tk (Tq (Tb (Ts hc (Ch.s (.d (.ref (.agg [(.int .i64 ((x.arcs.getD k default).src)), (.int .i64 ((x.arcs.getD k default).sig)), (.bool ((x.arcs.getD k default).up)), (.int .i64 ((x.arcs.getD k default).dst))]))) (.pure (.idx _ _ _ 125 (k) rfl Tryz.underlying33 sz125 rfl rfl rfl get_mapA)) (Ch.s (.d (.agg [(.int .i64 ((x.arcs.getD k default).src)), (.int .i64 ((x.arcs.getD k default).sig)), (.bool ((x.arcs.getD k default).up)), (.int .i64 ((x.arcs.getD k default).dst))])) (.pure (.loadRefA _ _ rfl ag125 sz125 rfl)) (Ch.s (.ptr 5000 0) (.alloc 5000 _ rfl zer125) ?_))))))
  refine Ch.s .junk (.storePtr _ _ _ rfl rfl rfl (.aggD _) sz125 (lb rfl)) (Ch.nil (Ts hc (Ch.s (.ptr 5000 1) (fP fld125_1 rfl) (Ch.s (dI ((x.arcs.getD k default).sig)) (lP ag3 rfl rfl rfl) (Ch.s (dB (decide (0 ≤ ((x.arcs.getD k default).sig)))) (iX rfl rfl rfl) (Ch.nil ?_))))))
  refine T_condD (p := (0 ≤ ((x.arcs.getD k default).sig))) rfl (fun h2 => ?_) (fun h2 => ?_)
  ·
   try have hlm := lmask_lt (l := Lab.mk (x.arcs.getD k default).sig (x.arcs.getD k default).up) hsk
   try have hmk := hm6 (x.arcs.getD k default).src.toNat
   refine T_regionD hc (by kernel_rfl) ?_
   refine ChD.s (.row 3) [] pm (ChD.s (.ptr 5000 0) [] (fP fld125_0 rfl) (ChD.s (dI ((x.arcs.getD k default).src)) [5000] (lP ag3 rfl rfl rfl) (ChD.s (.el 3 1 ((((x.arcs.getD k default).src)).toNat) 0) [3] (.pure (.idxRow _ _ _ 3 ((((x.arcs.getD k default).src)).toNat) rfl Tryz.underlying55 sz3 rfl rfl rfl (by omega) a96)) (ChD.s (dI (((masksTo x k).getD ((((x.arcs.getD k default).src)).toNat) default) : Int)) [3] (.pure (.loadEl1 _ _ rfl ag3 rfl rfl get_mapA rfl rfl rfl)) (ChD.s (.ptr 5000 1) [] (fP fld125_1 rfl) (ChD.s (dI ((x.arcs.getD k default).sig)) [5000] (lP ag3 rfl rfl rfl) (ChD.s (.ptr 5000 2) [] (fP fld125_2 rfl) ?_)))))))
   refine ChD.s (dB ((x.arcs.getD k default).up)) [5000] (lP ag4 rfl rfl rfl) (ChD.s (.agg [(dI ((x.arcs.getD k default).sig)), (dB ((x.arcs.getD k default).up))]) [] (.build _ _ rfl stru107 (.cons (.one _ rfl) (.cons (.one _ rfl) .nil)) rfl) (ChD.s (dI (lmask (Lab.mk ((x.arcs.getD k default).sig) ((x.arcs.getD k default).up)) : Int)) [] (.call 30000 306 _ _ _ en306 rfl (.inl rfl) (.cons (.lend (.agg (.cons (.d _) (.cons (.d _) .nil)) rfl)) .nil) rfl rfl (sp_impl_labelMask (Lab.mk ((x.arcs.getD k default).sig) ((x.arcs.getD k default).up)) a46 a46) (.skip _ _ .nil) rfl) (ChD.s (dI ((((masksTo x k).getD ((((x.arcs.getD k default).src)).toNat) default) ||| (lmask (Lab.mk ((x.arcs.getD k default).sig) ((x.arcs.getD k default).up))) : Nat) : Int)) [] (iX rfl rfl (i64_or (a := ((masksTo x k).getD ((((x.arcs.getD k default).src)).toNat) default)) (b := lmask (Lab.mk ((x.arcs.getD k default).sig) ((x.arcs.getD k default).up))) a52 a52)) (ChD.s (.el 3 1 ((((x.arcs.getD k default).src)).toNat) 0) [3] (.pure (.idxRow _ _ _ 3 ((((x.arcs.getD k default).src)).toNat) rfl Tryz.underlying55 sz3 rfl rfl rfl (by omega) a96)) (ChD.s .junk [3] (.storeEl (y' := (.int .i64 ((((masksTo x k).getD ((((x.arcs.getD k default).src)).toNat) default) ||| (lmask (Lab.mk ((x.arcs.getD k default).sig) ((x.arcs.getD k default).up))) : Nat) : Int))) _ _ _ rfl rfl rfl (.d _) rfl sz3 rfl get_mapA rfl rfl) ?_)))))
   refine ChD.nil (And.intro ?_ (by kernel_rfl))
   refine Tz hc (Ch.s (dI ((k : Int) + 1)) (iX rfl rfl intV_addA) (Ch.s (dI ((k : Int) + 1)) pm (Ch.nil ?_)))
   exact nx (k + 1) (by omega) (Wk.of rfl rfl (ar (ar (ar (ai (vI a126) trivial)))) (ai (oR a39) trivial))
  ·
   try have hlm := lmask_lt (l := Lab.mk (x.arcs.getD k default).sig (x.arcs.getD k default).up) hsk
   try have hmk := hm6 (x.arcs.getD k default).src.toNat
   refine Tk (Tz hc (Ch.s (dI ((k : Int) + 1)) (iX rfl rfl intV_addA) (Ch.s (dI ((k : Int) + 1)) pm (Ch.nil ?_))))
   exact nx (k + 1) (by omega) (Wk.of rfl rfl (ar (ar (ar (ai (vI a126) trivial)))) (ai (oR a39) trivial))
 ·
  try have hek := hx.ends _ (getD_mem (l := x.arcs) (j := k) (d := default) (by omega))
  try have hsk := hs8 _ (getD_mem (l := x.arcs) (j := k) (d := default) (by omega))
  refine T_exit (Ts hc (Ch.s (.row 3) pm (Ch.s (.row 3) pa (Ch.nil (T_ret ?_)))))
  exact eR [(.row 3)] [] [3] (.cons (.tmp 2 rfl) .nil) eA (Exp.of (congrArg (D.slice true 1) (by rw [masksL, show x.arcs.length = k by omega])) (.row rfl))

theorem en257 : Enters Tryz.prog 257 := ⟨_, Tryz.func257, by kernel_rfl, rfl⟩

theorem en307 : Enters Tryz.prog 307 := ⟨_, Tryz.func307, by kernel_rfl, rfl⟩

theorem en303 : Enters Tryz.prog 303 := ⟨_, Tryz.func303, by kernel_rfl, rfl⟩

theorem en302 : Enters Tryz.prog 302 := ⟨_, Tryz.func302, by kernel_rfl, rfl⟩

theorem en296 : Enters Tryz.prog 296 := ⟨_, Tryz.func296, by kernel_rfl, rfl⟩

theorem en173 : Enters Tryz.prog 173 := ⟨_, Tryz.func173, by kernel_rfl, rfl⟩

theorem en300 : Enters Tryz.prog 300 := ⟨_, Tryz.func300, by kernel_rfl, rfl⟩

theorem en301 : Enters Tryz.prog 301 := ⟨_, Tryz.func301, by kernel_rfl, rfl⟩

theorem en299 : Enters Tryz.prog 299 := ⟨_, Tryz.func299, by kernel_rfl, rfl⟩

theorem sp_IndexFunc_int (xs : List (Int)) (f : FuncId) (caps : List D) (p : Int → Bool) (hf : Enters Tryz.prog f) (hp : ∀ x ∈ xs, Sp Tryz.prog f ((fun n : Int => D.int .i64 n) x :: caps) (.any :: anys caps) (.bool (p x))) (hn : xs.length ≤ 1048576) : Sp Tryz.prog 257 [(.slice false 1 (xs.map (fun n : Int => D.int .i64 n))), (.fn f caps)] [.any, .any] (.int .i64 (ixF p xs)) := by
 refine Sp_intro (lend := true) Tryz.func257 rfl rfl rfl (fun _ => rfl) (fun c hc hX => ?_)
 refine Ts hc (Ch.s (dI 0) pa (Ch.nil (Tq (Ts hc (Ch.s (.d (.slice false 1 (xs.map (fun n : Int => D.int .i64 n)))) pm ?_)))))
 refine Ch.s (dI (xs.length : Int)) (.pure (.len _ _ 3 rfl Tryz.underlying55 (.sh _ _) (by simp))) (Ch.s (dI 0) pm (Ch.nil (Tb ?_)))
 refine T_loop (ι := Nat) (fun k => { n := 19, sl := [(0, (.d (.slice false 1 (xs.map (fun n : Int => D.int .i64 n))))), (1, (.d (.fn f caps))), (7, (dI (xs.length : Int))), (8, (dI (k : Int)))], hp := [], pin := [] }) (fun k => k ≤ xs.length ∧ ∀ j, j < k → p (xs.getD j default) = false) (fun k => xs.length - k) ⟨0, ⟨by omega, fun j hj => by omega⟩, (Wk.of rfl rfl (ar (ar (ar (ai (vI a126) trivial)))) trivial)⟩ (fun k hp0 => ?_)
 refine Ts hc (Ch.s (dB (decide ((k : Int) < (xs.length : Int)))) (iX rfl rfl rfl) (Ch.nil (Tq ?_)))
 refine T_condD (p := ((k : Int) < (xs.length : Int))) rfl (fun h1 => ?_) (fun h1 => ?_)
 ·
  refine Tk (Tq (Tb (Ts hc (Ch.s (dI (k : Int)) pm (Ch.s (dI (k : Int)) pa (Ch.nil ?_))))))
  refine Ts hc (Ch.s (.d (.fn f caps)) pm (Ch.s (.d (.slice false 1 (xs.map (fun n : Int => D.int .i64 n)))) pm (Ch.s (dI (k : Int)) pm (Ch.s (.d (.ref (.int .i64 (xs.getD k default)))) (.pure (.idx _ _ _ 3 (k) rfl Tryz.underlying55 sz3 rfl rfl rfl get_mapA)) (Ch.s (dI (xs.getD k default)) (rF ag3 rfl rfl) ?_)))))
  refine Ch.step (v := (dB (p (xs.getD k default)))) rfl (.callS 16000 f _ #[.tmp 15] _ hf rfl (.inr ⟨caps, rfl, rfl⟩) (.cons (.d _) (exps_ds caps)) rfl (hp _ (getD_mem (by omega))) (.skip _ _ (back_anys caps)) rfl) rfl rfl ?_
  refine Ch.nil ?_
  refine T_cond (b := (p (xs.getD k default))) rfl (fun h2 => ?_) (fun h2 => ?_)
  ·
   refine Ts hc (Ch.s (dI (k : Int)) pm (Ch.s (dI (k : Int)) pa (Ch.nil (T_ret ?_))))
   exact eR [(dI (k : Int))] [] [] (.cons (.tmp 4 rfl) .nil) eB (Exp.of (congrArg (D.int .i64) a110) (.d _))
  ·
   refine Tk (Tz hc (Ch.s (dI ((k : Int) + 1)) (iX rfl rfl intV_addA) (Ch.s (dI ((k : Int) + 1)) pm (Ch.nil ?_))))
   exact nx (k + 1) ⟨by omega, upto_succ hp0.2 (by assumption)⟩ (Wk.of rfl rfl (ar (ar (ar (ai (vI a126) trivial)))) trivial)
 ·
  refine T_exit (Ts hc (Ch.s (dI (-1)) pa (Ch.nil (T_ret ?_))))
  exact eR [(dI (-1))] [] [] (.cons (.tmp 4 rfl) .nil) eB (Exp.of (congrArg (D.int .i64) a107) (.d _))

theorem sp_ContainsFunc_int (xs : List (Int)) (f : FuncId) (caps : List D) (p : Int → Bool) (hf : Enters Tryz.prog f) (hp : ∀ x ∈ xs, Sp Tryz.prog f ((fun n : Int => D.int .i64 n) x :: caps) (.any :: anys caps) (.bool (p x))) (hn : xs.length ≤ 1048576) : Sp Tryz.prog 302 [(.slice false 1 (xs.map (fun n : Int => D.int .i64 n))), (.fn f caps)] [.any, .any] (.bool (xs.any p)) := by
 refine Sp_intro (lend := true) Tryz.func302 rfl rfl rfl (fun _ => rfl) (fun c hc hX => ?_)
 refine Ts hc (Ch.s (dB false) pa (Ch.nil (Ts hc (Ch.s (.d (.slice false 1 (xs.map (fun n : Int => D.int .i64 n)))) pm (Ch.s (.d (.fn f caps)) pm ?_)))))
 refine Ch.s (dI (ixF p xs)) (.call 7000 257 _ _ _ en257 rfl (.inl rfl) (.cons (.d _) (.cons (.d _) .nil)) rfl rfl (sp_IndexFunc_int xs f caps p hf hp a46) (.skip _ _ (.skip _ _ .nil)) rfl) (Ch.s (dB (decide (0 ≤ (ixF p xs)))) (iX rfl rfl rfl) (Ch.s (dB (decide (0 ≤ (ixF p xs)))) pa (Ch.nil (T_ret ?_))))
 exact eR [(dB (decide (0 ≤ (ixF p xs))))] [] [] (.cons (.tmp 4 rfl) .nil) eB (Exp.of (congrArg D.bool (by exact ixF_nonneg p xs)) (.d _))

theorem sp_IndexFunc_ints (xs : List (List Int)) (f : FuncId) (caps : List D) (p : List Int → Bool) (hf : Enters Tryz.prog f) (hp : ∀ x ∈ xs, Sp Tryz.prog f (intsD x :: caps) (.any :: anys caps) (.bool (p x))) (hn : xs.length ≤ 1048576) : Sp Tryz.prog 307 [(.slice false 1 (xs.map intsD)), (.fn f caps)] [.any, .any] (.int .i64 (ixF p xs)) := by
 refine Sp_intro (lend := true) Tryz.func307 rfl rfl rfl (fun _ => rfl) (fun c hc hX => ?_)
 refine Ts hc (Ch.s (dI 0) pa (Ch.nil (Tq (Ts hc (Ch.s (.d (.slice false 1 (xs.map intsD))) pm ?_)))))
 refine Ch.s (dI (xs.length : Int)) (.pure (.len _ _ 55 rfl Tryz.underlying49 (.sh _ _) (by simp))) (Ch.s (dI 0) pm (Ch.nil (Tb ?_)))
 refine T_loop (ι := Nat) (fun k => { n := 19, sl := [(0, (.d (.slice false 1 (xs.map intsD)))), (1, (.d (.fn f caps))), (7, (dI (xs.length : Int))), (8, (dI (k : Int)))], hp := [], pin := [] }) (fun k => k ≤ xs.length ∧ ∀ j, j < k → p (xs.getD j default) = false) (fun k => xs.length - k) ⟨0, ⟨by omega, fun j hj => by omega⟩, (Wk.of rfl rfl (ar (ar (ar (ai (vI a126) trivial)))) trivial)⟩ (fun k hp0 => ?_)
 refine Ts hc (Ch.s (dB (decide ((k : Int) < (xs.length : Int)))) (iX rfl rfl rfl) (Ch.nil (Tq ?_)))
 refine T_condD (p := ((k : Int) < (xs.length : Int))) rfl (fun h1 => ?_) (fun h1 => ?_)
 ·
  refine Tk (Tq (Tb (Ts hc (Ch.s (dI (k : Int)) pm (Ch.s (dI (k : Int)) pa (Ch.nil ?_))))))
  refine Ts hc (Ch.s (.d (.fn f caps)) pm (Ch.s (.d (.slice false 1 (xs.map intsD))) pm (Ch.s (dI (k : Int)) pm (Ch.s (.d (.ref (.slice false 1 ((xs.getD k default).map (fun n : Int => D.int .i64 n))))) (.pure (.idx _ _ _ 55 (k) rfl Tryz.underlying49 sz55 rfl rfl rfl get_mapA)) (Ch.s (.d (.slice false 1 ((xs.getD k default).map (fun n : Int => D.int .i64 n)))) (rF ag55 rfl rfl) ?_)))))
  refine Ch.step (v := (dB (p (xs.getD k default)))) rfl (.callS 16000 f _ #[.tmp 15] _ hf rfl (.inr ⟨caps, rfl, rfl⟩) (.cons (.d _) (exps_ds caps)) rfl (hp _ (getD_mem (by omega))) (.skip _ _ (back_anys caps)) rfl) rfl rfl ?_
  refine Ch.nil ?_
  refine T_cond (b := (p (xs.getD k default))) rfl (fun h2 => ?_) (fun h2 => ?_)
  ·
   refine Ts hc (Ch.s (dI (k : Int)) pm (Ch.s (dI (k : Int)) pa (Ch.nil (T_ret ?_))))
   exact eR [(dI (k : Int))] [] [] (.cons (.tmp 4 rfl) .nil) eB (Exp.of (congrArg (D.int .i64) a110) (.d _))
  ·
   refine Tk (Tz hc (Ch.s (dI ((k : Int) + 1)) (iX rfl rfl intV_addA) (Ch.s (dI ((k : Int) + 1)) pm (Ch.nil ?_))))
   exact nx (k + 1) ⟨by omega, upto_succ hp0.2 (by assumption)⟩ (Wk.of rfl rfl (ar (ar (ar (ai (vI a126) trivial)))) trivial)
 ·
  refine T_exit (Ts hc (Ch.s (dI (-1)) pa (Ch.nil (T_ret ?_))))
  exact eR [(dI (-1))] [] [] (.cons (.tmp 4 rfl) .nil) eB (Exp.of (congrArg (D.int .i64) a107) (.d _))

theorem anys_sol : ∀ ds : List D, solids (anys ds) = true
 | [] => rfl
 | _ :: ds => anys_sol ds

theorem anys_one {ds : List D} (h : solids ds = true) : solids (D.any :: ds) = true := h

def dlRow (p : List Int → Bool) (xs : List (List Int)) (j : Nat) (us : List Value) : List D := (keepTo p xs j).map intsU ++ us.map D.hole ++ (xs.drop j).map intsU

structure DlInv (p : List Int → Bool) (xs : List (List Int)) (j : Nat) (us : List Value) : Prop where
 le : j ≤ xs.length
 len : (keepTo p xs j).length + us.length = j
 pos : 0 < us.length

theorem dl_len {p : List Int → Bool} {xs : List (List Int)} {j : Nat} {us : List Value} (h : DlInv p xs j us) : (dlRow p xs j us).length = xs.length := by
 have h1 := h.len
 have h2 := h.le
 unfold dlRow
 simp only [List.length_append, List.length_map, List.length_drop]
 omega

theorem dl_at {p : List Int → Bool} {xs : List (List Int)} {j : Nat} {us : List Value} (h : DlInv p xs j us) (hj : j < xs.length) : (dlRow p xs j us)[j]? = some (intsU (xs.getD j default)) := by
 have h1 := h.len
 unfold dlRow
 rw [List.getElem?_append_right (by simp only [List.length_append, List.length_map]; omega)]
 simp only [List.length_append, List.length_map]
 rw [show j - ((keepTo p xs j).length + us.length) = 0 by omega, List.getElem?_map, List.getElem?_drop, Nat.add_zero]
 simp [hj]

theorem dl_set {p : List Int → Bool} {xs : List (List Int)} {j : Nat} {us : List Value} (h : DlInv p xs j us) (hj : j < xs.length) (d : D) : (dlRow p xs j us).set j d = (keepTo p xs j).map intsU ++ (us.map D.hole ++ d :: (xs.drop (j + 1)).map intsU) := by
 have h1 := h.len
 unfold dlRow
 rw [List.append_assoc, List.set_append_right (h := by simp only [List.length_map]; omega)]
 rw [List.set_append_right (h := by simp only [List.length_map]; omega)]
 simp only [List.length_map]
 rw [show j - (keepTo p xs j).length - us.length = 0 by omega, List.drop_eq_getElem_cons hj, List.map_cons, List.set_cons_zero]

theorem dl_hole {p : List Int → Bool} {xs : List (List Int)} {j : Nat} {us : List Value} {u : Value} (h : DlInv p xs j us) (hj : j < xs.length) : ((dlRow p xs j us).set j (.hole u))[(keepTo p xs j).length]? = some (.hole (us.getD 0 default)) := by
 have h3 := h.pos
 rw [dl_set h hj, List.getElem?_append_right (by simp)]
 simp only [List.length_map, Nat.sub_self]
 cases us with
 | nil => exact absurd h3 (Nat.not_lt_zero _)
 | cons v us => rfl

theorem dl_skip {p : List Int → Bool} {xs : List (List Int)} {j : Nat} {us : List Value} {u : Value} (h : DlInv p xs j us) (hj : j < xs.length) (hp : p (xs.getD j default) = true) :
  (dlRow p xs j us).set j (.hole u) = dlRow p xs (j + 1) (us ++ [u]) ∧ DlInv p xs (j + 1) (us ++ [u]) := by
 have hk := keepTo_no hj hp
 have h1 := h.len
 refine ⟨?_, by omega, by rw [hk, List.length_append, List.length_singleton]; omega, by simp⟩
 rw [dl_set h hj]
 unfold dlRow
 rw [hk, List.map_append]
 simp

end Go.AM
