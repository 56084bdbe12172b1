/-
  The contracts that the law FnExactTraces needs.
-/
import Derived.Test.YtadendfhmagmoaaGreatZTraces2
namespace Go.AM
open Go.Proofs
set_option linter.unusedVariables false
set_option linter.unusedSimpArgs false

theorem sp_spec_l9PutS (xs : List (List UInt8)) (u : List UInt8) (hn : xs.length ≤ 16777000) (hr : Rise leS xs) : Sp Tryz.prog 19 [(.slice true 1 (xs.map D.str)), (.str u)] [.any, .any] (.slice true 1 ((put15 xs u).map D.str)) := by
 refine Sp_intro (lend := false) Tryz.func19 rfl rfl rfl (fun h => nomatch h) (fun c hc hX => ?_)
 refine Ts hc (Ch.s (.c (.slice none 0 0)) pa (Ch.nil (Ts hc (Ch.s (dI 0) pa (Ch.nil ?_)))))
 refine Tq (Tb ?_)
 refine T_loop (ι := Nat) (fun k => { n := 47, sl := [(0, (.row 1)), (1, (dS u)), (5, (dI (k : Int)))], hp := [(1, (some (.row 1 (xs.map D.str))))], pin := [1] }) (fun k => k ≤ xs.length ∧ ∀ j, j < k → Op.bytesLess (xs.getD j default) u = true) (fun k => xs.length - k) ⟨0, ⟨by omega, fun j hj => by omega⟩, (Wk.of rfl rfl (ar (ar (ai (vI a67) trivial))) (ar trivial))⟩ (fun k hp0 => ?_)
 refine Tq (Ts hc (Ch.s (dI (k : Int)) pm (Ch.s (.row 1) pm (Ch.s (dI (xs.length : Int)) (.pure (.len _ _ 9 rfl Tryz.underlying23 (.row rfl) (by simp))) (Ch.s (dB (decide ((k : Int) < (xs.length : Int)))) (iX rfl rfl rfl) (Ch.s (dB (decide ((k : Int) < (xs.length : Int)))) pm ?_))))))
 cases h1 : (decide ((k : Int) < (xs.length : Int))) with
 | true =>
  replace h1 := odt h1
  refine Ch.s (.row 1) pm (Ch.s (dI (k : Int)) pm (Ch.s (.el 1 1 k 0) (.pure (.idxRow _ _ _ 9 (k) rfl Tryz.underlying23 sz9 rfl rfl rfl rfl a52)) (Ch.s (dS (xs.getD k default)) (.pure (.loadEl1 _ _ rfl ag9 rfl rfl get_mapA rfl rfl rfl)) (Ch.s (dS u) pm (Ch.s (dB (Op.bytesLess (xs.getD k default) u)) (.pure (.str _ _ _ _ _ rfl rfl rfl rfl)) (Ch.s (dB (Op.bytesLess (xs.getD k default) u)) (pT rfl) (Ch.nil ?_)))))))
  refine T_cond (b := (Op.bytesLess (xs.getD k default) u)) rfl (fun h2 => ?_) (fun h2 => ?_)
  ·
   refine Tk (Tb (Tz hc (Ch.s (dI (k : Int)) pm (Ch.s (dI ((k : Int) + 1)) (iX rfl rfl intV_addA) (Ch.s (dI ((k : Int) + 1)) pa (Ch.nil ?_))))))
   exact nx (k + 1) ⟨by omega, upto_succ hp0.2 (by assumption)⟩ (Wk.of rfl rfl (ar (ar (ai (vI a67) trivial))) (ar trivial))
  ·
   refine T_exit (Tq (Ts hc (Ch.s (dI (k : Int)) pm (Ch.s (.row 1) pm (Ch.s (dI (xs.length : Int)) (.pure (.len _ _ 9 rfl Tryz.underlying23 (.row rfl) (by simp))) (Ch.s (dB (decide ((k : Int) < (xs.length : Int)))) (iX rfl rfl rfl) ?_))))))
   refine Ch.s (dB (decide ((k : Int) < (xs.length : Int)))) pm ?_
   cases h3 : (decide ((k : Int) < (xs.length : Int))) with
   | true =>
    replace h3 := odt h3
    refine Ch.s (.row 1) pm (Ch.s (dI (k : Int)) pm (Ch.s (.el 1 1 k 0) (.pure (.idxRow _ _ _ 9 (k) rfl Tryz.underlying23 sz9 rfl rfl rfl rfl a52)) (Ch.s (dS (xs.getD k default)) (.pure (.loadEl1 _ _ rfl ag9 rfl rfl get_mapA rfl rfl rfl)) (Ch.s (dS u) pm (Ch.s (dB (decide ((xs.getD k default) = u))) (.pure (.str _ _ _ _ _ rfl rfl rfl rfl)) (Ch.s (dB (decide ((xs.getD k default) = u))) (pT rfl) (Ch.nil ?_)))))))
    refine T_condD (p := ((xs.getD k default) = u)) rfl (fun h4 => ?_) (fun h4 => ?_)
    ·
     refine Ts hc (Ch.s (.row 1) pm (Ch.s (.row 1) pa (Ch.nil (T_ret ?_))))
     exact eR [(.row 1)] [] [1] (.cons (.tmp 4 rfl) .nil) eB (Exp.of (congrArg (D.slice true 1) a14) (.row rfl))
    ·
     refine Tk (Ts hc (Ch.s (.row 1) pm (Ch.s (dI (k : Int)) pm (Ch.s (.sub 1 1 k xs.length) (.pure (.subRow _ _ _ _ 9 (k) (xs.length) rfl Tryz.underlying23 sz9 rfl rfl (bndS rfl rfl) (bndN (by simp)) a24 a24)) ?_))))
     refine Ch.step (v := (.row 37000)) rfl (.call 37000 42 _ _ _ en42 rfl (.inl rfl) (.cons (.lend (.sub rfl a24 a24 a7)) .nil) rfl (sol (solid_row (fun _ => rfl) _) rfl) (sp_l1OwnS_b (xs.drop k) a46) (.skip _ _ .nil) rfl) rfl rfl ?_
     refine Ch.s (.row 37000) pa (Ch.nil (Ts hc (Ch.s (.row 1) pm (Ch.s (dI (k : Int)) pm (Ch.s (.sub 1 1 0 k) (.pure (.subRow _ _ _ _ 9 (0) (k) rfl Tryz.underlying23 sz9 rfl rfl (bndN rfl) (bndS rfl rfl) a24 a24)) ?_)))))
     refine Ch.step (v := (.row 41000)) rfl (.call 41000 42 _ _ _ en42 rfl (.inl rfl) (.cons (.lend (.sub rfl a24 a24 a7)) .nil) rfl (sol (solid_row (fun _ => rfl) _) rfl) (sp_l1OwnS_b (xs.take k) a46) (.skip _ _ .nil) rfl) rfl rfl ?_
     refine Ch.s (dS u) pm (Ch.s (.row 43000) (.slice 43000 _ 9 _ rfl sty23 (xs := [.tmp 42]) rfl rfl (.cons (.d _) .nil) rfl rfl (by decide)) ?_)
     refine Ch.step (v := (.row 44000)) rfl (.append 44000 _ _ _ 9 rfl sty23 (by decide) (.rowK rfl) (.inr ⟨_, rfl, rfl⟩) (.row rfl rfl) rfl a33) rfl rfl ?_
     refine Ch.s (.row 37000) pm ?_
     refine Ch.step (v := (.row 46000)) rfl (.append 46000 _ _ _ 9 rfl sty23 (by decide) (.rowK rfl) (.inr ⟨_, rfl, rfl⟩) (.row rfl (noUs_map (fun _ => rfl) _)) rfl a33) rfl rfl ?_
     refine Ch.s (.row 46000) pa (Ch.nil (T_ret ?_))
     exact eR [(.row 46000)] [] [46000] (.cons (.tmp 4 rfl) .nil) eB (Exp.of (congrArg (D.slice true 1) a14) (.row rfl))
   | false =>
    replace h3 := odf h3
    refine Ck (Ck (Ck (Ck (Ck (Ck (Ch.s (dB false) (pF rfl) (Ch.nil ?_)))))))
    refine T_cond (b := false) rfl (fun h => nomatch h) (fun _ => ?_)
    refine Tk (Ts hc (Ch.s (.row 1) pm (Ch.s (dI (k : Int)) pm (Ch.s (.sub 1 1 k xs.length) (.pure (.subRow _ _ _ _ 9 (k) (xs.length) rfl Tryz.underlying23 sz9 rfl rfl (bndS rfl rfl) (bndN (by simp)) a24 a24)) ?_))))
    refine Ch.step (v := (.row 37000)) rfl (.call 37000 42 _ _ _ en42 rfl (.inl rfl) (.cons (.lend (.sub rfl a24 a24 a7)) .nil) rfl (sol (solid_row (fun _ => rfl) _) rfl) (sp_l1OwnS_b (xs.drop k) a46) (.skip _ _ .nil) rfl) rfl rfl ?_
    refine Ch.s (.row 37000) pa (Ch.nil (Ts hc (Ch.s (.row 1) pm (Ch.s (dI (k : Int)) pm (Ch.s (.sub 1 1 0 k) (.pure (.subRow _ _ _ _ 9 (0) (k) rfl Tryz.underlying23 sz9 rfl rfl (bndN rfl) (bndS rfl rfl) a24 a24)) ?_)))))
    refine Ch.step (v := (.row 41000)) rfl (.call 41000 42 _ _ _ en42 rfl (.inl rfl) (.cons (.lend (.sub rfl a24 a24 a7)) .nil) rfl (sol (solid_row (fun _ => rfl) _) rfl) (sp_l1OwnS_b (xs.take k) a46) (.skip _ _ .nil) rfl) rfl rfl ?_
    refine Ch.s (dS u) pm (Ch.s (.row 43000) (.slice 43000 _ 9 _ rfl sty23 (xs := [.tmp 42]) rfl rfl (.cons (.d _) .nil) rfl rfl (by decide)) ?_)
    refine Ch.step (v := (.row 44000)) rfl (.append 44000 _ _ _ 9 rfl sty23 (by decide) (.rowK rfl) (.inr ⟨_, rfl, rfl⟩) (.row rfl rfl) rfl a33) rfl rfl ?_
    refine Ch.s (.row 37000) pm ?_
    refine Ch.step (v := (.row 46000)) rfl (.append 46000 _ _ _ 9 rfl sty23 (by decide) (.rowK rfl) (.inr ⟨_, rfl, rfl⟩) (.row rfl (noUs_map (fun _ => rfl) _)) rfl a33) rfl rfl ?_
    refine Ch.s (.row 46000) pa (Ch.nil (T_ret ?_))
    exact eR [(.row 46000)] [] [46000] (.cons (.tmp 4 rfl) .nil) eB (Exp.of (congrArg (D.slice true 1) a14) (.row rfl))
 | false =>
  replace h1 := odf h1
  refine Ck (Ck (Ck (Ck (Ck (Ck (Ch.s (dB false) (pF rfl) (Ch.nil ?_)))))))
  refine T_cond (b := false) rfl (fun h => nomatch h) (fun _ => ?_)
  refine T_exit (Tq (Ts hc (Ch.s (dI (k : Int)) pm (Ch.s (.row 1) pm (Ch.s (dI (xs.length : Int)) (.pure (.len _ _ 9 rfl Tryz.underlying23 (.row rfl) (by simp))) (Ch.s (dB (decide ((k : Int) < (xs.length : Int)))) (iX rfl rfl rfl) ?_))))))
  refine Ch.s (dB (decide ((k : Int) < (xs.length : Int)))) pm ?_
  cases h5 : (decide ((k : Int) < (xs.length : Int))) with
  | true =>
   replace h5 := odt h5
   refine Ch.s (.row 1) pm (Ch.s (dI (k : Int)) pm (Ch.s (.el 1 1 k 0) (.pure (.idxRow _ _ _ 9 (k) rfl Tryz.underlying23 sz9 rfl rfl rfl rfl a52)) (Ch.s (dS (xs.getD k default)) (.pure (.loadEl1 _ _ rfl ag9 rfl rfl get_mapA rfl rfl rfl)) (Ch.s (dS u) pm (Ch.s (dB (decide ((xs.getD k default) = u))) (.pure (.str _ _ _ _ _ rfl rfl rfl rfl)) (Ch.s (dB (decide ((xs.getD k default) = u))) (pT rfl) (Ch.nil ?_)))))))
   refine T_condD (p := ((xs.getD k default) = u)) rfl (fun h6 => ?_) (fun h6 => ?_)
   ·
    refine Ts hc (Ch.s (.row 1) pm (Ch.s (.row 1) pa (Ch.nil (T_ret ?_))))
    exact eR [(.row 1)] [] [1] (.cons (.tmp 4 rfl) .nil) eB (Exp.of (congrArg (D.slice true 1) a14) (.row rfl))
   ·
    refine Tk (Ts hc (Ch.s (.row 1) pm (Ch.s (dI (k : Int)) pm (Ch.s (.sub 1 1 k xs.length) (.pure (.subRow _ _ _ _ 9 (k) (xs.length) rfl Tryz.underlying23 sz9 rfl rfl (bndS rfl rfl) (bndN (by simp)) a24 a24)) ?_))))
    refine Ch.step (v := (.row 37000)) rfl (.call 37000 42 _ _ _ en42 rfl (.inl rfl) (.cons (.lend (.sub rfl a24 a24 a7)) .nil) rfl (sol (solid_row (fun _ => rfl) _) rfl) (sp_l1OwnS_b (xs.drop k) a46) (.skip _ _ .nil) rfl) rfl rfl ?_
    refine Ch.s (.row 37000) pa (Ch.nil (Ts hc (Ch.s (.row 1) pm (Ch.s (dI (k : Int)) pm (Ch.s (.sub 1 1 0 k) (.pure (.subRow _ _ _ _ 9 (0) (k) rfl Tryz.underlying23 sz9 rfl rfl (bndN rfl) (bndS rfl rfl) a24 a24)) ?_)))))
    refine Ch.step (v := (.row 41000)) rfl (.call 41000 42 _ _ _ en42 rfl (.inl rfl) (.cons (.lend (.sub rfl a24 a24 a7)) .nil) rfl (sol (solid_row (fun _ => rfl) _) rfl) (sp_l1OwnS_b (xs.take k) a46) (.skip _ _ .nil) rfl) rfl rfl ?_
    refine Ch.s (dS u) pm (Ch.s (.row 43000) (.slice 43000 _ 9 _ rfl sty23 (xs := [.tmp 42]) rfl rfl (.cons (.d _) .nil) rfl rfl (by decide)) ?_)
    refine Ch.step (v := (.row 44000)) rfl (.append 44000 _ _ _ 9 rfl sty23 (by decide) (.rowK rfl) (.inr ⟨_, rfl, rfl⟩) (.row rfl rfl) rfl a33) rfl rfl ?_
    refine Ch.s (.row 37000) pm ?_
    refine Ch.step (v := (.row 46000)) rfl (.append 46000 _ _ _ 9 rfl sty23 (by decide) (.rowK rfl) (.inr ⟨_, rfl, rfl⟩) (.row rfl (noUs_map (fun _ => rfl) _)) rfl a33) rfl rfl ?_
    refine Ch.s (.row 46000) pa (Ch.nil (T_ret ?_))
    exact eR [(.row 46000)] [] [46000] (.cons (.tmp 4 rfl) .nil) eB (Exp.of (congrArg (D.slice true 1) a14) (.row rfl))
  | false =>
   replace h5 := odf h5
   refine Ck (Ck (Ck (Ck (Ck (Ck (Ch.s (dB false) (pF rfl) (Ch.nil ?_)))))))
   refine T_cond (b := false) rfl (fun h => nomatch h) (fun _ => ?_)
   refine Tk (Ts hc (Ch.s (.row 1) pm (Ch.s (dI (k : Int)) pm (Ch.s (.sub 1 1 k xs.length) (.pure (.subRow _ _ _ _ 9 (k) (xs.length) rfl Tryz.underlying23 sz9 rfl rfl (bndS rfl rfl) (bndN (by simp)) a24 a24)) ?_))))
   refine Ch.step (v := (.row 37000)) rfl (.call 37000 42 _ _ _ en42 rfl (.inl rfl) (.cons (.lend (.sub rfl a24 a24 a7)) .nil) rfl (sol (solid_row (fun _ => rfl) _) rfl) (sp_l1OwnS_b (xs.drop k) a46) (.skip _ _ .nil) rfl) rfl rfl ?_
   refine Ch.s (.row 37000) pa (Ch.nil (Ts hc (Ch.s (.row 1) pm (Ch.s (dI (k : Int)) pm (Ch.s (.sub 1 1 0 k) (.pure (.subRow _ _ _ _ 9 (0) (k) rfl Tryz.underlying23 sz9 rfl rfl (bndN rfl) (bndS rfl rfl) a24 a24)) ?_)))))
   refine Ch.step (v := (.row 41000)) rfl (.call 41000 42 _ _ _ en42 rfl (.inl rfl) (.cons (.lend (.sub rfl a24 a24 a7)) .nil) rfl (sol (solid_row (fun _ => rfl) _) rfl) (sp_l1OwnS_b (xs.take k) a46) (.skip _ _ .nil) rfl) rfl rfl ?_
   refine Ch.s (dS u) pm (Ch.s (.row 43000) (.slice 43000 _ 9 _ rfl sty23 (xs := [.tmp 42]) rfl rfl (.cons (.d _) .nil) rfl rfl (by decide)) ?_)
   refine Ch.step (v := (.row 44000)) rfl (.append 44000 _ _ _ 9 rfl sty23 (by decide) (.rowK rfl) (.inr ⟨_, rfl, rfl⟩) (.row rfl rfl) rfl a33) rfl rfl ?_
   refine Ch.s (.row 37000) pm ?_
   refine Ch.step (v := (.row 46000)) rfl (.append 46000 _ _ _ 9 rfl sty23 (by decide) (.rowK rfl) (.inr ⟨_, rfl, rfl⟩) (.row rfl (noUs_map (fun _ => rfl) _)) rfl a33) rfl rfl ?_
   refine Ch.s (.row 46000) pa (Ch.nil (T_ret ?_))
   exact eR [(.row 46000)] [] [46000] (.cons (.tmp 4 rfl) .nil) eB (Exp.of (congrArg (D.slice true 1) a14) (.row rfl))

theorem sp_spec_l11Word (x : Sgr) (a : Arc) (hb : x.bulk ≤ 1048576) (h0 : 0 ≤ a.sig) (hs : a.sig.toNat < x.sigs.length) (hw : ∀ y ∈ x.sigs, y.name.length ≤ 1048576) : Sp Tryz.prog 44 [(.agg [(.slice false 2 (x.sigs.map Sgn.d)), (.slice false 1 (x.codes.map D.str)), (.slice false 4 (x.arcs.map Arc.d))]), (.agg [(.int .i64 a.src), (.int .i64 a.sig), (.bool (a.up)), (.int .i64 a.dst)])] [.any, .any] (.str (wrd x a)) := by
 refine Sp_intro (lend := true) Tryz.func44 rfl rfl rfl (fun _ => rfl) (fun c hc hX => ?_)
 obtain ⟨hp0, hp1, hp2⟩ := Sgr.parts hb
 have hn0 := bulkF_len hp0
 have hn1 := bulk_len hp1
 have hx1 := bulk_mem hp1
 have hn2 := bulkF_len hp2
 refine Ts hc (Ch.s (.ptr 2000 0) (.box 2000 _ _ rfl (.aggD _)) (Ch.s (.ptr 3000 0) (.box 3000 _ _ rfl (.aggD _)) (Ch.s (dS []) pa (Ch.nil (Tq (Tq ?_))))))
 refine Tz hc (Ch.s (.ptr 3000 2) (fP fld70_2 rfl) (Ch.s (dB (a.up)) (lP ag4 rfl rfl rfl) (Ch.nil ?_)))
 refine T_cond (b := (a.up)) rfl (fun h1 => ?_) (fun h1 => ?_)
 ·
  try have hwk := hw _ (getD_mem (l := x.sigs) (j := a.sig.toNat) (d := default) (by omega))
  refine Ts hc (Ch.s (.ptr 2000 0) (fP fld33_0 rfl) (Ch.s (.d (.slice false 2 (x.sigs.map Sgn.d))) (lP ag30 rfl rfl rfl) (Ch.s (.ptr 3000 1) (fP fld70_1 rfl) (Ch.s (dI a.sig) (lP ag3 rfl rfl rfl) (Ch.s (.d (.ref (.agg [(.str ((x.sigs.getD ((a.sig).toNat) default).name)), (.int .i64 ((x.sigs.getD ((a.sig).toNat) default).kind))]))) (.pure (.idx _ _ _ 76 ((a.sig).toNat) rfl Tryz.underlying30 sz76 rfl rfl (by omega) get_mapA)) (Ch.s (.d (.ref (.str ((x.sigs.getD ((a.sig).toNat) default).name)))) (.pure (.fldRef _ _ _ rfl fld76_0 rfl rfl rfl)) ?_))))))
  refine Ch.s (dS ((x.sigs.getD ((a.sig).toNat) default).name)) (rF ag9 rfl rfl) (Ch.s (dS (((x.sigs.getD ((a.sig).toNat) default).name) ++ [43])) (.pure (.str _ _ _ _ _ rfl rfl rfl (strV_add a24))) (Ch.s (dS (((x.sigs.getD ((a.sig).toNat) default).name) ++ [43])) pa (Ch.nil (T_ret ?_))))
  exact eR [(dS (((x.sigs.getD ((a.sig).toNat) default).name) ++ [43]))] [] [] (.cons (.tmp 4 rfl) .nil) eB (Exp.of (congrArg D.str a55) (.d _))
 ·
  try have hwk := hw _ (getD_mem (l := x.sigs) (j := a.sig.toNat) (d := default) (by omega))
  refine Tk (Ts hc (Ch.s (.ptr 2000 0) (fP fld33_0 rfl) (Ch.s (.d (.slice false 2 (x.sigs.map Sgn.d))) (lP ag30 rfl rfl rfl) (Ch.s (.ptr 3000 1) (fP fld70_1 rfl) (Ch.s (dI a.sig) (lP ag3 rfl rfl rfl) (Ch.s (.d (.ref (.agg [(.str ((x.sigs.getD ((a.sig).toNat) default).name)), (.int .i64 ((x.sigs.getD ((a.sig).toNat) default).kind))]))) (.pure (.idx _ _ _ 76 ((a.sig).toNat) rfl Tryz.underlying30 sz76 rfl rfl (by omega) get_mapA)) ?_))))))
  refine Ch.s (.d (.ref (.str ((x.sigs.getD ((a.sig).toNat) default).name)))) (.pure (.fldRef _ _ _ rfl fld76_0 rfl rfl rfl)) (Ch.s (dS ((x.sigs.getD ((a.sig).toNat) default).name)) (rF ag9 rfl rfl) (Ch.s (dS (((x.sigs.getD ((a.sig).toNat) default).name) ++ [45])) (.pure (.str _ _ _ _ _ rfl rfl rfl (strV_add a24))) (Ch.s (dS (((x.sigs.getD ((a.sig).toNat) default).name) ++ [45])) pa (Ch.nil (T_ret ?_)))))
  exact eR [(dS (((x.sigs.getD ((a.sig).toNat) default).name) ++ [45]))] [] [] (.cons (.tmp 4 rfl) .nil) eB (Exp.of (congrArg D.str a55) (.d _))

set_option maxHeartbeats 1000000 in
theorem sp_spec_l11Still (x : Sgr) (hid : Int) (s : List Int) (hb : x.bulk ≤ 1048576) (hx : SgOk x) (hr : Rising s) (hin : ∀ a ∈ s, 0 ≤ a ∧ a.toNat < x.codes.length) : Sp Tryz.prog 18 [(.agg [(.slice false 2 (x.sigs.map Sgn.d)), (.slice false 1 (x.codes.map D.str)), (.slice false 4 (x.arcs.map Arc.d))]), (.int .i64 hid), (.slice true 1 (s.map (fun n : Int => D.int .i64 n)))] [.any, .any, .any] (.slice true 1 ((still x hid s).map (fun n : Int => D.int .i64 n))) := by
 refine Sp_intro (lend := false) Tryz.func18 rfl rfl rfl (fun h => nomatch h) (fun c hc hX => ?_)
 obtain ⟨hp0, hp1, hp2⟩ := Sgr.parts hb
 have hn0 := bulkF_len hp0
 have hn1 := bulk_len hp1
 have hx1 := bulk_mem hp1
 have hn2 := bulkF_len hp2; have hxl := hx.len; have hxf := hx.few; have hen := hx.ends; have hx8 := hx.eight
 refine Ts hc (Ch.s (.ptr 3000 0) (.box 3000 _ _ rfl (.aggD _)) (Ch.s (.c (.slice none 0 0)) pa (Ch.nil (Tq (Tq (Tz hc ?_))))))
 refine Ch.s (.ptr 3000 1) (fP fld33_1 rfl) (Ch.s (.d (.slice false 1 (x.codes.map D.str))) (lP ag23 rfl rfl rfl) (Ch.s (dI (x.codes.length : Int)) (.pure (.len _ _ 9 rfl Tryz.underlying23 (.sh _ _) (by simp))) (Ch.s (dI 0) pm (Ch.nil (Tb ?_)))))
 refine T_loop (ι := Nat) (fun p => { n := 43, sl := [(1, (dI hid)), (2, (.row 602)), (3, (.ptr 3000 0)), (11, (dI (x.codes.length : Int))), (12, (dI (p : Int)))], hp := [(602, (some (.row 1 ((reachL (silB hid) x.arcs p s).map (fun n : Int => D.int .i64 n))))), (3000, (some (.box (vX x))))], pin := [1] }) (fun p => p ≤ x.codes.length) (fun p => x.codes.length - p) ⟨0, (by omega), (Wk.ren [(602, 1)] rfl rfl rfl rfl (ar (ar (ar (ar (ai (vI a67) trivial))))) (ai (oR a47) (ar trivial)))⟩ (fun p hp0 => ?_)
 refine Ts hc (Ch.s (dB (decide ((p : Int) < (x.codes.length : Int)))) (iX rfl rfl rfl) (Ch.nil (Tq ?_)))
 refine T_condD (p := ((p : Int) < (x.codes.length : Int))) rfl (fun h1 => ?_) (fun h1 => ?_)
 ·
  refine Tk (Tq (Tb (Ts hc (Ch.s (.ptr 3000 2) (fP fld33_2 rfl) (Ch.s (.d (.slice false 4 (x.arcs.map Arc.d))) (lP ag31 rfl rfl rfl) (Ch.s (dI (x.arcs.length : Int)) (.pure (.len _ _ 70 rfl Tryz.underlying31 (.sh _ _) (by simp))) ?_))))))
  refine Ch.s (dI 0) pm (Ch.nil (Tb ?_))
  refine T_loop (ι := Nat) (fun m => { n := 43, sl := [(1, (dI hid)), (2, (.row 602)), (3, (.ptr 3000 0)), (11, (dI (x.codes.length : Int))), (12, (dI (p : Int))), (15, (.d (.slice false 4 (x.arcs.map Arc.d)))), (16, (dI (x.arcs.length : Int))), (17, (dI (m : Int)))], hp := [(602, (some (.row 1 ((stlK x hid s p m).map (fun n : Int => D.int .i64 n))))), (3000, (some (.box (vX x))))], pin := [1] }) (fun m => m ≤ x.arcs.length) (fun m => x.arcs.length - m) ⟨0, (by omega), (Wk.of rfl rfl (ar (ar (ar (ar (ar (ar (ar (ai (vI a67) trivial)))))))) (ai (oR a15) (ar trivial)))⟩ (fun m hp1 => ?_)
  obtain ⟨hrb, hlb⟩ := stl_ok hen hid hr hin p m hp1
  refine Ts hc (Ch.s (dB (decide ((m : Int) < (x.arcs.length : Int)))) (iX rfl rfl rfl) (Ch.nil (Tq ?_)))
  refine T_condD (p := ((m : Int) < (x.arcs.length : Int))) rfl (fun h2 => ?_) (fun h2 => ?_)
  ·
   refine Tk (Tq (Tb (Ts hc (Ch.s (.d (.ref (.agg [(.int .i64 ((x.arcs.getD m default).src)), (.int .i64 ((x.arcs.getD m default).sig)), (.bool ((x.arcs.getD m default).up)), (.int .i64 ((x.arcs.getD m default).dst))]))) (.pure (.idx _ _ _ 70 (m) rfl Tryz.underlying31 sz70 rfl rfl rfl get_mapA)) (Ch.s (.d (.agg [(.int .i64 ((x.arcs.getD m default).src)), (.int .i64 ((x.arcs.getD m default).sig)), (.bool ((x.arcs.getD m default).up)), (.int .i64 ((x.arcs.getD m default).dst))])) (.pure (.loadRefA _ _ rfl ag70 sz70 rfl)) (Ch.s (.ptr 8000 0) (.alloc 8000 _ rfl zer70) ?_))))))
   refine Ch.s .junk (.storePtr _ _ _ rfl rfl rfl (.aggD _) sz70 (lb rfl)) (Ch.nil (Ts hc (Ch.s (.ptr 8000 1) (fP fld70_1 rfl) (Ch.s (dI ((x.arcs.getD m default).sig)) (lP ag3 rfl rfl rfl) (Ch.s (dB (decide (((x.arcs.getD m default).sig) = (-1)))) (iX rfl rfl rfl) (Ch.s (dB (decide (((x.arcs.getD m default).sig) = (-1)))) pm ?_))))))
   cases h3 : (decide (((x.arcs.getD m default).sig) = (-1))) with
   | true =>
    replace h3 := odt h3
    refine Ck (Ck (Ck (Ck (Ch.s (dB true) (pT rfl) (Ch.s (dB true) pm (Ch.s (.row 602) pm (Ch.s (.ptr 8000 0) (fP fld70_0 rfl) ?_)))))))
    refine Ch.s (dI ((x.arcs.getD m default).src)) (lP ag3 rfl rfl rfl) (Ch.s (dB (hasI (stlK x hid s p m) ((x.arcs.getD m default).src))) (.call 34000 40 _ _ _ en40 rfl (.inl rfl) (.cons (.lend (.row rfl (frozs_map (fun _ => rfl) _))) (.cons (.d _) .nil)) rfl rfl (sp_spec_l1Has (stlK x hid s p m) ((x.arcs.getD m default).src) a21) (.skip _ _ (.skip _ _ .nil)) rfl) (Ch.s (dB (hasI (stlK x hid s p m) ((x.arcs.getD m default).src))) (pT rfl) (Ch.nil ?_)))
    refine T_cond (b := (hasI (stlK x hid s p m) ((x.arcs.getD m default).src))) rfl (fun h4 => ?_) (fun h4 => ?_)
    ·
     refine Tz hc (Ch.s (.row 602) pm (Ch.s (.ptr 8000 3) (fP fld70_3 rfl) (Ch.s (dI ((x.arcs.getD m default).dst)) (lP ag3 rfl rfl rfl) ?_)))
     refine Ch.step (v := (.row 39000)) rfl (.call 39000 41 _ _ _ en41 rfl (.inl rfl) (.cons (.row rfl) (.cons (.d _) .nil)) rfl (sol (solid_row (fun _ => rfl) _) rfl) (sp_spec_l1Put (stlK x hid s p m) ((x.arcs.getD m default).dst) a21 a68) (.skip _ _ (.skip _ _ .nil)) rfl) rfl rfl ?_
     refine Ch.s (.row 39000) pa (Ch.nil (Tz hc (Ch.s (dI ((m : Int) + 1)) (iX rfl rfl intV_addA) (Ch.s (dI ((m : Int) + 1)) pm (Ch.nil ?_)))))
     exact nx (m + 1) (by omega) (Wk.ren [(602, 39000)] rfl rfl rfl rfl (ar (ar (ar (ar (ar (ar (ar (ai (vI a67) trivial)))))))) (ai (oR a15) (ar trivial)))
    ·
     refine Tk (Tz hc (Ch.s (dI ((m : Int) + 1)) (iX rfl rfl intV_addA) (Ch.s (dI ((m : Int) + 1)) pm (Ch.nil ?_))))
     exact nx (m + 1) (by omega) (Wk.of rfl rfl (ar (ar (ar (ar (ar (ar (ar (ai (vI a67) trivial)))))))) (ai (oR a15) (ar trivial)))
   | false =>
    replace h3 := odf h3
    refine Ch.s (.ptr 8000 1) (fP fld70_1 rfl) (Ch.s (dI ((x.arcs.getD m default).sig)) (lP ag3 rfl rfl rfl) (Ch.s (dI hid) pm (Ch.s (dB (decide (((x.arcs.getD m default).sig) = hid))) (iX rfl rfl rfl) (Ch.s (dB (decide (((x.arcs.getD m default).sig) = hid))) (pF rfl) (Ch.s (dB (decide (((x.arcs.getD m default).sig) = hid))) pm ?_)))))
    cases h5 : (decide (((x.arcs.getD m default).sig) = hid)) with
    | true =>
     replace h5 := odt h5
     refine Ch.s (.row 602) pm (Ch.s (.ptr 8000 0) (fP fld70_0 rfl) (Ch.s (dI ((x.arcs.getD m default).src)) (lP ag3 rfl rfl rfl) (Ch.s (dB (hasI (stlK x hid s p m) ((x.arcs.getD m default).src))) (.call 34000 40 _ _ _ en40 rfl (.inl rfl) (.cons (.lend (.row rfl (frozs_map (fun _ => rfl) _))) (.cons (.d _) .nil)) rfl rfl (sp_spec_l1Has (stlK x hid s p m) ((x.arcs.getD m default).src) a21) (.skip _ _ (.skip _ _ .nil)) rfl) (Ch.s (dB (hasI (stlK x hid s p m) ((x.arcs.getD m default).src))) (pT rfl) (Ch.nil ?_)))))
     refine T_cond (b := (hasI (stlK x hid s p m) ((x.arcs.getD m default).src))) rfl (fun h6 => ?_) (fun h6 => ?_)
     ·
      refine Tz hc (Ch.s (.row 602) pm (Ch.s (.ptr 8000 3) (fP fld70_3 rfl) (Ch.s (dI ((x.arcs.getD m default).dst)) (lP ag3 rfl rfl rfl) ?_)))
      refine Ch.step (v := (.row 39000)) rfl (.call 39000 41 _ _ _ en41 rfl (.inl rfl) (.cons (.row rfl) (.cons (.d _) .nil)) rfl (sol (solid_row (fun _ => rfl) _) rfl) (sp_spec_l1Put (stlK x hid s p m) ((x.arcs.getD m default).dst) a21 a68) (.skip _ _ (.skip _ _ .nil)) rfl) rfl rfl ?_
      refine Ch.s (.row 39000) pa (Ch.nil (Tz hc (Ch.s (dI ((m : Int) + 1)) (iX rfl rfl intV_addA) (Ch.s (dI ((m : Int) + 1)) pm (Ch.nil ?_)))))
      exact nx (m + 1) (by omega) (Wk.ren [(602, 39000)] rfl rfl rfl rfl (ar (ar (ar (ar (ar (ar (ar (ai (vI a67) trivial)))))))) (ai (oR a15) (ar trivial)))
     ·
      refine Tk (Tz hc (Ch.s (dI ((m : Int) + 1)) (iX rfl rfl intV_addA) (Ch.s (dI ((m : Int) + 1)) pm (Ch.nil ?_))))
      exact nx (m + 1) (by omega) (Wk.of rfl rfl (ar (ar (ar (ar (ar (ar (ar (ai (vI a67) trivial)))))))) (ai (oR a15) (ar trivial)))
    | false =>
     replace h5 := odf h5
     refine Ck (Ck (Ck (Ck (Ch.s (dB false) (pF rfl) (Ch.nil ?_)))))
     refine T_cond (b := false) rfl (fun h => nomatch h) (fun _ => ?_)
     refine Tk (Tz hc (Ch.s (dI ((m : Int) + 1)) (iX rfl rfl intV_addA) (Ch.s (dI ((m : Int) + 1)) pm (Ch.nil ?_))))
     exact nx (m + 1) (by omega) (Wk.of rfl rfl (ar (ar (ar (ar (ar (ar (ar (ai (vI a67) trivial)))))))) (ai (oR a15) (ar trivial)))
  ·
   refine T_exit (Tz hc (Ch.s (dI ((p : Int) + 1)) (iX rfl rfl intV_addA) (Ch.s (dI ((p : Int) + 1)) pm (Ch.nil ?_))))
   exact nx (p + 1) (by omega) (Wk.of rfl rfl (ar (ar (ar (ar (ai (vI a67) trivial))))) (ai (oR a47) (ar trivial)))
 ·
  refine T_exit (Ts hc (Ch.s (.row 602) pm (Ch.s (.row 602) pa (Ch.nil (T_ret ?_)))))
  exact eR [(.row 602)] [] [602] (.cons (.tmp 6 rfl) .nil) eC (Exp.of (congrArg (D.slice true 1) (by rw [show p = x.codes.length by omega]; rfl)) (.row rfl))

set_option maxHeartbeats 1000000 in
theorem sp_spec_l11Put (n : Nat) (l : List Trc) (t : Trc) (hn : n ≤ 300) (hl : l.length ≤ 16777000) (hok : ∀ y ∈ l, TrcOk n y) (ht : TrcOk n t) : Sp Tryz.prog 43 [(.slice true 3 (l.map Trc.u)), (.agg [(.str t.seen), (.slice true 1 (t.pos.map (fun n : Int => D.int .i64 n))), (.int .i64 t.many)])] [.any, .any] (.slice true 3 ((putT l t).map Trc.u)) := by
 refine Sp_intro (lend := false) Tryz.func43 rfl rfl rfl (fun h => nomatch h) (fun c hc hX => ?_)
 have htl := ht.len
 refine Ts hc (Ch.s (.ptr 3000 0) (.box 3000 _ _ rfl (.agg _ rfl)) (Ch.s (.c (.slice none 0 0)) pa (Ch.nil (Tq (Tq (Tz hc ?_))))))
 refine Ch.s (.row 1) pm (Ch.s (dI (l.length : Int)) (.pure (.len _ _ 47 rfl Tryz.underlying48 (.row rfl) (by simp))) (Ch.s (dI 0) pm (Ch.nil (Tb ?_))))
 refine T_loop (ι := Nat) (fun k => { n := 56, sl := [(0, (.row 1)), (3, (.ptr 3000 0)), (9, (dI (l.length : Int))), (10, (dI (k : Int)))], hp := [(1, (some (.row 3 (l.map Trc.u)))), (2, (some (.row 1 (t.pos.map (fun n : Int => D.int .i64 n))))), (3000, (some (.box [(dS t.seen), (.row 2), (dI t.many)])))], pin := [1, 2] }) (fun k => k ≤ l.length ∧ ∀ j, j < k → ¬ ((l.getD j default).seen = t.seen ∧ (l.getD j default).many = t.many)) (fun k => l.length - k) ⟨0, ⟨by omega, fun j hj => by omega⟩, (Wk.of rfl rfl (ar (ar (ar (ai (vI a67) trivial)))) (ar (ar (ar trivial))))⟩ (fun k hp0 => ?_)
 refine Ts hc (Ch.s (dB (decide ((k : Int) < (l.length : Int)))) (iX rfl rfl rfl) (Ch.nil (Tq ?_)))
 refine T_condD (p := ((k : Int) < (l.length : Int))) rfl (fun h1 => ?_) (fun h1 => ?_)
 ·
  refine Tk (Tq (Tb (Ts hc (Ch.s (dI (k : Int)) pm (Ch.s (dI (k : Int)) pa (Ch.nil ?_))))))
  refine Tq ?_
  refine T_regionD hc (by kernel_rfl) ?_
  refine ChD.s (.row 1) [] pm (ChD.s (dI (k : Int)) [] pm (ChD.s (.el 1 3 k 0) [1] (.pure (.idxRow _ _ _ 47 (k) rfl Tryz.underlying48 sz47 rfl rfl rfl rfl a52)) (ChD.s (.el 1 3 k 0) [] (.pure (.fldEl _ _ _ rfl fld47_0 rfl)) (ChD.s (dS ((l.getD k default).seen)) [1] (.pure (.loadEl1 _ _ rfl ag9 rfl rfl get_mapA rfl rfl rfl)) (ChD.s (.ptr 3000 0) [] (fP fld47_0 rfl) (ChD.s (dS t.seen) [3000] (lP ag9 rfl rfl rfl) (ChD.s (dB (decide (((l.getD k default).seen) = t.seen))) [] (.pure (.str _ _ _ _ _ rfl rfl rfl rfl)) ?_)))))))
  refine ChD.s (dB (decide (((l.getD k default).seen) = t.seen))) [] pm ?_
  cases h2 : (decide (((l.getD k default).seen) = t.seen)) with
  | true =>
   replace h2 := odt h2
   refine ChD.s (.row 1) [] pm (ChD.s (dI (k : Int)) [] pm (ChD.s (.el 1 3 k 0) [1] (.pure (.idxRow _ _ _ 47 (k) rfl Tryz.underlying48 sz47 rfl rfl rfl rfl a52)) (ChD.s (.el 1 3 k 2) [] (.pure (.fldEl _ _ _ rfl fld47_2 rfl)) (ChD.s (dI ((l.getD k default).many)) [1] (.pure (.loadEl1 _ _ rfl ag3 rfl rfl get_mapA rfl rfl rfl)) (ChD.s (.ptr 3000 2) [] (fP fld47_2 rfl) (ChD.s (dI t.many) [3000] (lP ag3 rfl rfl rfl) (ChD.s (dB (decide (((l.getD k default).many) = t.many))) [] (iX rfl rfl rfl) ?_)))))))
   refine ChD.s (dB (decide (((l.getD k default).many) = t.many))) [] (pT rfl) ?_
   refine ChD.nil (And.intro ?_ (by kernel_rfl))
   refine T_condD (p := (((l.getD k default).many) = t.many)) rfl (fun h3 => ?_) (fun h3 => ?_)
   ·
    refine Tq (Ts hc (Ch.s (.ptr 3000 1) (fP fld47_1 rfl) (Ch.s (.row 2) (lP ag44 rfl rfl rfl) (Ch.s (dI (t.pos.length : Int)) (.pure (.len _ _ 3 rfl Tryz.underlying44 (.row rfl) (by simp))) (Ch.s (dI 0) pm (Ch.nil ?_))))))
    refine Tb ?_
    refine T_loop (ι := Nat) (fun m => { n := 56, sl := [(0, (.row 1)), (5, (dI (k : Int))), (32, (.row 2)), (33, (dI (t.pos.length : Int))), (34, (dI (m : Int)))], hp := [(1, (some (.row 3 ((setT l k (foldPk t.pos (l.getD k default).pos m)).map Trc.u)))), (2, (some (.row 1 (t.pos.map (fun n : Int => D.int .i64 n)))))], pin := [1, 2] }) (fun m => m ≤ t.pos.length) (fun m => t.pos.length - m) ⟨0, (by omega), (Wk.of rfl rfl (ar (ar (ar (ar (ai (vI a67) trivial))))) (ai (oR a40) (ar trivial)))⟩ (fun m hp1 => ?_)
    have hok2 := hok _ (getD_mem (l := l) (j := k) (d := default) (by omega)); have hfk := foldPk_ok hok2.rise hok2.inn ht.inn m; have hse := setT_at (l := l) (k := k) (by omega) (foldPk t.pos (l.getD k default).pos m); have hsl := setT_len l k (foldPk t.pos (l.getD k default).pos m); have hpr : Rising ((setT l k (foldPk t.pos (l.getD k default).pos m)).getD k default).pos := (by rw [hse]; exact hfk.1); have hpl : ((setT l k (foldPk t.pos (l.getD k default).pos m)).getD k default).pos.length ≤ n := (by rw [hse]; exact hfk.2)
    refine Ts hc (Ch.s (dB (decide ((m : Int) < (t.pos.length : Int)))) (iX rfl rfl rfl) (Ch.nil (Tq ?_)))
    refine T_condD (p := ((m : Int) < (t.pos.length : Int))) rfl (fun h4 => ?_) (fun h4 => ?_)
    ·
     refine Tk (Tq (Tb (Ts hc (Ch.s (.el 2 1 m 0) (.pure (.idxRow _ _ _ 3 (m) rfl Tryz.underlying44 sz3 rfl rfl rfl rfl a52)) (Ch.s (dI (t.pos.getD m default)) (.pure (.loadEl1 _ _ rfl ag3 rfl rfl get_mapA rfl rfl rfl)) (Ch.s (dI (t.pos.getD m default)) pa ?_))))))
     refine Ch.nil ?_
     refine T_takeF 1 k 1 7000002 7000003 rfl get_mapA rfl rfl rfl (fun u1 => ?_)
     refine Tz hc (Ch.s (.row 1) pm (Ch.s (dI (k : Int)) pm (Ch.s (.row 1) pm (Ch.s (dI (k : Int)) pm (Ch.s (.el 1 3 k 0) (.pure (.idxRow _ _ _ 47 (k) rfl Tryz.underlying48 sz47 rfl rfl rfl rfl a52)) (Ch.s (.el 1 3 k 1) (.pure (.fldEl _ _ _ rfl fld47_1 rfl)) (Ch.s (.row 7000002) (.pure (.loadHoleF (n := 7000002) (m := 7000003) (u := u1) _ _ rfl ag44 rfl rfl (get_set a52) rfl rfl rfl rfl rfl)) ?_)))))))
     refine Ch.s (dI (t.pos.getD m default)) pm ?_
     refine Ch.step (v := (.row 46000)) rfl (.call 46000 41 _ _ _ en41 rfl (.inl rfl) (.cons (.row rfl) (.cons (.d _) .nil)) rfl (sol (solid_row (fun _ => rfl) _) rfl) (sp_spec_l1Put (((setT l k (foldPk t.pos (l.getD k default).pos m)).getD k default).pos) (t.pos.getD m default) a21 a68) (.skip _ _ (.skip _ _ .nil)) rfl) rfl rfl ?_
     refine Ch.s (.el 1 3 k 0) (.pure (.idxRow _ _ _ 47 (k) rfl Tryz.underlying48 sz47 rfl rfl rfl rfl a52)) (Ch.s (.el 1 3 k 1) (.pure (.fldEl _ _ _ rfl fld47_1 rfl)) (Ch.s .junk (.storeElK (y' := (.agg [(.str (((setT l k (foldPk t.pos (l.getD k default).pos m)).getD k default).seen)), (.slice true 1 ((putI (((setT l k (foldPk t.pos (l.getD k default).pos m)).getD k default).pos) (t.pos.getD m default)).map (fun n : Int => D.int .i64 n))), (.int .i64 (((setT l k (foldPk t.pos (l.getD k default).pos m)).getD k default).many))])) _ _ _ rfl rfl rfl (.row rfl) rfl rfl rfl sz44 rfl (get_set a52) rfl rfl) (Ch.nil (Tz hc (Ch.s (dI ((m : Int) + 1)) (iX rfl rfl intV_addA) (Ch.s (dI ((m : Int) + 1)) pm (Ch.nil ?_)))))))
     exact nx (m + 1) (by omega) (Wk.of rfl rfl (ar (ar (ar (ar (ai (vI a67) trivial))))) (ai (oR a40) (ar trivial)))
    ·
     refine T_exit (Ts hc (Ch.s (.row 1) pm (Ch.s (.row 1) pa (Ch.nil (T_ret ?_)))))
     exact eR [(.row 1)] [] [1] (.cons (.tmp 4 rfl) .nil) eB (Exp.of (congrArg (D.slice true 3) a34) (.row rfl))
   ·
    refine Tk (Tz hc (Ch.s (dI ((k : Int) + 1)) (iX rfl rfl intV_addA) (Ch.s (dI ((k : Int) + 1)) pm (Ch.nil ?_))))
    exact nx (k + 1) ⟨by omega, upto_succ hp0.2 (fun hh => by first | exact absurd hh.1 (by assumption) | exact absurd hh.2 (by assumption))⟩ (Wk.of rfl rfl (ar (ar (ar (ai (vI a67) trivial)))) (ar (ar (ar trivial))))
  | false =>
   replace h2 := odf h2
   refine ChD.skip rfl rfl (ChD.skip rfl rfl (ChD.skip rfl rfl (ChD.skip rfl rfl (ChD.skip rfl rfl (ChD.skip rfl rfl (ChD.skip rfl rfl (ChD.skip rfl rfl ?_)))))))
   refine ChD.s (dB false) [] (pF rfl) ?_
   refine ChD.nil (And.intro ?_ (by kernel_rfl))
   refine T_cond (b := false) rfl (fun h => nomatch h) (fun _ => ?_)
   refine Tk (Tz hc (Ch.s (dI ((k : Int) + 1)) (iX rfl rfl intV_addA) (Ch.s (dI ((k : Int) + 1)) pm (Ch.nil ?_))))
   exact nx (k + 1) ⟨by omega, upto_succ hp0.2 (fun hh => by first | exact absurd hh.1 (by assumption) | exact absurd hh.2 (by assumption))⟩ (Wk.of rfl rfl (ar (ar (ar (ai (vI a67) trivial)))) (ar (ar (ar trivial))))
 ·
  refine T_exit (Ts hc (Ch.s (.row 1) pm (Ch.s (.agg [(dS t.seen), (.row 2), (dI t.many)]) (lA ag47 sz47 rfl rfl (lb rfl) rfl) (Ch.s (.row 54000) (.slice 54000 _ 47 _ rfl sty48 (xs := [.tmp 53]) rfl rfl (.cons (.agg (.cons (.d _) (.cons (.row rfl) (.cons (.d _) .nil))) rfl) .nil) rfl rfl (by decide)) ?_))))
  refine Ch.step (v := (.row 55000)) rfl (.append 55000 _ _ _ 47 rfl sty48 (by decide) (.rowK rfl) (.inr ⟨_, rfl, rfl⟩) (.rowK rfl) rfl a33) rfl rfl ?_
  refine Ch.s (.row 55000) pa (Ch.nil (T_ret ?_))
  exact eR [(.row 55000)] [] [55000] (.cons (.tmp 4 rfl) .nil) eB (Exp.of (congrArg (D.slice true 3) a34) (.row rfl))

set_option maxHeartbeats 2000000 in
theorem sp_spec_l11More (kk : Nat) (x : Sgr) (hid : Int) (l : List Trc) (hb : x.bulk ≤ 1048576) (hx : SgOk x) (h6 : kk ≤ 6) (hrf : RefOK x hid kk l) (hll : l.length ≤ 400) (htx : ∀ t ∈ l, t.seen.length ≤ 7 * kk) : Sp Tryz.prog 20 [(.agg [(.slice false 2 (x.sigs.map Sgn.d)), (.slice false 1 (x.codes.map D.str)), (.slice false 4 (x.arcs.map Arc.d))]), (.int .i64 hid), (.slice false 3 (l.map Trc.d))] [.any, .any, .any] (.slice true 3 ((more x hid l).map Trc.u)) := by
 refine Sp_intro (lend := true) Tryz.func20 rfl rfl rfl (fun _ => rfl) (fun c hc hX => ?_)
 obtain ⟨hp0, hp1, hp2⟩ := Sgr.parts hb
 have hn0 := bulkF_len hp0
 have hn1 := bulk_len hp1
 have hx1 := bulk_mem hp1
 have hn2 := bulkF_len hp2; have hxl := hx.len; have hxf := hx.few; have hen := hx.ends; have hx8 := hx.eight
 refine Ts hc (Ch.s (.ptr 3000 0) (.box 3000 _ _ rfl (.aggD _)) (Ch.s (.c (.slice none 0 0)) pa (Ch.nil (Ts hc (Ch.s (.c (.slice none 0 0)) pa ?_)))))
 refine Ch.nil (Tq (Ts hc (Ch.s (.d (.slice false 3 (l.map Trc.d))) pm (Ch.s (dI (l.length : Int)) (.pure (.len _ _ 47 rfl Tryz.underlying48 (.sh _ _) (by simp))) (Ch.s (dI 0) pm (Ch.nil ?_))))))
 refine Tb ?_
 refine T_loop (ι := Nat) (fun k => { n := 78, sl := [(1, (dI hid)), (3, (.ptr 3000 0)), (7, (.row 7)), (13, (.d (.slice false 3 (l.map Trc.d)))), (14, (dI (l.length : Int))), (15, (dI (k : Int)))], hp := [(7, (some (.row 3 ((morR x hid l k 0).map Trc.u)))), (3000, (some (.box (vX x))))], pin := [] }) (fun k => k ≤ l.length) (fun k => l.length - k) ⟨0, (by omega), (Wk.trans (Wk.nilrow 7 900007 3 rfl rfl rfl) (Wk.ren [(7, 900007)] rfl rfl rfl rfl (ar (ar (ar (ar (ar (ai (vI a67) trivial)))))) (ai (oR a53) (ar trivial))))⟩ (fun k hp0 => ?_)
 refine Ts hc (Ch.s (dB (decide ((k : Int) < (l.length : Int)))) (iX rfl rfl rfl) (Ch.nil (Tq ?_)))
 refine T_condD (p := ((k : Int) < (l.length : Int))) rfl (fun h1 => ?_) (fun h1 => ?_)
 ·
  refine Tk (Tq (Tb (Ts hc (Ch.s (.d (.ref (.agg [(.str ((l.getD k default).seen)), (.slice false 1 (((l.getD k default).pos).map (fun n : Int => D.int .i64 n))), (.int .i64 ((l.getD k default).many))]))) (.pure (.idx _ _ _ 47 (k) rfl Tryz.underlying48 sz47 rfl rfl rfl get_mapA)) (Ch.s (.d (.agg [(.str ((l.getD k default).seen)), (.slice false 1 (((l.getD k default).pos).map (fun n : Int => D.int .i64 n))), (.int .i64 ((l.getD k default).many))])) (.pure (.loadRefA _ _ rfl ag47 sz47 rfl)) (Ch.s (.ptr 9000 0) (.alloc 9000 _ rfl zer47) ?_))))))
  refine Ch.s .junk (.storePtr _ _ _ rfl rfl rfl (.aggD _) sz47 (lb rfl)) (Ch.nil (Ts hc (Ch.s (.ptr 3000 2) (fP fld33_2 rfl) (Ch.s (.d (.slice false 4 (x.arcs.map Arc.d))) (lP ag31 rfl rfl rfl) (Ch.s (dI (x.arcs.length : Int)) (.pure (.len _ _ 70 rfl Tryz.underlying31 (.sh _ _) (by simp))) (Ch.s (dI 0) pm ?_))))))
  refine Ch.nil (Tb ?_)
  refine T_loop (ι := Nat) (fun m => { n := 78, sl := [(1, (dI hid)), (3, (.ptr 3000 0)), (7, (.row 7)), (9, (.ptr 9000 0)), (13, (.d (.slice false 3 (l.map Trc.d)))), (14, (dI (l.length : Int))), (15, (dI (k : Int))), (20, (.d (.slice false 4 (x.arcs.map Arc.d)))), (21, (dI (x.arcs.length : Int))), (22, (dI (m : Int)))], hp := [(7, (some (.row 3 ((morR x hid l k m).map Trc.u)))), (3000, (some (.box (vX x)))), (9000, (some (.box [(dS ((l.getD k default).seen)), (.d (.slice false 1 (((l.getD k default).pos).map (fun n : Int => D.int .i64 n)))), (dI ((l.getD k default).many))])))], pin := [] }) (fun m => m ≤ x.arcs.length) (fun m => x.arcs.length - m) ⟨0, (by omega), (Wk.of rfl rfl (ar (ar (ar (ar (ar (ar (ar (ar (ar (ai (vI a67) trivial)))))))))) (ar (ar (ar trivial))))⟩ (fun m hp1 => ?_)
  have hmk := mok_all hx (hid := hid) hrf.tok.many k m (.inl ⟨by omega, hp1⟩); have htk := htx _ (getD_mem (l := l) (j := k) (d := default) (by omega)); have hmy := hrf.tok.many _ (getD_mem (l := l) (j := k) (d := default) (by omega)); have hps := (hrf.tok.ok _ (getD_mem (l := l) (j := k) (d := default) (by omega))).len
  refine Ts hc (Ch.s (dB (decide ((m : Int) < (x.arcs.length : Int)))) (iX rfl rfl rfl) (Ch.nil (Tq ?_)))
  refine T_condD (p := ((m : Int) < (x.arcs.length : Int))) rfl (fun h2 => ?_) (fun h2 => ?_)
  ·
   refine Tk (Tq (Tb (Ts hc (Ch.s (.d (.ref (.agg [(.int .i64 ((x.arcs.getD m default).src)), (.int .i64 ((x.arcs.getD m default).sig)), (.bool ((x.arcs.getD m default).up)), (.int .i64 ((x.arcs.getD m default).dst))]))) (.pure (.idx _ _ _ 70 (m) rfl Tryz.underlying31 sz70 rfl rfl rfl get_mapA)) (Ch.s (.d (.agg [(.int .i64 ((x.arcs.getD m default).src)), (.int .i64 ((x.arcs.getD m default).sig)), (.bool ((x.arcs.getD m default).up)), (.int .i64 ((x.arcs.getD m default).dst))])) (.pure (.loadRefA _ _ rfl ag70 sz70 rfl)) (Ch.s (.ptr 11000 0) (.alloc 11000 _ rfl zer70) ?_))))))
   refine Ch.s .junk (.storePtr _ _ _ rfl rfl rfl (.aggD _) sz70 (lb rfl)) (Ch.nil (Ts hc (Ch.s (.ptr 11000 1) (fP fld70_1 rfl) (Ch.s (dI ((x.arcs.getD m default).sig)) (lP ag3 rfl rfl rfl) (Ch.s (dB (!(decide (((x.arcs.getD m default).sig) = (-1))))) (iX rfl rfl rfl) (Ch.s (dB (!(decide (((x.arcs.getD m default).sig) = (-1))))) pm ?_))))))
   cases h3 : (decide (((x.arcs.getD m default).sig) = (-1))) with
   | true =>
    replace h3 := odt h3
    try have hsk := hx.sig _ (getD_mem (l := x.arcs) (j := m) (d := default) (by omega))
    try have hek := hx.ends _ (getD_mem (l := x.arcs) (j := m) (d := default) (by omega))
    refine Ck (Ck (Ck (Ck (Ch.s (dB false) (pF rfl) (Ch.s (dB false) pm (Ck (Ch.skip rfl rfl ?_)))))))
    refine Ck (Ck (Ck (Ch.s (dB false) (pF rfl) (Ch.nil ?_))))
    refine T_cond (b := false) rfl (fun h => nomatch h) (fun _ => ?_)
    refine Tk (Tz hc (Ch.s (dI ((m : Int) + 1)) (iX rfl rfl intV_addA) (Ch.s (dI ((m : Int) + 1)) pm (Ch.nil ?_))))
    exact nx (m + 1) (by omega) (Wk.of rfl rfl (ar (ar (ar (ar (ar (ar (ar (ar (ar (ai (vI a67) trivial)))))))))) (ai (oR a12) (ar (ar trivial))))
   | false =>
    replace h3 := odf h3
    try have hsk := hx.sig _ (getD_mem (l := x.arcs) (j := m) (d := default) (by omega))
    try have hek := hx.ends _ (getD_mem (l := x.arcs) (j := m) (d := default) (by omega))
    refine Ch.s (.ptr 11000 1) (fP fld70_1 rfl) (Ch.s (dI ((x.arcs.getD m default).sig)) (lP ag3 rfl rfl rfl) (Ch.s (dI hid) pm (Ch.s (dB (!(decide (((x.arcs.getD m default).sig) = hid)))) (iX rfl rfl rfl) (Ch.s (dB (!(decide (((x.arcs.getD m default).sig) = hid)))) (pT rfl) (Ch.s (dB (!(decide (((x.arcs.getD m default).sig) = hid)))) pm ?_)))))
    cases h4 : (decide (((x.arcs.getD m default).sig) = hid)) with
    | true =>
     replace h4 := odt h4
     try have hwl := (wrd_ok hx (hid := hid) (getD_mem (l := x.arcs) (j := m) (d := default) (by omega)) (sil_no (by assumption) (by assumption))).2
     refine Ck (Ck (Ck (Ck (Ck (Ch.s (dB false) (pF rfl) (Ch.nil ?_))))))
     refine T_cond (b := false) rfl (fun h => nomatch h) (fun _ => ?_)
     refine Tk (Tz hc (Ch.s (dI ((m : Int) + 1)) (iX rfl rfl intV_addA) (Ch.s (dI ((m : Int) + 1)) pm (Ch.nil ?_))))
     exact nx (m + 1) (by omega) (Wk.of rfl rfl (ar (ar (ar (ar (ar (ar (ar (ar (ar (ai (vI a67) trivial)))))))))) (ai (oR a12) (ar (ar trivial))))
    | false =>
     replace h4 := odf h4
     try have hwl := (wrd_ok hx (hid := hid) (getD_mem (l := x.arcs) (j := m) (d := default) (by omega)) (sil_no (by assumption) (by assumption))).2
     refine Ch.s (.ptr 9000 1) (fP fld47_1 rfl) (Ch.s (.d (.slice false 1 (((l.getD k default).pos).map (fun n : Int => D.int .i64 n)))) (lP ag44 rfl rfl rfl) (Ch.s (.ptr 11000 0) (fP fld70_0 rfl) (Ch.s (dI ((x.arcs.getD m default).src)) (lP ag3 rfl rfl rfl) (Ch.s (dB (hasI ((l.getD k default).pos) ((x.arcs.getD m default).src))) (.call 40000 40 _ _ _ en40 rfl (.inl rfl) (.cons (.d _) (.cons (.d _) .nil)) rfl rfl (sp_spec_l1Has ((l.getD k default).pos) ((x.arcs.getD m default).src) a21) (.skip _ _ (.skip _ _ .nil)) rfl) (Ch.s (dB (hasI ((l.getD k default).pos) ((x.arcs.getD m default).src))) (pT rfl) (Ch.nil ?_))))))
     refine T_cond (b := (hasI ((l.getD k default).pos) ((x.arcs.getD m default).src))) rfl (fun h5 => ?_) (fun h5 => ?_)
     ·
      try have hwl := (wrd_ok hx (hid := hid) (getD_mem (l := x.arcs) (j := m) (d := default) (by omega)) (sil_no (by assumption) (by assumption))).2
      refine T_regionD hc (by kernel_rfl) ?_
      refine ChD.s (.row 7) [] pm (ChD.s (.ptr 9000 0) [] (fP fld47_0 rfl) (ChD.s (dS ((l.getD k default).seen)) [9000] (lP ag9 rfl rfl rfl) (ChD.s (.agg (vX x)) [3000] (lA ag33 sz33 rfl rfl (lb rfl) rfl) (ChD.s (.agg [(dI ((x.arcs.getD m default).src)), (dI ((x.arcs.getD m default).sig)), (dB ((x.arcs.getD m default).up)), (dI ((x.arcs.getD m default).dst))]) [11000] (lA ag70 sz70 rfl rfl (lb rfl) rfl) (ChD.s (dS (wrd x (x.arcs.getD m default))) [] (.call 47000 44 _ _ _ en44 rfl (.inl rfl) (.cons lX (.cons (.lend (.agg (.cons (.d _) (.cons (.d _) (.cons (.d _) (.cons (.d _) .nil)))) rfl)) .nil)) rfl rfl (sp_spec_l11Word x (x.arcs.getD m default) a21 a73 a73 (by first | assumption | exact names_le hx)) (.skip _ _ (.skip _ _ .nil)) rfl) (ChD.s (dS (((l.getD k default).seen) ++ (wrd x (x.arcs.getD m default)))) [] (.pure (.str _ _ _ _ _ rfl rfl rfl (strV_add a24))) (ChD.s (.ptr 11000 3) [] (fP fld70_3 rfl) ?_)))))))
      refine ChD.s (dI ((x.arcs.getD m default).dst)) [11000] (lP ag3 rfl rfl rfl) (ChD.s (.row 51000) [] (.slice 51000 _ 3 _ rfl sty44 (xs := [.tmp 50]) rfl rfl (.cons (.d _) .nil) rfl rfl (by decide)) (ChD.s (.ptr 9000 2) [] (fP fld47_2 rfl) (ChD.s (dI ((l.getD k default).many)) [9000] (lP ag3 rfl rfl rfl) (ChD.s (dI (((l.getD k default).many) + 1)) [] (iX rfl rfl intV_addA) (ChD.s (.agg [(dS (((l.getD k default).seen) ++ (wrd x (x.arcs.getD m default)))), (.row 51000), (dI (((l.getD k default).many) + 1))]) [] (.build _ _ rfl stru47 (.cons (.one _ rfl) (.cons (.one _ rfl) (.cons (.one _ rfl) .nil))) rfl) (ChD.s (.row 56000) [7, 51000] (.call 56000 43 _ _ _ en43 rfl (.inl rfl) (.cons (.row rfl) (.cons (.agg (.cons (.d _) (.cons (.row rfl) (.cons (.d _) .nil))) rfl) .nil)) rfl (sol (solid_row Trc.sol _) rfl) (sp_spec_l11Put x.codes.length (morR x hid l k m) (Trc.mk (((l.getD k default).seen) ++ (wrd x (x.arcs.getD m default))) ([((x.arcs.getD m default).dst)]) (((l.getD k default).many) + 1)) a21 (by have := hmk.len; omega) hmk.tok.ok (trc_one hek.2)) (.skip _ _ (.skip _ _ .nil)) rfl) (ChD.s (.row 56000) [] pa ?_)))))))
      refine ChD.nil (And.intro ?_ (by kernel_rfl))
      refine Tz hc (Ch.s (dI ((m : Int) + 1)) (iX rfl rfl intV_addA) (Ch.s (dI ((m : Int) + 1)) pm (Ch.nil ?_)))
      exact nx (m + 1) (by omega) (Wk.ren [(7, 56000)] rfl rfl rfl rfl (ar (ar (ar (ar (ar (ar (ar (ar (ar (ai (vI a67) trivial)))))))))) (ai (oR a12) (ar (ar trivial))))
     ·
      try have hwl := (wrd_ok hx (hid := hid) (getD_mem (l := x.arcs) (j := m) (d := default) (by omega)) (sil_no (by assumption) (by assumption))).2
      refine Tk (Tz hc (Ch.s (dI ((m : Int) + 1)) (iX rfl rfl intV_addA) (Ch.s (dI ((m : Int) + 1)) pm (Ch.nil ?_))))
      exact nx (m + 1) (by omega) (Wk.of rfl rfl (ar (ar (ar (ar (ar (ar (ar (ar (ar (ai (vI a67) trivial)))))))))) (ai (oR a12) (ar (ar trivial))))
  ·
   refine T_exit (Tz hc (Ch.s (dI ((k : Int) + 1)) (iX rfl rfl intV_addA) (Ch.s (dI ((k : Int) + 1)) pm (Ch.nil ?_))))
   exact nx (k + 1) (by omega) (Wk.of rfl rfl (ar (ar (ar (ar (ar (ai (vI a67) trivial)))))) (ai (oR a53) (ar trivial)))
 ·
  refine T_exit (Tq (Ts hc (Ch.s (.row 7) pm (Ch.s (dI ((morR x hid l k 0).length : Int)) (.pure (.len _ _ 47 rfl Tryz.underlying48 (.row rfl) (by simp))) (Ch.s (dI 0) pm (Ch.nil ?_))))))
  refine Tb ?_
  refine T_loop (ι := Nat) (fun p => { n := 78, sl := [(1, (dI hid)), (3, (.ptr 3000 0)), (7, (.row 7)), (60, (dI ((morR x hid l k 0).length : Int))), (61, (dI (p : Int)))], hp := [(7, (some (.row 3 ((stO x hid (morR x hid l k 0) p).map Trc.u)))), (3000, (some (.box (vX x))))], pin := [] }) (fun p => p ≤ (morR x hid l k 0).length) (fun p => (morR x hid l k 0).length - p) ⟨0, (by omega), (Wk.of rfl rfl (ar (ar (ar (ar (ai (vI a67) trivial))))) (ai (oR a44) (ar trivial)))⟩ (fun p hp2 => ?_)
  have hme := mok_all hx (hid := hid) hrf.tok.many k 0 (.inr ⟨by omega, rfl⟩); have hsl := stO_len x hid (morR x hid l k 0) p; have hlo := hme.len
  refine Ts hc (Ch.s (dB (decide ((p : Int) < ((morR x hid l k 0).length : Int)))) (iX rfl rfl rfl) (Ch.nil (Tq ?_)))
  refine T_condD (p := ((p : Int) < ((morR x hid l k 0).length : Int))) rfl (fun h6 => ?_) (fun h6 => ?_)
  ·
   refine Tk (Tq (Tb (Ts hc (Ch.s (dI (p : Int)) pm (Ch.s (dI (p : Int)) pa (Ch.nil ?_))))))
   refine T_takeF 7 p 1 7000002 7000003 rfl get_mapA rfl rfl rfl (fun u1 => ?_)
   refine T_regionD hc (by kernel_rfl) ?_
   refine ChD.s (.row 7) [] pm (ChD.s (dI (p : Int)) [] pm (ChD.s (.agg (vX x)) [3000] (lA ag33 sz33 rfl rfl (lb rfl) rfl) (ChD.s (dI hid) [] pm (ChD.s (.row 7) [] pm (ChD.s (dI (p : Int)) [] pm (ChD.s (.el 7 3 p 0) [7, 7000002, 7000003] (.pure (.idxRow _ _ _ 47 (p) rfl Tryz.underlying48 sz47 rfl rfl rfl rfl a52)) (ChD.s (.el 7 3 p 1) [] (.pure (.fldEl _ _ _ rfl fld47_1 rfl)) ?_)))))))
   refine ChD.s (.row 7000002) [7, 7000002, 7000003] (.pure (.loadHoleF (n := 7000002) (m := 7000003) (u := u1) _ _ rfl ag44 rfl rfl (get_set a52) rfl rfl rfl rfl rfl)) (ChD.s (.row 73000) [7000002] (.call 73000 18 _ _ _ en18 rfl (.inl rfl) (.cons lX (.cons (.d _) (.cons (.row rfl) .nil))) rfl (sol (solid_row (fun _ => rfl) _) rfl) (sp_spec_l11Still x hid (((stO x hid (morR x hid l k 0) p).getD p default).pos) a21 (by assumption) a50 a54) (.skip _ _ (.skip _ _ (.skip _ _ .nil))) rfl) (ChD.s (.el 7 3 p 0) [7, 7000002, 7000003] (.pure (.idxRow _ _ _ 47 (p) rfl Tryz.underlying48 sz47 rfl rfl rfl rfl a52)) (ChD.s (.el 7 3 p 1) [] (.pure (.fldEl _ _ _ rfl fld47_1 rfl)) (ChD.s .junk [7, 73000, 7000002, 7000003] (.storeElK (y' := (.agg [(.str (((stO x hid (morR x hid l k 0) p).getD p default).seen)), (.slice true 1 ((still x hid (((stO x hid (morR x hid l k 0) p).getD p default).pos)).map (fun n : Int => D.int .i64 n))), (.int .i64 (((stO x hid (morR x hid l k 0) p).getD p default).many))])) _ _ _ rfl rfl rfl (.row rfl) rfl rfl rfl sz44 rfl (get_set a52) rfl rfl) ?_))))
   refine ChD.nil (And.intro ?_ (by kernel_rfl))
   refine Tz hc (Ch.s (dI ((p : Int) + 1)) (iX rfl rfl intV_addA) (Ch.s (dI ((p : Int) + 1)) pm (Ch.nil ?_)))
   exact nx (p + 1) (by omega) (Wk.of rfl rfl (ar (ar (ar (ar (ai (vI a67) trivial))))) (ai (oR a44) (ar trivial)))
  ·
   refine T_exit (Ts hc (Ch.s (.row 7) pm (Ch.s (.row 7) pa (Ch.nil (T_ret ?_)))))
   exact eR [(.row 7)] [] [7] (.cons (.tmp 6 rfl) .nil) eC (Exp.of (congrArg (D.slice true 3) (by rw [stO_all (by omega), show k = l.length by omega]; rfl)) (.row rfl))

set_option maxHeartbeats 4000000 in
theorem sp_spec_Traces (x : Sgr) (hid most : Int) (hb : x.bulk ≤ 1048576) : Sp Tryz.prog 5 [(.agg [(.slice false 2 (x.sigs.map Sgn.d)), (.slice false 1 (x.codes.map D.str)), (.slice false 4 (x.arcs.map Arc.d))]), (.int .i64 hid), (.int .i64 most)] [.any, .any, .any] (.tup [(.slice true 1 ((trV x hid most).map D.str)), (.bool (trB x hid most))]) := by
 refine Sp_intro (lend := true) Tryz.func5 rfl rfl rfl (fun _ => rfl) (fun c hc hX => ?_)
 obtain ⟨hp0, hp1, hp2⟩ := Sgr.parts hb
 have hn0 := bulkF_len hp0
 have hn1 := bulk_len hp1
 have hx1 := bulk_mem hp1
 have hn2 := bulkF_len hp2
 refine Ts hc (Ch.s (.ptr 3000 0) (.box 3000 _ _ rfl (.aggD _)) (Ch.s (.c (.slice none 0 0)) pa (Ch.s (dB false) pa (Ch.nil (Tq (Tq ?_))))))
 refine Tz hc (Ch.s (.agg (vX x)) (lA ag33 sz33 rfl rfl (lb rfl) rfl) (Ch.s (dB (sgB x)) (.call 13000 16 _ _ _ en16 rfl (.inl rfl) (.cons lX .nil) rfl rfl (sp_spec_l5Good x a21) (.skip _ _ .nil) rfl) (Ch.s (dB (!(sgB x))) (nT rfl) (Ch.s (dB (!(sgB x))) pm ?_))))
 cases h1 : (sgB x) with
 | true =>
  try have hx := sg_has h1
  try have hxl := hx.len
  try have hxf := hx.few
  try have hen := hx.ends
  try have hx8 := hx.eight
  refine Ch.s (dI hid) pm (Ch.s (.ptr 3000 0) (fP fld33_0 rfl) (Ch.s (.d (.slice false 2 (x.sigs.map Sgn.d))) (lP ag30 rfl rfl rfl) (Ch.s (dI (x.sigs.length : Int)) (.pure (.len _ _ 76 rfl Tryz.underlying30 (.sh _ _) (by simp))) (Ch.s (dI ((x.sigs.length : Int) - 1)) (iX rfl rfl intV_subA) (Ch.s (dB (withinB hid (-1) ((x.sigs.length : Int) - 1))) (.call 21000 17 _ _ _ en17 rfl (.inl rfl) (.cons (.d _) (.cons (.d _) (.cons (.d _) .nil))) rfl rfl (sp_spec_l1In hid (-1) ((x.sigs.length : Int) - 1)) (.skip _ _ (.skip _ _ (.skip _ _ .nil))) rfl) (Ch.s (dB (!(withinB hid (-1) ((x.sigs.length : Int) - 1)))) (nT rfl) (Ch.s (dB (!(withinB hid (-1) ((x.sigs.length : Int) - 1)))) (pF rfl) ?_)))))))
  refine Ch.s (dB (!(withinB hid (-1) ((x.sigs.length : Int) - 1)))) pm ?_
  cases h2 : (withinB hid (-1) ((x.sigs.length : Int) - 1)) with
  | true =>
   try have hw2 := within_two h2
   refine Ch.s (dI most) pm (Ch.s (dB (withinB most 0 6)) (.call 26000 17 _ _ _ en17 rfl (.inl rfl) (.cons (.d _) (.cons (.d _) (.cons (.d _) .nil))) rfl rfl (sp_spec_l1In most 0 6) (.skip _ _ (.skip _ _ (.skip _ _ .nil))) rfl) (Ch.s (dB (!(withinB most 0 6))) (nT rfl) (Ch.s (dB (!(withinB most 0 6))) (pF rfl) (Ch.nil ?_))))
   refine T_condN (b := (withinB most 0 6)) rfl (fun h3 => ?_) (fun h3 => ?_)
   ·
    try have hw3 := within_two h3
    try have ho : trOk x hid most = true := a71
    refine Ts hc (Ch.s (.c (.slice none 0 0)) pa (Ch.s (dB false) pa (Ch.nil (T_ret ?_))))
    exact eR [(.c (.slice none 0 0)), (dB false)] [] [] (.cons (.tmp 6 rfl) (.cons (.tmp 7 rfl) .nil)) eC (.tup (.cons (Exp.of (congrArg (D.slice true 1) a1) (.nil true 1)) (.cons (Exp.of (congrArg D.bool a1) (.d _)) .nil)))
   ·
    try have hw3 := within_two h3
    try have ho : trOk x hid most = true := a71
    refine Tk (Ts hc (Ch.s (.agg (vX x)) (lA ag33 sz33 rfl rfl (lb rfl) rfl) (Ch.s (dI hid) pm (Ch.s (.row 31000) (.slice 31000 _ 3 _ rfl sty44 (xs := [.const (.int .i64 0)]) rfl rfl (.cons (.d _) .nil) rfl rfl (by decide)) ?_))))
    refine Ch.step (v := (.row 32000)) rfl (.call 32000 18 _ _ _ en18 rfl (.inl rfl) (.cons lX (.cons (.d _) (.cons (.row rfl) .nil))) rfl (sol (solid_row (fun _ => rfl) _) rfl) (sp_spec_l11Still x hid ([0]) a21 (by assumption) a50 a54) (.skip _ _ (.skip _ _ (.skip _ _ .nil))) rfl) rfl rfl ?_
    refine Ch.s (.agg [(dS []), (.row 32000), (dI 0)]) (.build _ _ rfl stru47 (.cons (.one _ rfl) .nil) rfl) (Ch.s (.row 34000) (.slice 34000 _ 47 _ rfl sty48 (xs := [.tmp 33]) rfl rfl (.cons (.agg (.cons (.d _) (.cons (.row rfl) (.cons (.d _) .nil))) rfl) .nil) rfl rfl (by decide)) (Ch.s (.row 34000) pa (Ch.nil (Ts hc (Ch.s (.c (.slice none 0 0)) pa (Ch.nil ?_))))))
    refine Tb ?_
    refine T_wk (Wk.share hc (hX rfl) 8 34000 3 rfl rfl (froz_c (Trc.fz (Trc.mk [] (still x hid [0]) 0)) rfl)) ?_
    refine T_loop (ι := Nat) (fun k => { n := 63, sl := [(1, (dI hid)), (2, (dI (most - (k : Int)))), (3, (.ptr 3000 0)), (8, (.d (.slice false 3 ((lev x hid k).map Trc.d)))), (9, (.row 9))], hp := [(9, (some (.row 1 ((preS x hid k).map D.str)))), (3000, (some (.box (vX x))))], pin := [] }) (fun k => SpI x hid most.toNat k) (fun k => most.toNat - k) ⟨0, ⟨by omega, by simp [preS]⟩, (Wk.trans (Wk.nilrow 9 900009 1 rfl rfl rfl) (Wk.ren [(9, 900009)] rfl rfl rfl rfl (ar (ai (vI (by omega)) (ar (ar (ar trivial))))) (ai (oR a59) (ar trivial))))⟩ (fun k hp0 => ?_)
    have hlf := lev_few hx hp0.few; have hle := hp0.le; have hfw := hp0.few
    refine Tb (Tq (Ts hc (Ch.s (.d (.slice false 3 ((lev x hid k).map Trc.d))) pm (Ch.s (dI ((lev x hid k).length : Int)) (.pure (.len _ _ 47 rfl Tryz.underlying48 (.sh _ _) (by simp))) (Ch.s (dI 0) pm (Ch.nil ?_))))))
    refine Tb ?_
    refine T_loop (ι := Nat) (fun m => { n := 63, sl := [(1, (dI hid)), (2, (dI (most - (k : Int)))), (3, (.ptr 3000 0)), (8, (.d (.slice false 3 ((lev x hid k).map Trc.d)))), (9, (.row 9)), (35, (.d (.slice false 3 ((lev x hid k).map Trc.d)))), (36, (dI ((lev x hid k).length : Int))), (37, (dI (m : Int)))], hp := [(9, (some (.row 1 ((putSk (preS x hid k) (lev x hid k) m).map D.str)))), (3000, (some (.box (vX x))))], pin := [] }) (fun m => m ≤ (lev x hid k).length) (fun m => (lev x hid k).length - m) ⟨0, (by omega), (Wk.of rfl rfl (ar (ar (ar (ar (ar (ar (ar (ai (vI a67) trivial)))))))) (ai (oR (by first | rfl | (rw [putSk_succ (by omega)]; done))) (ar trivial)))⟩ (fun m hp1 => ?_)
    have hpk := putSk_len (preS x hid k) (lev x hid k) m
    refine Ts hc (Ch.s (dB (decide ((m : Int) < ((lev x hid k).length : Int)))) (iX rfl rfl rfl) (Ch.nil (Tq ?_)))
    refine T_condD (p := ((m : Int) < ((lev x hid k).length : Int))) rfl (fun h4 => ?_) (fun h4 => ?_)
    ·
     refine Tk (Tq (Tb (Ts hc (Ch.s (.d (.ref (.agg [(.str (((lev x hid k).getD m default).seen)), (.slice false 1 ((((lev x hid k).getD m default).pos).map (fun n : Int => D.int .i64 n))), (.int .i64 (((lev x hid k).getD m default).many))]))) (.pure (.idx _ _ _ 47 (m) rfl Tryz.underlying48 sz47 rfl rfl rfl get_mapA)) (Ch.s (.d (.agg [(.str (((lev x hid k).getD m default).seen)), (.slice false 1 ((((lev x hid k).getD m default).pos).map (fun n : Int => D.int .i64 n))), (.int .i64 (((lev x hid k).getD m default).many))])) (.pure (.loadRefA _ _ rfl ag47 sz47 rfl)) (Ch.s (.ptr 11000 0) (.alloc 11000 _ rfl zer47) ?_))))))
     refine Ch.s .junk (.storePtr _ _ _ rfl rfl rfl (.aggD _) sz47 (lb rfl)) (Ch.nil (Tz hc (Ch.s (.row 9) pm (Ch.s (.ptr 11000 0) (fP fld47_0 rfl) (Ch.s (dS (((lev x hid k).getD m default).seen)) (lP ag9 rfl rfl rfl) ?_)))))
     refine Ch.step (v := (.row 44000)) rfl (.call 44000 19 _ _ _ en19 rfl (.inl rfl) (.cons (.row rfl) (.cons (.d _) .nil)) rfl (sol (solid_row (fun _ => rfl) _) rfl) (sp_spec_l9PutS (putSk (preS x hid k) (lev x hid k) m) (((lev x hid k).getD m default).seen) a21 (by first | assumption | exact putSk_rise _ _ (preS_rise _ _ _))) (.skip _ _ (.skip _ _ .nil)) rfl) rfl rfl ?_
     refine Ch.s (.row 44000) pa (Ch.nil (Tz hc (Ch.s (dI ((m : Int) + 1)) (iX rfl rfl intV_addA) (Ch.s (dI ((m : Int) + 1)) pm (Ch.nil ?_)))))
     exact nx (m + 1) (by omega) (Wk.ren [(9, 44000)] rfl rfl rfl rfl (ar (ar (ar (ar (ar (ar (ar (ai (vI a67) trivial)))))))) (ai (oR (by first | rfl | (rw [putSk_succ (by omega)]; done))) (ar trivial)))
    ·
     refine T_exit (Tq (Ts hc (Ch.s (.row 9) pm (Ch.s (dI ((putSk (preS x hid k) (lev x hid k) m).length : Int)) (.pure (.len _ _ 9 rfl Tryz.underlying23 (.row rfl) (by simp))) (Ch.s (dB (decide (400 < ((putSk (preS x hid k) (lev x hid k) m).length : Int)))) (iX rfl rfl rfl) (Ch.nil ?_))))))
     refine T_condD (p := (400 < ((putSk (preS x hid k) (lev x hid k) m).length : Int))) rfl (fun h5 => ?_) (fun h5 => ?_)
     ·
      refine Ts hc (Ch.s (.c (.slice none 0 0)) pa (Ch.s (dB false) pa (Ch.nil (T_ret ?_))))
      exact eR [(.c (.slice none 0 0)), (dB false)] [] [] (.cons (.tmp 6 rfl) (.cons (.tmp 7 rfl) .nil)) eC (.tup (.cons (Exp.of (congrArg (D.slice true 1) a1) (.nil true 1)) (.cons (Exp.of (congrArg D.bool a1) (.d _)) .nil)))
     ·
      refine Tk (Tq (Ts hc (Ch.s (.d (.slice false 3 ((lev x hid k).map Trc.d))) pm (Ch.s (dI ((lev x hid k).length : Int)) (.pure (.len _ _ 47 rfl Tryz.underlying48 (.sh _ _) (by simp))) (Ch.s (dB (decide (((lev x hid k).length : Int) = 0))) (iX rfl rfl rfl) (Ch.s (dB (decide (((lev x hid k).length : Int) = 0))) pm ?_))))))
      cases h6 : (decide (((lev x hid k).length : Int) = 0)) with
      | true =>
       replace h6 := odt h6
       refine Ck (Ck (Ch.s (dB true) (pT rfl) (Ch.nil ?_)))
       refine T_cond (b := true) rfl (fun _ => ?_) (fun h => nomatch h)
       refine Ts hc (Ch.s (.row 9) pm (Ch.s (.row 9) pa (Ch.s (dB true) pa (Ch.nil (T_ret ?_)))))
       exact eR [(.row 9), (dB true)] [] [9] (.cons (.tmp 6 rfl) (.cons (.tmp 7 rfl) .nil)) eC (.tup (.cons (Exp.of (congrArg (D.slice true 1) a1) (.row rfl)) (.cons (Exp.of (congrArg D.bool a1) (.d _)) .nil)))
      | false =>
       replace h6 := odf h6
       refine Ch.s (dI (most - (k : Int))) pm (Ch.s (dB (decide ((most - (k : Int)) = 0))) (iX rfl rfl rfl) (Ch.s (dB (decide ((most - (k : Int)) = 0))) (pF rfl) (Ch.nil ?_)))
       refine T_condD (p := ((most - (k : Int)) = 0)) rfl (fun h7 => ?_) (fun h7 => ?_)
       ·
        refine Ts hc (Ch.s (.row 9) pm (Ch.s (.row 9) pa (Ch.s (dB true) pa (Ch.nil (T_ret ?_)))))
        exact eR [(.row 9), (dB true)] [] [9] (.cons (.tmp 6 rfl) (.cons (.tmp 7 rfl) .nil)) eC (.tup (.cons (Exp.of (congrArg (D.slice true 1) a1) (.row rfl)) (.cons (Exp.of (congrArg D.bool a1) (.d _)) .nil)))
       ·
        refine Tk (Ts hc (Ch.s (.agg (vX x)) (lA ag33 sz33 rfl rfl (lb rfl) rfl) (Ch.s (dI hid) pm (Ch.s (.d (.slice false 3 ((lev x hid k).map Trc.d))) pm (Ch.s (.d (.slice false 3 ((more x hid (lev x hid k)).map Trc.d))) (.callFz 60000 20 _ _ _ en20 rfl (.inl rfl) (.cons lX (.cons (.d _) (.cons (.d _) .nil))) (solid_row Trc.sol _) (sp_spec_l11More k x hid (lev x hid k) a21 (by assumption) (by omega) (lev_ok hx hid k) (lev_le4 hx (m := m) (by omega) (by omega)) (fun t ht => lev_text hx ht)) (slice_froz (frozs_to Trc.fz _)) rfl) (Ch.s (.d (.slice false 3 ((more x hid (lev x hid k)).map Trc.d))) pa ?_))))))
        refine Ch.nil (Tz hc (Ch.s (dI (most - (k : Int))) pm (Ch.s (dI ((most - (k : Int)) - 1)) (iX rfl rfl intV_subA) (Ch.s (dI ((most - (k : Int)) - 1)) pa (Ch.nil ?_)))))
        refine Exists.intro (k + 1) (And.intro ⟨by omega, out_le4 (m := m) (by omega) (by omega)⟩ (And.intro (by have := hp0.le; omega) (Wk.of rfl rfl (ar (ai (vI (by omega)) (ar (ai (vL (by rfl)) (ar trivial))))) (ai (oR a59) (ar trivial)))))
  | false =>
   try have hw2 := within_two h2
   refine Ck (Ck (Ck (Ch.s (dB true) (pT rfl) (Ch.nil ?_))))
   refine T_cond (b := true) rfl (fun _ => ?_) (fun h => nomatch h)
   refine Ts hc (Ch.s (.c (.slice none 0 0)) pa (Ch.s (dB false) pa (Ch.nil (T_ret ?_))))
   exact eR [(.c (.slice none 0 0)), (dB false)] [] [] (.cons (.tmp 6 rfl) (.cons (.tmp 7 rfl) .nil)) eC (.tup (.cons (Exp.of (congrArg (D.slice true 1) a1) (.nil true 1)) (.cons (Exp.of (congrArg D.bool a1) (.d _)) .nil)))
 | false =>
  try have hx := sg_has h1
  try have hxl := hx.len
  try have hxf := hx.few
  try have hen := hx.ends
  try have hx8 := hx.eight
  refine Ck (Ck (Ck (Ck (Ck (Ck (Ck (Ch.s (dB true) (pT rfl) ?_)))))))
  refine Ch.s (dB true) pm (Ck (Ck (Ck (Ch.s (dB true) (pT rfl) (Ch.nil ?_)))))
  refine T_cond (b := true) rfl (fun _ => ?_) (fun h => nomatch h)
  refine Ts hc (Ch.s (.c (.slice none 0 0)) pa (Ch.s (dB false) pa (Ch.nil (T_ret ?_))))
  exact eR [(.c (.slice none 0 0)), (dB false)] [] [] (.cons (.tmp 6 rfl) (.cons (.tmp 7 rfl) .nil)) eC (.tup (.cons (Exp.of (congrArg (D.slice true 1) a1) (.nil true 1)) (.cons (Exp.of (congrArg D.bool a1) (.d _)) .nil)))

set_option maxHeartbeats 1000000 in
theorem sp_laws_FnExactTraces (x : Sgr) (hid most : Int) (hwx : x.wide) : Sp Tryz.prog 3 [(.agg [(.slice false 2 (x.sigs.map Sgn.d)), (.slice false 1 (x.codes.map D.str)), (.slice false 4 (x.arcs.map Arc.d))]), (.int .i64 hid), (.int .i64 most)] [.any, .any, .any] (.bool true) := by
 refine Sp_intro (lend := true) Tryz.func3 rfl rfl rfl (fun _ => rfl) (fun c hc hX => ?_)
 refine Ts hc (Ch.s (.ptr 3000 0) (.box 3000 _ _ rfl (.aggD _)) (Ch.s (dB false) pa (Ch.nil (Ts hc (Ch.s (dI 1048576) pa ?_)))))
 refine Ch.nil (Ts hc (Ch.s (.agg (vX x)) (lA ag26 sz26 rfl rfl (lb rfl) rfl) (Ch.s (dI 1048576) pm (Ch.s (dI (szR x.bulk 1048576)) (.call 20000 4 _ _ _ en4 rfl (.inl rfl) (.cons lX (.cons (.d _) .nil)) rfl rfl (sp_laws_szStateGraph x 1048576 a16 a16 a25) (.skip _ _ (.skip _ _ .nil)) rfl) (Ch.s (dI (szR x.bulk 1048576)) pa (Ch.nil ?_))))))
 refine Tq (Ts hc (Ch.s (dI (szR x.bulk 1048576)) pm (Ch.s (dB (decide ((szR x.bulk 1048576) < 0))) (iX rfl rfl rfl) (Ch.nil ?_))))
 refine T_condD (p := ((szR x.bulk 1048576) < 0)) rfl (fun h1 => ?_) (fun h1 => ?_)
 ·
  try have hz := szR_ok (t := x.bulk) (left := 1048576) h1 (by omega)
  try have hb : x.bulk ≤ 1048576 := by omega
  try have hl := hz.2
  try have htv := trV_le (x := x) (hid := hid) (most := most)
  try have hcl : (trV x hid most).length ≤ 1048576 := Nat.le_trans trV_le (by decide)
  try have hhm := held_marks 1 (trV x hid most).length
  try have hmk := marks_length 1 (trV x hid most).length
  refine Ts hc (Ch.s (dB true) pa (Ch.nil (T_ret ?_)))
  exact eR [(dB true)] [] [] (.cons (.tmp 6 rfl) .nil) eC (.d _)
 ·
  try have hz := szR_ok (t := x.bulk) (left := 1048576) h1 (by omega)
  try have hb : x.bulk ≤ 1048576 := by omega
  try have hl := hz.2
  try have htv := trV_le (x := x) (hid := hid) (most := most)
  try have hcl : (trV x hid most).length ≤ 1048576 := Nat.le_trans trV_le (by decide)
  try have hhm := held_marks 1 (trV x hid most).length
  try have hmk := marks_length 1 (trV x hid most).length
  refine Tk (Ts hc (Ch.s (.agg (vX x)) (lA ag26 sz26 rfl rfl (lb rfl) rfl) ?_))
  refine Ch.step (v := (.agg [(.row 25000), (.row 25001), (.row 25002)])) rfl (.call 25000 6 _ _ _ en6 rfl (.inl rfl) (.cons lX .nil) rfl (sol (Sgr.sol _) rfl) (sp_laws_toStateGraph x a21) (.skip _ _ .nil) rfl) rfl rfl ?_
  refine Ch.s (dI hid) pm (Ch.s (dI most) pm ?_)
  refine Ch.step (v := (.tup [(.row 28000), (dB (trB x hid most))])) rfl (.call 28000 5 _ _ _ en5 rfl (.inl rfl) (.cons (.lend (.agg (.cons (.row rfl (frozs_map (fun _ => rfl) _)) (.cons (.row rfl (frozs_map (fun _ => rfl) _)) (.cons (.row rfl (frozs_map (fun _ => rfl) _)) .nil))) rfl)) (.cons (.d _) (.cons (.d _) .nil))) rfl (sol a63 rfl) (sp_spec_Traces x hid most a21) (.skip _ _ (.skip _ _ (.skip _ _ .nil))) rfl) rfl rfl ?_
  refine Ch.s (.tup [(.row 28000), (dB (trB x hid most))]) pm (Ch.s (.row 28000) (xT rfl rfl) (Ch.s (dB (trB x hid most)) (xT rfl rfl) (Ch.s (.row 28000) pa (Ch.s (dB (trB x hid most)) pa (Ch.nil (Tq (Tz hc ?_)))))))
  refine Ch.s (.agg (vX x)) (lA ag26 sz26 rfl rfl (lb rfl) rfl) ?_
  refine Ch.step (v := (.agg [(.row 32000), (.row 32001), (.row 32002)])) rfl (.call 32000 6 _ _ _ en6 rfl (.inl rfl) (.cons lX .nil) rfl (sol (Sgr.sol _) rfl) (sp_laws_toStateGraph x a21) (.skip _ _ .nil) rfl) rfl rfl ?_
  refine Ch.s (.ptr 10000 0) (.alloc 10000 _ rfl zer33) (Ch.s .junk (.storePtr _ _ _ rfl rfl rfl (.agg _ rfl) sz33 (lb rfl)) (Ch.nil (Ts hc (Ch.s (.agg [(.row 32000), (.row 32001), (.row 32002)]) (lA ag33 sz33 rfl rfl (lb rfl) rfl) (Ch.s (dI hid) pm (Ch.s (dI most) pm ?_))))))
  refine Ch.step (v := (.tup [(.row 37000), (dB (trB x hid most))])) rfl (.call 37000 7 _ _ _ en7 rfl (.inl rfl) (.cons (.lend (.agg (.cons (.row rfl (frozs_map (fun _ => rfl) _)) (.cons (.row rfl (frozs_map (fun _ => rfl) _)) (.cons (.row rfl (frozs_map (fun _ => rfl) _)) .nil))) rfl)) (.cons (.d _) (.cons (.d _) .nil))) rfl (sol a63 rfl) (sp_impl_Traces x hid most a21) (.skip _ _ (.skip _ _ (.skip _ _ .nil))) rfl) rfl rfl ?_
  refine Ch.s (.tup [(.row 37000), (dB (trB x hid most))]) pm (Ch.s (.row 37000) (xT rfl rfl) (Ch.s (dB (trB x hid most)) (xT rfl rfl) (Ch.s (.row 37000) pa (Ch.s (dB (trB x hid most)) pa (Ch.nil (Tq (Tq ?_)))))))
  refine Tz hc (Ch.s (.row 37000) pm (Ch.s (.row 28000) pm (Ch.s (dB (decide ((trV x hid most) = (trV x hid most)))) (.call 42000 8 _ _ _ en8 rfl (.inl rfl) (.cons (.lend (.row rfl (frozs_map (fun _ => rfl) _))) (.cons (.lend (.row rfl (frozs_map (fun _ => rfl) _))) .nil)) rfl rfl (sp_laws_eqStringS (trV x hid most) (trV x hid most) a16) (.skip _ _ (.skip _ _ .nil)) rfl) (Ch.s (dB (!(decide ((trV x hid most) = (trV x hid most))))) (nT rfl) (Ch.s (dB (!(decide ((trV x hid most) = (trV x hid most))))) pm ?_)))))
  cases h2 : (decide ((trV x hid most) = (trV x hid most))) with
  | true =>
   replace h2 := odt h2
   refine Ch.s (dB (trB x hid most)) pm (Ch.s (dB (trB x hid most)) pm (Ch.s (dB (!(decide ((trB x hid most) = (trB x hid most))))) (.pure (.neB _ _ _ _ rfl Tryz.underlying4 rfl rfl)) (Ch.s (dB (!(decide ((trB x hid most) = (trB x hid most))))) (pF rfl) (Ch.nil ?_))))
   refine T_condN (b := (decide ((trB x hid most) = (trB x hid most)))) rfl (fun h3 => ?_) (fun h3 => ?_)
   ·
    replace h3 := odf h3
    refine Ts hc (Ch.s (dB false) pa (Ch.nil (T_ret ?_)))
    exact eR [(dB false)] [] [] (.cons (.tmp 6 rfl) .nil) eC (Exp.of (congrArg D.bool a45) (.d _))
   ·
    replace h3 := odt h3
    refine Tk (Tq (Tq ?_))
    refine T_regionD hc (by kernel_rfl) ?_
    refine ChD.s (.agg [(.row 32000), (.row 32001), (.row 32002)]) [10000, 32000, 32001, 32002] (lA ag33 sz33 rfl rfl (lb rfl) rfl) (ChD.s (.agg (vX x)) [3000] (lA ag26 sz26 rfl rfl (lb rfl) rfl) (ChD.s (.agg [(.row 51000), (.row 51001), (.row 51002)]) [] (.call 51000 6 _ _ _ en6 rfl (.inl rfl) (.cons lX .nil) rfl (sol (Sgr.sol _) rfl) (sp_laws_toStateGraph x a21) (.skip _ _ .nil) rfl) (ChD.s (dB (decide (x = x))) [32000, 32001, 32002, 51000, 51001, 51002] (.call 52000 9 _ _ _ en9 rfl (.inl rfl) (.cons (.lend (.agg (.cons (.row rfl (frozs_map (fun _ => rfl) _)) (.cons (.row rfl (frozs_map (fun _ => rfl) _)) (.cons (.row rfl (frozs_map (fun _ => rfl) _)) .nil))) rfl)) (.cons (.lend (.agg (.cons (.row rfl (frozs_map (fun _ => rfl) _)) (.cons (.row rfl (frozs_map (fun _ => rfl) _)) (.cons (.row rfl (frozs_map (fun _ => rfl) _)) .nil))) rfl)) .nil)) rfl rfl (sp_laws_eqStateGraph x x a21) (.skip _ _ (.skip _ _ .nil)) rfl) (ChD.s (dB (!(decide (x = x)))) [] (nT rfl) ?_))))
    refine ChD.nil (And.intro ?_ (by kernel_rfl))
    refine T_condN (b := (decide (x = x))) rfl (fun h4 => ?_) (fun h4 => ?_)
    ·
     replace h4 := odf h4
     refine Ts hc (Ch.s (dB false) pa (Ch.nil (T_ret ?_)))
     exact eR [(dB false)] [] [] (.cons (.tmp 6 rfl) .nil) eC (Exp.of (congrArg D.bool a45) (.d _))
    ·
     replace h4 := odt h4
     refine Tk (Ts hc (Ch.s (dI 1) pa (Ch.nil (Ts hc (Ch.s (.agg [(.row 32000), (.row 32001), (.row 32002)]) (lA ag33 sz33 rfl rfl (lb rfl) rfl) ?_)))))
     refine Ch.s (dI 1) pm (Ch.s (dI ((1 + 2 * x.sigs.length + x.codes.length + 4 * x.arcs.length : Nat) : Int)) (.call 56000 10 _ _ _ en10 rfl (.inl rfl) (.cons (.agg (.cons (.row rfl) (.cons (.row rfl) (.cons (.row rfl) .nil))) rfl) (.cons (.d _) .nil)) rfl rfl (sp_laws_markStateGraph x 1 a21 a21) (.skip _ _ (.skip _ _ .nil)) rfl) (Ch.s (dI ((1 + 2 * x.sigs.length + x.codes.length + 4 * x.arcs.length : Nat) : Int)) pa (Ch.nil (Tq (Ts hc (Ch.s (dI ((1 + 2 * x.sigs.length + x.codes.length + 4 * x.arcs.length : Nat) : Int)) pm ?_))))))
     refine Ch.s (dB (decide (((1 + 2 * x.sigs.length + x.codes.length + 4 * x.arcs.length : Nat) : Int) < 0))) (iX rfl rfl rfl) (Ch.s (dB (decide (((1 + 2 * x.sigs.length + x.codes.length + 4 * x.arcs.length : Nat) : Int) < 0))) pm ?_)
     cases h5 : (decide (((1 + 2 * x.sigs.length + x.codes.length + 4 * x.arcs.length : Nat) : Int) < 0)) with
     | true =>
      replace h5 := odt h5
      refine Ck (Ck (Ck (Ck (Ch.s (dB true) (pT rfl) (Ch.s (dB true) pm (Ck (Ch.skip rfl rfl ?_)))))))
      refine Ck (Ch.s (dB true) (pT rfl) (Ch.nil ?_))
      refine T_cond (b := true) rfl (fun _ => ?_) (fun h => nomatch h)
      refine Ts hc (Ch.s (dB false) pa (Ch.nil (T_ret ?_)))
      exact eR [(dB false)] [] [] (.cons (.tmp 6 rfl) .nil) eC (Exp.of (congrArg D.bool a45) (.d _))
     | false =>
      replace h5 := odf h5
      refine Ch.s (.row 37000) pm (Ch.s (.row 28000) pm (Ch.s (dB (decide ((trV x hid most) = (trV x hid most)))) (.call 62000 8 _ _ _ en8 rfl (.inl rfl) (.cons (.lend (.row rfl (frozs_map (fun _ => rfl) _))) (.cons (.lend (.row rfl (frozs_map (fun _ => rfl) _))) .nil)) rfl rfl (sp_laws_eqStringS (trV x hid most) (trV x hid most) a16) (.skip _ _ (.skip _ _ .nil)) rfl) (Ch.s (dB (!(decide ((trV x hid most) = (trV x hid most))))) (nT rfl) (Ch.s (dB (!(decide ((trV x hid most) = (trV x hid most))))) (pF rfl) (Ch.s (dB (!(decide ((trV x hid most) = (trV x hid most))))) pm ?_)))))
      cases h6 : (decide ((trV x hid most) = (trV x hid most))) with
      | true =>
       replace h6 := odt h6
       refine Ch.s (dB (trB x hid most)) pm (Ch.s (dB (trB x hid most)) pm (Ch.s (dB (!(decide ((trB x hid most) = (trB x hid most))))) (.pure (.neB _ _ _ _ rfl Tryz.underlying4 rfl rfl)) (Ch.s (dB (!(decide ((trB x hid most) = (trB x hid most))))) (pF rfl) (Ch.nil ?_))))
       refine T_condN (b := (decide ((trB x hid most) = (trB x hid most)))) rfl (fun h7 => ?_) (fun h7 => ?_)
       ·
        replace h7 := odf h7
        refine Ts hc (Ch.s (dB false) pa (Ch.nil (T_ret ?_)))
        exact eR [(dB false)] [] [] (.cons (.tmp 6 rfl) .nil) eC (Exp.of (congrArg D.bool a45) (.d _))
       ·
        replace h7 := odt h7
        refine Tk (Ts hc (Ch.s (dI 1) pa (Ch.nil (Ts hc (Ch.s (.row 37000) pm ?_)))))
        refine Ch.s (dI 1) pm ?_
        refine Ch.step (v := (dI ((1 + (trV x hid most).length : Nat) : Int))) rfl (.call 72000 11 _ _ _ en11 rfl (.inl rfl) (.cons (.row rfl) (.cons (.d _) .nil)) rfl (sol rfl (solids_c (solid_row (fun _ => rfl) _) rfl)) (sp_laws_markStringS (trV x hid most) 1 a16 a16) (.row _ _ _ (.skip _ _ .nil)) rfl) rfl rfl ?_
        refine Ch.s (dI ((1 + (trV x hid most).length : Nat) : Int)) pa (Ch.nil (Ts hc (Ch.s (dI 1) pa (Ch.nil (Tq (Tz hc ?_))))))
        refine Ch.s (.row 37000) pm (Ch.s (dI 1) pm (Ch.s (dI (heldR (marks 1 (trV x hid most).length) 1)) (.call 75000 12 _ _ _ en12 rfl (.inl rfl) (.cons (.lend (.row rfl (frozs_map (fun _ => rfl) _))) (.cons (.d _) .nil)) rfl rfl (sp_laws_heldStringS (marks 1 (trV x hid most).length) 1 a16 a16) (.skip _ _ (.skip _ _ .nil)) rfl) (Ch.s (dI (heldR (marks 1 (trV x hid most).length) 1)) pa (Ch.nil (Tq (Tq (Tz hc ?_)))))))
        refine Ch.s (dI (heldR (marks 1 (trV x hid most).length) 1)) pm (Ch.s (dB (decide ((heldR (marks 1 (trV x hid most).length) 1) < 0))) (iX rfl rfl rfl) (Ch.nil ?_))
        refine T_condD (p := ((heldR (marks 1 (trV x hid most).length) 1) < 0)) rfl (fun h8 => ?_) (fun h8 => ?_)
        ·
         refine Ts hc (Ch.s (dB false) pa (Ch.nil (T_ret ?_)))
         exact eR [(dB false)] [] [] (.cons (.tmp 6 rfl) .nil) eC (Exp.of (congrArg D.bool a45) (.d _))
        ·
         refine Tk (Tq (Ts hc (Ch.s (dI (heldR (marks 1 (trV x hid most).length) 1)) pm (Ch.s (dI ((1 + (trV x hid most).length : Nat) : Int)) pm (Ch.s (dB (!(decide ((heldR (marks 1 (trV x hid most).length) 1) = ((1 + (trV x hid most).length : Nat) : Int))))) (iX rfl rfl rfl) (Ch.nil ?_))))))
         refine T_condN (b := (decide ((heldR (marks 1 (trV x hid most).length) 1) = ((1 + (trV x hid most).length : Nat) : Int)))) rfl (fun h9 => ?_) (fun h9 => ?_)
         ·
          replace h9 := odf h9
          refine Ts hc (Ch.s (dB false) pa (Ch.nil (T_ret ?_)))
          exact eR [(dB false)] [] [] (.cons (.tmp 6 rfl) .nil) eC (Exp.of (congrArg D.bool a45) (.d _))
         ·
          replace h9 := odt h9
          refine Tk (Ts hc (Ch.s (.agg (vX x)) (lA ag26 sz26 rfl rfl (lb rfl) rfl) ?_))
          refine Ch.step (v := (.agg [(.row 83000), (.row 83001), (.row 83002)])) rfl (.call 83000 6 _ _ _ en6 rfl (.inl rfl) (.cons lX .nil) rfl (sol (Sgr.sol _) rfl) (sp_laws_toStateGraph x a21) (.skip _ _ .nil) rfl) rfl rfl ?_
          refine Ch.s (dI hid) pm (Ch.s (dI most) pm ?_)
          refine Ch.step (v := (.tup [(.row 86000), (dB (trB x hid most))])) rfl (.call 86000 7 _ _ _ en7 rfl (.inl rfl) (.cons (.lend (.agg (.cons (.row rfl (frozs_map (fun _ => rfl) _)) (.cons (.row rfl (frozs_map (fun _ => rfl) _)) (.cons (.row rfl (frozs_map (fun _ => rfl) _)) .nil))) rfl)) (.cons (.d _) (.cons (.d _) .nil))) rfl (sol a63 rfl) (sp_impl_Traces x hid most a21) (.skip _ _ (.skip _ _ (.skip _ _ .nil))) rfl) rfl rfl ?_
          refine Ch.s (.tup [(.row 86000), (dB (trB x hid most))]) pm (Ch.s (.row 86000) (xT rfl rfl) (Ch.s (dB (trB x hid most)) (xT rfl rfl) (Ch.s (.row 86000) pa (Ch.s (dB (trB x hid most)) pa (Ch.nil (Tq (Tq ?_)))))))
          refine Tz hc (Ch.s (.row 86000) pm (Ch.s (.row 28000) pm (Ch.s (dB (decide ((trV x hid most) = (trV x hid most)))) (.call 91000 8 _ _ _ en8 rfl (.inl rfl) (.cons (.lend (.row rfl (frozs_map (fun _ => rfl) _))) (.cons (.lend (.row rfl (frozs_map (fun _ => rfl) _))) .nil)) rfl rfl (sp_laws_eqStringS (trV x hid most) (trV x hid most) a16) (.skip _ _ (.skip _ _ .nil)) rfl) (Ch.s (dB (!(decide ((trV x hid most) = (trV x hid most))))) (nT rfl) (Ch.s (dB (!(decide ((trV x hid most) = (trV x hid most))))) pm ?_)))))
          cases h10 : (decide ((trV x hid most) = (trV x hid most))) with
          | true =>
           replace h10 := odt h10
           refine Ch.s (dB (trB x hid most)) pm (Ch.s (dB (trB x hid most)) pm (Ch.s (dB (!(decide ((trB x hid most) = (trB x hid most))))) (.pure (.neB _ _ _ _ rfl Tryz.underlying4 rfl rfl)) (Ch.s (dB (!(decide ((trB x hid most) = (trB x hid most))))) (pF rfl) (Ch.nil ?_))))
           refine T_condN (b := (decide ((trB x hid most) = (trB x hid most)))) rfl (fun h11 => ?_) (fun h11 => ?_)
           ·
            replace h11 := odf h11
            refine Ts hc (Ch.s (dB false) pa (Ch.nil (T_ret ?_)))
            exact eR [(dB false)] [] [] (.cons (.tmp 6 rfl) .nil) eC (Exp.of (congrArg D.bool a45) (.d _))
           ·
            replace h11 := odt h11
            refine Tk (Ts hc (Ch.s (dI 1) pa (Ch.nil (Ts hc (Ch.s (.row 37000) pm ?_)))))
            refine Ch.s (dI 1) pm (Ch.s (dI (heldR (marks 1 (trV x hid most).length) 1)) (.call 100000 12 _ _ _ en12 rfl (.inl rfl) (.cons (.lend (.row rfl (frozs_map (fun _ => rfl) _))) (.cons (.d _) .nil)) rfl rfl (sp_laws_heldStringS (marks 1 (trV x hid most).length) 1 a16 a16) (.skip _ _ (.skip _ _ .nil)) rfl) (Ch.s (dI (heldR (marks 1 (trV x hid most).length) 1)) pa (Ch.nil (Tq (Ts hc (Ch.s (dI (heldR (marks 1 (trV x hid most).length) 1)) pm ?_))))))
            refine Ch.s (dB (decide ((heldR (marks 1 (trV x hid most).length) 1) < 0))) (iX rfl rfl rfl) (Ch.nil ?_)
            refine T_condD (p := ((heldR (marks 1 (trV x hid most).length) 1) < 0)) rfl (fun h12 => ?_) (fun h12 => ?_)
            ·
             refine Ts hc (Ch.s (dB false) pa (Ch.nil (T_ret ?_)))
             exact eR [(dB false)] [] [] (.cons (.tmp 6 rfl) .nil) eC (Exp.of (congrArg D.bool a45) (.d _))
            ·
             refine Tk (Tq (Ts hc (Ch.s (dI (heldR (marks 1 (trV x hid most).length) 1)) pm (Ch.s (dI ((1 + (trV x hid most).length : Nat) : Int)) pm (Ch.s (dB (!(decide ((heldR (marks 1 (trV x hid most).length) 1) = ((1 + (trV x hid most).length : Nat) : Int))))) (iX rfl rfl rfl) (Ch.nil ?_))))))
             refine T_condN (b := (decide ((heldR (marks 1 (trV x hid most).length) 1) = ((1 + (trV x hid most).length : Nat) : Int)))) rfl (fun h13 => ?_) (fun h13 => ?_)
             ·
              replace h13 := odf h13
              refine Ts hc (Ch.s (dB false) pa (Ch.nil (T_ret ?_)))
              exact eR [(dB false)] [] [] (.cons (.tmp 6 rfl) .nil) eC (Exp.of (congrArg D.bool a45) (.d _))
             ·
              replace h13 := odt h13
              refine Tk (Ts hc (Ch.s (dB true) pa (Ch.nil (T_ret ?_))))
              exact eR [(dB true)] [] [] (.cons (.tmp 6 rfl) .nil) eC (.d _)
          | false =>
           replace h10 := odf h10
           refine Ck (Ck (Ck (Ch.s (dB true) (pT rfl) (Ch.nil ?_))))
           refine T_cond (b := true) rfl (fun _ => ?_) (fun h => nomatch h)
           refine Ts hc (Ch.s (dB false) pa (Ch.nil (T_ret ?_)))
           exact eR [(dB false)] [] [] (.cons (.tmp 6 rfl) .nil) eC (Exp.of (congrArg D.bool a45) (.d _))
      | false =>
       replace h6 := odf h6
       refine Ck (Ck (Ck (Ch.s (dB true) (pT rfl) (Ch.nil ?_))))
       refine T_cond (b := true) rfl (fun _ => ?_) (fun h => nomatch h)
       refine Ts hc (Ch.s (dB false) pa (Ch.nil (T_ret ?_)))
       exact eR [(dB false)] [] [] (.cons (.tmp 6 rfl) .nil) eC (Exp.of (congrArg D.bool a45) (.d _))
  | false =>
   replace h2 := odf h2
   refine Ck (Ck (Ck (Ch.s (dB true) (pT rfl) (Ch.nil ?_))))
   refine T_cond (b := true) rfl (fun _ => ?_) (fun h => nomatch h)
   refine Ts hc (Ch.s (dB false) pa (Ch.nil (T_ret ?_)))
   exact eR [(dB false)] [] [] (.cons (.tmp 6 rfl) .nil) eC (Exp.of (congrArg D.bool a45) (.d _))

end Go.AM
