/-
  The contracts that the law FnExactParseArcs needs.
-/
import Derived.Test.YtlnimdlpggnjeaaGreatDoorZParseArcs2
namespace Go.AM
open Go.Proofs
set_option linter.unusedVariables false
set_option linter.unusedSimpArgs false

set_option maxHeartbeats 4000000 in
theorem sp_line (m : Nat) (r : Rds) (l : List (List UInt8)) (hr : RsW m r) (hm : m ≤ 99990) (hl1 : 1 ≤ l.length) (hl : l.length ≤ 4001) (hlx : ∀ u ∈ l, u.length ≤ 4000) (hp0 : 0 ≤ r.st.places) (hp1 : r.st.places ≤ 100000) (hst : r.st.start.length ≤ 100000) : Sp Tryz.prog 10 [(.box [(.int .i64 r.st.places), (.slice true 2 (r.st.trans.map Tra.u)), (.slice true 2 (r.st.sigs.map Sgn.d)), (.slice true 2 (r.st.labs.map Lab.d)), (.str r.st.start), (.int .i64 r.kind), (.slice true 1 (r.words.map D.str))]), (.slice false 1 (l.map D.str))] [(.box [(.int .i64 ((((lineS r l).1).st).places)), (.slice true 2 (((((lineS r l).1).st).trans).map Tra.u)), (.slice true 2 (((((lineS r l).1).st).sigs).map Sgn.d)), (.slice true 2 (((((lineS r l).1).st).labs).map Lab.d)), (.str ((((lineS r l).1).st).start)), (.int .i64 (((lineS r l).1).kind)), (.slice true 1 ((((lineS r l).1).words).map D.str))]), .any] (.bool ((lineS r l).2)) := by
 refine Sp_intro (lend := false) Tryz.func10 rfl rfl rfl (fun h => nomatch h) (fun c hc hX => ?_)
 refine T_open 1 8000010 rfl rfl rfl ?_
 obtain ⟨q1, q2, q3⟩ := hr.s.1; have wo := wordS_ok hr hl hlx; have wr := wo.1; have wp := wo.2.1; have ws := congrArg List.length wo.2.2; have t1 := trnS_ok wr (u := l.getD 0 default); have t2 := trnS_ok t1.1 (u := l.getD 1 default); have g1 := t1.1; have g2 := t2.1; have g4 := t1.2.1; have g5 := t1.2.2.1; have g8 := congrArg List.length t1.2.2.2.1; have k4 := t2.2.1; have k5 := t2.2.2.1; have k8 := congrArg List.length t2.2.2.2.1; have k7 := t2.2.2.2.2; have ke := g2.e; have kt := g2.t; have hnl := numS_len (l.length - 2)
 refine Ts hc (Ch.s (dB false) pa (Ch.nil (Tq (Ts hc (Ch.s (.ptr 1 0) pm ?_)))))
 refine Ch.s (.ptr 1 0) (.pure (.nilPtr _ rfl rfl)) (Ch.s (.ptr 1 0) (fP fld39_0 rfl) (Ch.s (.d (.slice false 1 (l.map D.str))) pm ?_))
 refine Ch.step (v := (dB ((wordS r l).2))) rfl (.call 12000 28 _ _ _ en28 rfl (.inl rfl) (.cons (.box rfl (.cons (.d _) (.cons (.row rfl) (.cons (.row rfl) (.cons (.row rfl) (.cons (.d _) (.cons (.d _) (.cons (.row rfl) .nil))))))) rfl) (.cons (.d _) .nil)) rfl (sol rfl (solids_c (solid_bs _) rfl)) (sp_word r l (by omega) (by omega) (by omega)) (.box _ _ (.skip _ _ .nil)) rfl) rfl rfl ?_
 refine Ch.opens 1 8000020 rfl rfl rfl ?_
 refine Ch.nil ?_
 refine T_cond (b := ((wordS r l).2)) rfl (fun h1 => ?_) (fun h1 => ?_)
 ·
  refine Ts hc (Ch.s (dB true) pa (Ch.nil (T_ret ?_)))
  exact eR [(dB true)] [1, 8000020, 8000021, 8000022, 8000023] [] (.cons (.tmp 4 rfl) .nil) (.cons (.box rfl (.cons (Exp.of (congrArg (D.int .i64) a13) (.d _)) (.cons (Exp.of (congrArg (D.slice true 2) a13) (.row rfl)) (.cons (Exp.of (congrArg (D.slice true 2) a13) (.row rfl)) (.cons (Exp.of (congrArg (D.slice true 2) a13) (.row rfl)) (.cons (Exp.of (congrArg D.str a13) (.d _)) (.cons (Exp.of (congrArg (D.int .i64) a13) (.d _)) (.cons (Exp.of (congrArg (D.slice true 1) a13) (.row rfl)) .nil))))))) rfl) eA) (Exp.of (congrArg D.bool a13) (.d _))
 ·
  refine Tk (Tq (Ts hc (Ch.s (.d (.slice false 1 (l.map D.str))) pm (Ch.s (dI (l.length : Int)) (.pure (.len _ _ 9 rfl Tryz.underlying37 (.sh _ _) (by simp))) (Ch.s (dB (withinB (l.length : Int) 2 3)) (.call 15000 29 _ _ _ en29 rfl (.inl rfl) (.cons (.d _) (.cons (.d _) (.cons (.d _) .nil))) rfl rfl (sp_spec_l1In (l.length : Int) 2 3) (.skip _ _ (.skip _ _ (.skip _ _ .nil))) rfl) (Ch.s (dB (!(withinB (l.length : Int) 2 3))) (nT rfl) ?_))))))
  refine Ch.s (dB (!(withinB (l.length : Int) 2 3))) pm ?_
  cases h2 : (withinB (l.length : Int) 2 3) with
  | true =>
   try have hwt := within_two h2
   try have hok := okL_1 (l := l) (by assumption)
   try have hok := okL_2 (l := l) (by assumption) (by assumption)
   try have hok := okL_3 (l := l) (by assumption) (by assumption)
   try have hok := okL_4 (l := l) (by assumption) (by assumption)
   refine Ch.s (.d (.slice false 1 (l.map D.str))) pm (Ch.s (dI (l.length : Int)) (.pure (.len _ _ 9 rfl Tryz.underlying37 (.sh _ _) (by simp))) (Ch.s (dB (decide ((l.length : Int) = 3))) (iX rfl rfl rfl) (Ch.s (dB (decide ((l.length : Int) = 3))) pm ?_)))
   cases h3 : (decide ((l.length : Int) = 3)) with
   | true =>
    replace h3 := odt h3
    try have hok := okL_1 (l := l) (by assumption)
    try have hok := okL_2 (l := l) (by assumption) (by assumption)
    try have hok := okL_3 (l := l) (by assumption) (by assumption)
    try have hok := okL_4 (l := l) (by assumption) (by assumption)
    refine Ch.s (.d (.slice false 1 (l.map D.str))) pm (Ch.s (.d (.ref (.str (l.getD 2 default)))) (.pure (.idx _ _ _ 9 (2) rfl Tryz.underlying37 sz9 rfl rfl rfl get_mapA)) (Ch.s (dS (l.getD 2 default)) (rF ag9 rfl rfl) (Ch.s (dB (!(decide ((l.getD 2 default) = [42])))) (.pure (.str _ _ _ _ _ rfl rfl rfl rfl)) (Ch.s (dB (!(decide ((l.getD 2 default) = [42])))) (pT rfl) (Ch.s (dB (!(decide ((l.getD 2 default) = [42])))) (pF rfl) (Ch.nil ?_))))))
    refine T_condN (b := (decide ((l.getD 2 default) = [42]))) rfl (fun h4 => ?_) (fun h4 => ?_)
    ·
     replace h4 := odf h4
     try have hok := okL_1 (l := l) (by assumption)
     try have hok := okL_2 (l := l) (by assumption) (by assumption)
     try have hok := okL_3 (l := l) (by assumption) (by assumption)
     try have hok := okL_4 (l := l) (by assumption) (by assumption)
     try have kf := ke _ (getD_mem (l := (trnS (trnS (wordS r l).1 (l.getD 0 default)).1 (l.getD 1 default)).1.st.trans) (j := (trnS (wordS r l).1 (l.getD 0 default)).2.toNat) (d := default) (by omega))
     try have kf1 := kf.1
     try have kf2 := kf.2
     try have apl := addPost_len (trnS (trnS (wordS r l).1 (l.getD 0 default)).1 (l.getD 1 default)).1.st.trans (trnS (wordS r l).1 (l.getD 0 default)).2.toNat (trnS (trnS (wordS r l).1 (l.getD 0 default)).1 (l.getD 1 default)).1.st.places
     try have kh := (add_mem (p := (trnS (trnS (wordS r l).1 (l.getD 0 default)).1 (l.getD 1 default)).1.st.places) (j := (trnS (wordS r l).1 (l.getD 0 default)).2.toNat) ke).1 _ (getD_mem (l := addPost (trnS (trnS (wordS r l).1 (l.getD 0 default)).1 (l.getD 1 default)).1.st.trans (trnS (wordS r l).1 (l.getD 0 default)).2.toNat (trnS (trnS (wordS r l).1 (l.getD 0 default)).1 (l.getD 1 default)).1.st.places) (j := (trnS (trnS (wordS r l).1 (l.getD 0 default)).1 (l.getD 1 default)).2.toNat) (d := default) (by omega))
     try have kh1 := kh.1
     try have kh2 := kh.2
     refine Ts hc (Ch.s (dB false) pa (Ch.nil (T_ret ?_)))
     exact eR [(dB false)] [1, 8000020, 8000021, 8000022, 8000023] [] (.cons (.tmp 4 rfl) .nil) (.cons (.box rfl (.cons (Exp.of (congrArg (D.int .i64) a13) (.d _)) (.cons (Exp.of (congrArg (D.slice true 2) a13) (.row rfl)) (.cons (Exp.of (congrArg (D.slice true 2) a13) (.row rfl)) (.cons (Exp.of (congrArg (D.slice true 2) a13) (.row rfl)) (.cons (Exp.of (congrArg D.str a13) (.d _)) (.cons (Exp.of (congrArg (D.int .i64) a13) (.d _)) (.cons (Exp.of (congrArg (D.slice true 1) a13) (.row rfl)) .nil))))))) rfl) eA) (Exp.of (congrArg D.bool a13) (.d _))
    ·
     replace h4 := odt h4
     try have hok := okL_1 (l := l) (by assumption)
     try have hok := okL_2 (l := l) (by assumption) (by assumption)
     try have hok := okL_3 (l := l) (by assumption) (by assumption)
     try have hok := okL_4 (l := l) (by assumption) (by assumption)
     try have kf := ke _ (getD_mem (l := (trnS (trnS (wordS r l).1 (l.getD 0 default)).1 (l.getD 1 default)).1.st.trans) (j := (trnS (wordS r l).1 (l.getD 0 default)).2.toNat) (d := default) (by omega))
     try have kf1 := kf.1
     try have kf2 := kf.2
     try have apl := addPost_len (trnS (trnS (wordS r l).1 (l.getD 0 default)).1 (l.getD 1 default)).1.st.trans (trnS (wordS r l).1 (l.getD 0 default)).2.toNat (trnS (trnS (wordS r l).1 (l.getD 0 default)).1 (l.getD 1 default)).1.st.places
     try have kh := (add_mem (p := (trnS (trnS (wordS r l).1 (l.getD 0 default)).1 (l.getD 1 default)).1.st.places) (j := (trnS (wordS r l).1 (l.getD 0 default)).2.toNat) ke).1 _ (getD_mem (l := addPost (trnS (trnS (wordS r l).1 (l.getD 0 default)).1 (l.getD 1 default)).1.st.trans (trnS (wordS r l).1 (l.getD 0 default)).2.toNat (trnS (trnS (wordS r l).1 (l.getD 0 default)).1 (l.getD 1 default)).1.st.places) (j := (trnS (trnS (wordS r l).1 (l.getD 0 default)).1 (l.getD 1 default)).2.toNat) (d := default) (by omega))
     try have kh1 := kh.1
     try have kh2 := kh.2
     refine Tk (Ts hc (Ch.s (.ptr 1 0) pm (Ch.s (.d (.slice false 1 (l.map D.str))) pm (Ch.s (.d (.ref (.str (l.getD 0 default)))) (.pure (.idx _ _ _ 9 (0) rfl Tryz.underlying37 sz9 rfl rfl rfl get_mapA)) (Ch.s (dS (l.getD 0 default)) (rF ag9 rfl rfl) ?_)))))
     refine Ch.step (v := (dI ((trnS ((wordS r l).1) (l.getD 0 default)).2))) rfl (.call 32000 30 _ _ _ en30 rfl (.inl rfl) (.cons (.box rfl (.cons (.d _) (.cons (.row rfl) (.cons (.row rfl) (.cons (.row rfl) (.cons (.d _) (.cons (.d _) (.cons (.row rfl) .nil))))))) rfl) (.cons (.d _) .nil)) rfl (sol rfl (solids_c (solid_bs _) rfl)) (sp_strans _ ((wordS r l).1) (l.getD 0 default) (by assumption) (by omega) a82) (.box _ _ (.skip _ _ .nil)) rfl) rfl rfl ?_
     refine Ch.opens 1 8000030 rfl rfl rfl ?_
     refine Ch.s (dI ((trnS ((wordS r l).1) (l.getD 0 default)).2)) pa (Ch.s (dI (-1)) pa (Ch.nil (Tq (Ts hc (Ch.s (dI ((trnS ((wordS r l).1) (l.getD 0 default)).2)) pm (Ch.s (dB (decide (0 ≤ ((trnS ((wordS r l).1) (l.getD 0 default)).2)))) (iX rfl rfl rfl) ?_))))))
     refine Ch.nil ?_
     refine T_condD (p := (0 ≤ ((trnS ((wordS r l).1) (l.getD 0 default)).2))) rfl (fun h5 => ?_) (fun h5 => ?_)
     ·
      try have hok := okL_1 (l := l) (by assumption)
      try have hok := okL_2 (l := l) (by assumption) (by assumption)
      try have hok := okL_3 (l := l) (by assumption) (by assumption)
      try have hok := okL_4 (l := l) (by assumption) (by assumption)
      try have kf := ke _ (getD_mem (l := (trnS (trnS (wordS r l).1 (l.getD 0 default)).1 (l.getD 1 default)).1.st.trans) (j := (trnS (wordS r l).1 (l.getD 0 default)).2.toNat) (d := default) (by omega))
      try have kf1 := kf.1
      try have kf2 := kf.2
      try have apl := addPost_len (trnS (trnS (wordS r l).1 (l.getD 0 default)).1 (l.getD 1 default)).1.st.trans (trnS (wordS r l).1 (l.getD 0 default)).2.toNat (trnS (trnS (wordS r l).1 (l.getD 0 default)).1 (l.getD 1 default)).1.st.places
      try have kh := (add_mem (p := (trnS (trnS (wordS r l).1 (l.getD 0 default)).1 (l.getD 1 default)).1.st.places) (j := (trnS (wordS r l).1 (l.getD 0 default)).2.toNat) ke).1 _ (getD_mem (l := addPost (trnS (trnS (wordS r l).1 (l.getD 0 default)).1 (l.getD 1 default)).1.st.trans (trnS (wordS r l).1 (l.getD 0 default)).2.toNat (trnS (trnS (wordS r l).1 (l.getD 0 default)).1 (l.getD 1 default)).1.st.places) (j := (trnS (trnS (wordS r l).1 (l.getD 0 default)).1 (l.getD 1 default)).2.toNat) (d := default) (by omega))
      try have kh1 := kh.1
      try have kh2 := kh.2
      refine Tz hc (Ch.s (.ptr 1 0) pm (Ch.s (.d (.slice false 1 (l.map D.str))) pm (Ch.s (.d (.ref (.str (l.getD 1 default)))) (.pure (.idx _ _ _ 9 (1) rfl Tryz.underlying37 sz9 rfl rfl rfl get_mapA)) (Ch.s (dS (l.getD 1 default)) (rF ag9 rfl rfl) ?_))))
      refine Ch.step (v := (dI ((trnS ((trnS ((wordS r l).1) (l.getD 0 default)).1) (l.getD 1 default)).2))) rfl (.call 39000 30 _ _ _ en30 rfl (.inl rfl) (.cons (.box rfl (.cons (.d _) (.cons (.row rfl) (.cons (.row rfl) (.cons (.row rfl) (.cons (.d _) (.cons (.d _) (.cons (.row rfl) .nil))))))) rfl) (.cons (.d _) .nil)) rfl (sol rfl (solids_c (solid_bs _) rfl)) (sp_strans _ ((trnS ((wordS r l).1) (l.getD 0 default)).1) (l.getD 1 default) (by assumption) (by omega) a82) (.box _ _ (.skip _ _ .nil)) rfl) rfl rfl ?_
      refine Ch.opens 1 8000040 rfl rfl rfl ?_
      refine Ch.s (dI ((trnS ((trnS ((wordS r l).1) (l.getD 0 default)).1) (l.getD 1 default)).2)) pa (Ch.nil (Tq (Ts hc (Ch.s (dI ((trnS ((trnS ((wordS r l).1) (l.getD 0 default)).1) (l.getD 1 default)).2)) pm (Ch.s (dB (decide (((trnS ((trnS ((wordS r l).1) (l.getD 0 default)).1) (l.getD 1 default)).2) < 0))) (iX rfl rfl rfl) (Ch.nil ?_))))))
      refine T_condD (p := (((trnS ((trnS ((wordS r l).1) (l.getD 0 default)).1) (l.getD 1 default)).2) < 0)) rfl (fun h6 => ?_) (fun h6 => ?_)
      ·
       try have kf := ke _ (getD_mem (l := (trnS (trnS (wordS r l).1 (l.getD 0 default)).1 (l.getD 1 default)).1.st.trans) (j := (trnS (wordS r l).1 (l.getD 0 default)).2.toNat) (d := default) (by omega))
       try have kf1 := kf.1
       try have kf2 := kf.2
       try have apl := addPost_len (trnS (trnS (wordS r l).1 (l.getD 0 default)).1 (l.getD 1 default)).1.st.trans (trnS (wordS r l).1 (l.getD 0 default)).2.toNat (trnS (trnS (wordS r l).1 (l.getD 0 default)).1 (l.getD 1 default)).1.st.places
       try have kh := (add_mem (p := (trnS (trnS (wordS r l).1 (l.getD 0 default)).1 (l.getD 1 default)).1.st.places) (j := (trnS (wordS r l).1 (l.getD 0 default)).2.toNat) ke).1 _ (getD_mem (l := addPost (trnS (trnS (wordS r l).1 (l.getD 0 default)).1 (l.getD 1 default)).1.st.trans (trnS (wordS r l).1 (l.getD 0 default)).2.toNat (trnS (trnS (wordS r l).1 (l.getD 0 default)).1 (l.getD 1 default)).1.st.places) (j := (trnS (trnS (wordS r l).1 (l.getD 0 default)).1 (l.getD 1 default)).2.toNat) (d := default) (by omega))
       try have kh1 := kh.1
       try have kh2 := kh.2
       refine Ts hc (Ch.s (dB false) pa (Ch.nil (T_ret ?_)))
       exact eR [(dB false)] [1, 8000040, 8000041, 8000042, 8000043] [] (.cons (.tmp 4 rfl) .nil) (.cons (.box rfl (.cons (Exp.of (congrArg (D.int .i64) a13) (.d _)) (.cons (Exp.of (congrArg (D.slice true 2) a13) (.row rfl)) (.cons (Exp.of (congrArg (D.slice true 2) a13) (.row rfl)) (.cons (Exp.of (congrArg (D.slice true 2) a13) (.row rfl)) (.cons (Exp.of (congrArg D.str a13) (.d _)) (.cons (Exp.of (congrArg (D.int .i64) a13) (.d _)) (.cons (Exp.of (congrArg (D.slice true 1) a13) (.row rfl)) .nil))))))) rfl) eA) (Exp.of (congrArg D.bool a13) (.d _))
      ·
       try have kf := ke _ (getD_mem (l := (trnS (trnS (wordS r l).1 (l.getD 0 default)).1 (l.getD 1 default)).1.st.trans) (j := (trnS (wordS r l).1 (l.getD 0 default)).2.toNat) (d := default) (by omega))
       try have kf1 := kf.1
       try have kf2 := kf.2
       try have apl := addPost_len (trnS (trnS (wordS r l).1 (l.getD 0 default)).1 (l.getD 1 default)).1.st.trans (trnS (wordS r l).1 (l.getD 0 default)).2.toNat (trnS (trnS (wordS r l).1 (l.getD 0 default)).1 (l.getD 1 default)).1.st.places
       try have kh := (add_mem (p := (trnS (trnS (wordS r l).1 (l.getD 0 default)).1 (l.getD 1 default)).1.st.places) (j := (trnS (wordS r l).1 (l.getD 0 default)).2.toNat) ke).1 _ (getD_mem (l := addPost (trnS (trnS (wordS r l).1 (l.getD 0 default)).1 (l.getD 1 default)).1.st.trans (trnS (wordS r l).1 (l.getD 0 default)).2.toNat (trnS (trnS (wordS r l).1 (l.getD 0 default)).1 (l.getD 1 default)).1.st.places) (j := (trnS (trnS (wordS r l).1 (l.getD 0 default)).1 (l.getD 1 default)).2.toNat) (d := default) (by omega))
       try have kh1 := kh.1
       try have kh2 := kh.2
       refine Tk (Ts hc (Ch.s (.ptr 1 0) pm (Ch.s (.ptr 1 0) (.pure (.nilPtr _ rfl rfl)) (Ch.s (.ptr 1 0) (fP fld39_0 rfl) (Ch.s (.ptr 1 0) (fP fld36_0 rfl) (Ch.s (.ptr 1 0) pa ?_))))))
       refine Ch.nil (Tq ?_)
       refine T_takeF 8000040 ((((trnS ((wordS r l).1) (l.getD 0 default)).2)).toNat) 0 7000002 7000003 rfl get_mapA rfl rfl rfl (fun u1 => ?_)
       refine T_takeF 8000040 ((((trnS ((wordS r l).1) (l.getD 0 default)).2)).toNat) 1 7000004 7000005 rfl (get_set a52) rfl rfl rfl (fun u2 => ?_)
       refine T_regionD hc (by kernel_rfl) ?_
       refine ChD.s (.ptr 1 0) [] pm (ChD.s (.ptr 1 0) [] (.pure (.nilPtr _ rfl rfl)) (ChD.s (.ptr 1 0) [] (fP fld28_0 rfl) (ChD.s (.ptr 1 1) [] (fP fld24_1 rfl) (ChD.s (.row 8000040) [1] (lP ag22 rfl rfl rfl) (ChD.s (dI ((trnS ((wordS r l).1) (l.getD 0 default)).2)) [] pm (ChD.s (.ptr 1 0) [] pm (ChD.s (.ptr 1 0) [] (.pure (.nilPtr _ rfl rfl)) ?_)))))))
       refine ChD.s (.ptr 1 0) [] (fP fld28_0 rfl) (ChD.s (.ptr 1 1) [] (fP fld24_1 rfl) (ChD.s (.row 8000040) [1] (lP ag22 rfl rfl rfl) (ChD.s (dI ((trnS ((wordS r l).1) (l.getD 0 default)).2)) [] pm (ChD.s (.el 8000040 2 ((((trnS ((wordS r l).1) (l.getD 0 default)).2)).toNat) 0) [7000002, 7000003, 7000004, 7000005, 8000040] (.pure (.idxRow _ _ _ 64 ((((trnS ((wordS r l).1) (l.getD 0 default)).2)).toNat) rfl Tryz.underlying22 sz64 rfl rfl rfl (by omega) a52)) (ChD.s (.el 8000040 2 ((((trnS ((wordS r l).1) (l.getD 0 default)).2)).toNat) 1) [] (.pure (.fldEl _ _ _ rfl fld64_1 rfl)) (ChD.s (.row 7000004) [7000002, 7000003, 7000004, 7000005, 8000040] (.pure (.loadHoleF (n := 7000004) (m := 7000005) (u := u2) _ _ rfl ag62 rfl rfl (get_set a52) rfl rfl rfl rfl rfl)) (ChD.s (.ptr 1 0) [] pm ?_)))))))
       refine ChD.s (.ptr 1 0) [] (.pure (.nilPtr _ rfl rfl)) (ChD.s (.ptr 1 0) [] (fP fld28_0 rfl) (ChD.s (.ptr 1 0) [] (fP fld24_0 rfl) (ChD.s (dI ((((trnS ((trnS ((wordS r l).1) (l.getD 0 default)).1) (l.getD 1 default)).1).st).places)) [1] (lP ag3 rfl rfl rfl) (ChD.s (.row 66000) [] (.slice 66000 _ 3 _ rfl sty62 (xs := [.tmp 65]) rfl rfl (.cons (.d _) .nil) rfl rfl (by decide)) (ChD.s (.row 67000) [66000, 7000004] (.append 67000 _ _ _ 3 rfl sty62 (by decide) (.rowK rfl) (.inr ⟨_, rfl, rfl⟩) (.row rfl rfl) rfl a30) (ChD.s (.el 8000040 2 ((((trnS ((wordS r l).1) (l.getD 0 default)).2)).toNat) 0) [7000002, 7000003, 7000004, 7000005, 8000040] (.pure (.idxRow _ _ _ 64 ((((trnS ((wordS r l).1) (l.getD 0 default)).2)).toNat) rfl Tryz.underlying22 sz64 rfl rfl rfl (by omega) a52)) (ChD.s (.el 8000040 2 ((((trnS ((wordS r l).1) (l.getD 0 default)).2)).toNat) 1) [] (.pure (.fldEl _ _ _ rfl fld64_1 rfl)) ?_)))))))
       refine ChD.s .junk [67000, 7000002, 7000003, 7000004, 7000005, 8000040] (.storeElK (y' := (.agg [(.hole u1), (.slice true 1 ((((((((trnS ((trnS ((wordS r l).1) (l.getD 0 default)).1) (l.getD 1 default)).1).st).trans).getD ((((trnS ((wordS r l).1) (l.getD 0 default)).2)).toNat) default).post).map (fun n : Int => D.int .i64 n)) ++ [(.int .i64 ((((trnS ((trnS ((wordS r l).1) (l.getD 0 default)).1) (l.getD 1 default)).1).st).places))]))])) _ _ _ rfl rfl rfl (.row rfl) rfl rfl rfl sz62 rfl (get_set a52) rfl rfl) ?_
       refine ChD.nil (And.intro ?_ (by kernel_rfl))
       refine Tq ?_
       refine T_wk (α' := { n := 114, sl := [(1, (.d (.slice false 1 (l.map D.str)))), (6, (dI ((trnS ((trnS ((wordS r l).1) (l.getD 0 default)).1) (l.getD 1 default)).2))), (7, (.ptr 1 0))], hp := [(1, (some (.box [(dI ((((trnS ((trnS ((wordS r l).1) (l.getD 0 default)).1) (l.getD 1 default)).1).st).places)), (.row 8000040), (.row 8000041), (.row 8000042), (dS ((((trnS ((trnS ((wordS r l).1) (l.getD 0 default)).1) (l.getD 1 default)).1).st).start)), (dI (((trnS ((trnS ((wordS r l).1) (l.getD 0 default)).1) (l.getD 1 default)).1).kind)), (.row 8000043)]))), (8000040, (some (.row 2 ((addPost (trnS (trnS (wordS r l).1 (l.getD 0 default)).1 (l.getD 1 default)).1.st.trans (trnS (wordS r l).1 (l.getD 0 default)).2.toNat (trnS (trnS (wordS r l).1 (l.getD 0 default)).1 (l.getD 1 default)).1.st.places).map Tra.u)))), (8000041, (some (.row 2 (((((trnS ((trnS ((wordS r l).1) (l.getD 0 default)).1) (l.getD 1 default)).1).st).sigs).map Sgn.d)))), (8000042, (some (.row 2 (((((trnS ((trnS ((wordS r l).1) (l.getD 0 default)).1) (l.getD 1 default)).1).st).labs).map Lab.d)))), (8000043, (some (.row 1 ((((trnS ((trnS ((wordS r l).1) (l.getD 0 default)).1) (l.getD 1 default)).1).words).map D.str))))], pin := [1] }) (Wk.trans (Wk.giveF 8000040 ((((trnS ((wordS r l).1) (l.getD 0 default)).2)).toNat) 0 7000002 7000003 rfl (get_set a52) rfl rfl rfl rfl rfl) (Wk.of rfl rfl (ar (ar (ar trivial))) (ar (ai (oR a55) (ar (ar (ar trivial))))))) ?_
       refine T_takeF 8000040 ((((trnS ((trnS ((wordS r l).1) (l.getD 0 default)).1) (l.getD 1 default)).2)).toNat) 0 7000006 7000007 rfl get_mapA rfl rfl rfl (fun u3 => ?_)
       refine T_takeF 8000040 ((((trnS ((trnS ((wordS r l).1) (l.getD 0 default)).1) (l.getD 1 default)).2)).toNat) 1 7000008 7000009 rfl (get_set a52) rfl rfl rfl (fun u4 => ?_)
       refine T_regionD hc (by kernel_rfl) ?_
       refine ChD.s (.ptr 1 0) [] pm (ChD.s (.ptr 1 0) [] (.pure (.nilPtr _ rfl rfl)) (ChD.s (.ptr 1 0) [] (fP fld28_0 rfl) (ChD.s (.ptr 1 1) [] (fP fld24_1 rfl) (ChD.s (.row 8000040) [1] (lP ag22 rfl rfl rfl) (ChD.s (dI ((trnS ((trnS ((wordS r l).1) (l.getD 0 default)).1) (l.getD 1 default)).2)) [] pm (ChD.s (.ptr 1 0) [] pm (ChD.s (.ptr 1 0) [] (.pure (.nilPtr _ rfl rfl)) ?_)))))))
       refine ChD.s (.ptr 1 0) [] (fP fld28_0 rfl) (ChD.s (.ptr 1 1) [] (fP fld24_1 rfl) (ChD.s (.row 8000040) [1] (lP ag22 rfl rfl rfl) (ChD.s (dI ((trnS ((trnS ((wordS r l).1) (l.getD 0 default)).1) (l.getD 1 default)).2)) [] pm (ChD.s (.el 8000040 2 ((((trnS ((trnS ((wordS r l).1) (l.getD 0 default)).1) (l.getD 1 default)).2)).toNat) 0) [7000006, 7000007, 7000008, 7000009, 8000040] (.pure (.idxRow _ _ _ 64 ((((trnS ((trnS ((wordS r l).1) (l.getD 0 default)).1) (l.getD 1 default)).2)).toNat) rfl Tryz.underlying22 sz64 rfl rfl rfl (by omega) a52)) (ChD.s (.el 8000040 2 ((((trnS ((trnS ((wordS r l).1) (l.getD 0 default)).1) (l.getD 1 default)).2)).toNat) 0) [] (.pure (.fldEl _ _ _ rfl fld64_0 rfl)) (ChD.s (.row 7000006) [7000006, 7000007, 7000008, 7000009, 8000040] (.pure (.loadHoleF (n := 7000006) (m := 7000007) (u := u3) _ _ rfl ag62 rfl rfl (get_set a52) rfl rfl rfl rfl rfl)) (ChD.s (.ptr 1 0) [] pm ?_)))))))
       refine ChD.s (.ptr 1 0) [] (.pure (.nilPtr _ rfl rfl)) (ChD.s (.ptr 1 0) [] (fP fld28_0 rfl) (ChD.s (.ptr 1 0) [] (fP fld24_0 rfl) (ChD.s (dI ((((trnS ((trnS ((wordS r l).1) (l.getD 0 default)).1) (l.getD 1 default)).1).st).places)) [1] (lP ag3 rfl rfl rfl) (ChD.s (.row 90000) [] (.slice 90000 _ 3 _ rfl sty62 (xs := [.tmp 89]) rfl rfl (.cons (.d _) .nil) rfl rfl (by decide)) (ChD.s (.row 91000) [90000, 7000006] (.append 91000 _ _ _ 3 rfl sty62 (by decide) (.rowK rfl) (.inr ⟨_, rfl, rfl⟩) (.row rfl rfl) rfl a30) (ChD.s (.el 8000040 2 ((((trnS ((trnS ((wordS r l).1) (l.getD 0 default)).1) (l.getD 1 default)).2)).toNat) 0) [7000006, 7000007, 7000008, 7000009, 8000040] (.pure (.idxRow _ _ _ 64 ((((trnS ((trnS ((wordS r l).1) (l.getD 0 default)).1) (l.getD 1 default)).2)).toNat) rfl Tryz.underlying22 sz64 rfl rfl rfl (by omega) a52)) (ChD.s (.el 8000040 2 ((((trnS ((trnS ((wordS r l).1) (l.getD 0 default)).1) (l.getD 1 default)).2)).toNat) 0) [] (.pure (.fldEl _ _ _ rfl fld64_0 rfl)) ?_)))))))
       refine ChD.s .junk [91000, 7000006, 7000007, 7000008, 7000009, 8000040] (.storeElK (y' := (.agg [(.slice true 1 (((((addPost (trnS (trnS (wordS r l).1 (l.getD 0 default)).1 (l.getD 1 default)).1.st.trans (trnS (wordS r l).1 (l.getD 0 default)).2.toNat (trnS (trnS (wordS r l).1 (l.getD 0 default)).1 (l.getD 1 default)).1.st.places).getD ((((trnS ((trnS ((wordS r l).1) (l.getD 0 default)).1) (l.getD 1 default)).2)).toNat) default).pre).map (fun n : Int => D.int .i64 n)) ++ [(.int .i64 ((((trnS ((trnS ((wordS r l).1) (l.getD 0 default)).1) (l.getD 1 default)).1).st).places))])), (.hole u4)])) _ _ _ rfl rfl rfl (.row rfl) rfl rfl rfl sz62 rfl (get_set a52) rfl rfl) ?_
       refine ChD.nil (And.intro ?_ (by kernel_rfl))
       refine Tq ?_
       refine T_wk (α' := { n := 114, sl := [(1, (.d (.slice false 1 (l.map D.str)))), (7, (.ptr 1 0))], hp := [(1, (some (.box [(dI ((((trnS ((trnS ((wordS r l).1) (l.getD 0 default)).1) (l.getD 1 default)).1).st).places)), (.row 8000040), (.row 8000041), (.row 8000042), (dS ((((trnS ((trnS ((wordS r l).1) (l.getD 0 default)).1) (l.getD 1 default)).1).st).start)), (dI (((trnS ((trnS ((wordS r l).1) (l.getD 0 default)).1) (l.getD 1 default)).1).kind)), (.row 8000043)]))), (8000040, (some (.row 2 ((addPre (addPost (trnS (trnS (wordS r l).1 (l.getD 0 default)).1 (l.getD 1 default)).1.st.trans (trnS (wordS r l).1 (l.getD 0 default)).2.toNat (trnS (trnS (wordS r l).1 (l.getD 0 default)).1 (l.getD 1 default)).1.st.places) (trnS (trnS (wordS r l).1 (l.getD 0 default)).1 (l.getD 1 default)).2.toNat (trnS (trnS (wordS r l).1 (l.getD 0 default)).1 (l.getD 1 default)).1.st.places).map Tra.u)))), (8000041, (some (.row 2 (((((trnS ((trnS ((wordS r l).1) (l.getD 0 default)).1) (l.getD 1 default)).1).st).sigs).map Sgn.d)))), (8000042, (some (.row 2 (((((trnS ((trnS ((wordS r l).1) (l.getD 0 default)).1) (l.getD 1 default)).1).st).labs).map Lab.d)))), (8000043, (some (.row 1 ((((trnS ((trnS ((wordS r l).1) (l.getD 0 default)).1) (l.getD 1 default)).1).words).map D.str))))], pin := [1] }) (Wk.trans (Wk.giveF 8000040 ((((trnS ((trnS ((wordS r l).1) (l.getD 0 default)).1) (l.getD 1 default)).2)).toNat) 1 7000008 7000009 rfl (get_set a52) rfl rfl rfl rfl rfl) (Wk.of rfl rfl (ar (ar trivial)) (ar (ai (oR a56) (ar (ar (ar trivial))))))) ?_
       refine Tz hc (Ch.s (.ptr 1 0) pm (Ch.s (.ptr 1 0) (.pure (.nilPtr _ rfl rfl)) (Ch.s (.ptr 1 0) (fP fld28_0 rfl) (Ch.s (.ptr 1 0) (fP fld24_0 rfl) (Ch.s (dI ((((trnS ((trnS ((wordS r l).1) (l.getD 0 default)).1) (l.getD 1 default)).1).st).places)) (lP ag3 rfl rfl rfl) (Ch.s (dI (((((trnS ((trnS ((wordS r l).1) (l.getD 0 default)).1) (l.getD 1 default)).1).st).places) + 1)) (iX rfl rfl intV_addA) (Ch.s (.ptr 1 0) (.pure (.nilPtr _ rfl rfl)) ?_)))))))
       refine Ch.s (.ptr 1 0) (fP fld28_0 rfl) (Ch.s (.ptr 1 0) (fP fld24_0 rfl) (Ch.s .junk (.storePtr _ _ _ rfl rfl rfl (.one _ rfl) sz3 (lb rfl)) (Ch.nil (Tq ?_))))
       refine T_regionD hc (by kernel_rfl) ?_
       refine ChD.s (.ptr 1 0) [] pm (ChD.s (.ptr 1 0) [] (.pure (.nilPtr _ rfl rfl)) (ChD.s (.ptr 1 4) [] (fP fld28_3 rfl) (ChD.s (dS ((((trnS ((trnS ((wordS r l).1) (l.getD 0 default)).1) (l.getD 1 default)).1).st).start)) [1] (lP ag9 rfl rfl rfl) (ChD.s (.d (.slice false 1 (l.map D.str))) [] pm (ChD.s (dI (l.length : Int)) [] (.pure (.len _ _ 9 rfl Tryz.underlying37 (.sh _ _) (by simp))) (ChD.s (dI ((l.length : Int) - 2)) [] (iX rfl rfl intV_subA) (ChD.s (dS (numS (l.length - 2))) [] (.call 110000 31 _ _ _ en31 rfl (.inl rfl) (.cons (.d _) .nil) rfl rfl (sp_numN (l.length - 2) ((l.length : Int) - 2) (by omega) (by omega)) (.skip _ _ .nil) rfl) ?_)))))))
       refine ChD.s (dS (((((trnS ((trnS ((wordS r l).1) (l.getD 0 default)).1) (l.getD 1 default)).1).st).start) ++ (numS (l.length - 2)))) [] (.pure (.str _ _ _ _ _ rfl rfl rfl (strV_add a26))) (ChD.s (.ptr 1 0) [] (.pure (.nilPtr _ rfl rfl)) (ChD.s (.ptr 1 4) [] (fP fld28_3 rfl) (ChD.s .junk [1, 8000040, 8000041, 8000042, 8000043] (.storePtr _ _ _ rfl rfl rfl (.one _ rfl) sz9 (lb rfl)) ?_)))
       refine ChD.nil (And.intro ?_ (by kernel_rfl))
       refine Ts hc (Ch.s (dB true) pa (Ch.nil (T_ret ?_)))
       exact eR [(dB true)] [1, 8000040, 8000041, 8000042, 8000043] [] (.cons (.tmp 4 rfl) .nil) (.cons (.box rfl (.cons (Exp.of (congrArg (D.int .i64) a13) (.d _)) (.cons (Exp.of (congrArg (D.slice true 2) a13) (.row rfl)) (.cons (Exp.of (congrArg (D.slice true 2) a13) (.row rfl)) (.cons (Exp.of (congrArg (D.slice true 2) a13) (.row rfl)) (.cons (Exp.of (congrArg D.str a13) (.d _)) (.cons (Exp.of (congrArg (D.int .i64) a13) (.d _)) (.cons (Exp.of (congrArg (D.slice true 1) a13) (.row rfl)) .nil))))))) rfl) eA) (Exp.of (congrArg D.bool a13) (.d _))
     ·
      try have hok := okL_1 (l := l) (by assumption)
      try have hok := okL_2 (l := l) (by assumption) (by assumption)
      try have hok := okL_3 (l := l) (by assumption) (by assumption)
      try have hok := okL_4 (l := l) (by assumption) (by assumption)
      try have kf := ke _ (getD_mem (l := (trnS (trnS (wordS r l).1 (l.getD 0 default)).1 (l.getD 1 default)).1.st.trans) (j := (trnS (wordS r l).1 (l.getD 0 default)).2.toNat) (d := default) (by omega))
      try have kf1 := kf.1
      try have kf2 := kf.2
      try have apl := addPost_len (trnS (trnS (wordS r l).1 (l.getD 0 default)).1 (l.getD 1 default)).1.st.trans (trnS (wordS r l).1 (l.getD 0 default)).2.toNat (trnS (trnS (wordS r l).1 (l.getD 0 default)).1 (l.getD 1 default)).1.st.places
      try have kh := (add_mem (p := (trnS (trnS (wordS r l).1 (l.getD 0 default)).1 (l.getD 1 default)).1.st.places) (j := (trnS (wordS r l).1 (l.getD 0 default)).2.toNat) ke).1 _ (getD_mem (l := addPost (trnS (trnS (wordS r l).1 (l.getD 0 default)).1 (l.getD 1 default)).1.st.trans (trnS (wordS r l).1 (l.getD 0 default)).2.toNat (trnS (trnS (wordS r l).1 (l.getD 0 default)).1 (l.getD 1 default)).1.st.places) (j := (trnS (trnS (wordS r l).1 (l.getD 0 default)).1 (l.getD 1 default)).2.toNat) (d := default) (by omega))
      try have kh1 := kh.1
      try have kh2 := kh.2
      refine Tk (Tq (Ts hc (Ch.s (dI (-1)) pm (Ch.s (dB true) (iX rfl rfl rfl) (Ch.nil ?_)))))
      refine T_cond (b := true) rfl (fun _ => ?_) (fun h => nomatch h)
      refine Ts hc (Ch.s (dB false) pa (Ch.nil (T_ret ?_)))
      exact eR [(dB false)] [1, 8000030, 8000031, 8000032, 8000033] [] (.cons (.tmp 4 rfl) .nil) (.cons (.box rfl (.cons (Exp.of (congrArg (D.int .i64) a13) (.d _)) (.cons (Exp.of (congrArg (D.slice true 2) a13) (.row rfl)) (.cons (Exp.of (congrArg (D.slice true 2) a13) (.row rfl)) (.cons (Exp.of (congrArg (D.slice true 2) a13) (.row rfl)) (.cons (Exp.of (congrArg D.str a13) (.d _)) (.cons (Exp.of (congrArg (D.int .i64) a13) (.d _)) (.cons (Exp.of (congrArg (D.slice true 1) a13) (.row rfl)) .nil))))))) rfl) eA) (Exp.of (congrArg D.bool a13) (.d _))
   | false =>
    replace h3 := odf h3
    try have hok := okL_1 (l := l) (by assumption)
    try have hok := okL_2 (l := l) (by assumption) (by assumption)
    try have hok := okL_3 (l := l) (by assumption) (by assumption)
    try have hok := okL_4 (l := l) (by assumption) (by assumption)
    refine Ck (Ck (Ck (Ck (Ch.s (dB false) (pF rfl) (Ch.s (dB false) (pF rfl) (Ch.nil ?_))))))
    refine T_cond (b := false) rfl (fun h => nomatch h) (fun _ => ?_)
    refine Tk (Ts hc (Ch.s (.ptr 1 0) pm (Ch.s (.d (.slice false 1 (l.map D.str))) pm (Ch.s (.d (.ref (.str (l.getD 0 default)))) (.pure (.idx _ _ _ 9 (0) rfl Tryz.underlying37 sz9 rfl rfl rfl get_mapA)) (Ch.s (dS (l.getD 0 default)) (rF ag9 rfl rfl) ?_)))))
    refine Ch.step (v := (dI ((trnS ((wordS r l).1) (l.getD 0 default)).2))) rfl (.call 32000 30 _ _ _ en30 rfl (.inl rfl) (.cons (.box rfl (.cons (.d _) (.cons (.row rfl) (.cons (.row rfl) (.cons (.row rfl) (.cons (.d _) (.cons (.d _) (.cons (.row rfl) .nil))))))) rfl) (.cons (.d _) .nil)) rfl (sol rfl (solids_c (solid_bs _) rfl)) (sp_strans _ ((wordS r l).1) (l.getD 0 default) (by assumption) (by omega) a82) (.box _ _ (.skip _ _ .nil)) rfl) rfl rfl ?_
    refine Ch.opens 1 8000050 rfl rfl rfl ?_
    refine Ch.s (dI ((trnS ((wordS r l).1) (l.getD 0 default)).2)) pa (Ch.s (dI (-1)) pa (Ch.nil (Tq (Ts hc (Ch.s (dI ((trnS ((wordS r l).1) (l.getD 0 default)).2)) pm (Ch.s (dB (decide (0 ≤ ((trnS ((wordS r l).1) (l.getD 0 default)).2)))) (iX rfl rfl rfl) ?_))))))
    refine Ch.nil ?_
    refine T_condD (p := (0 ≤ ((trnS ((wordS r l).1) (l.getD 0 default)).2))) rfl (fun h7 => ?_) (fun h7 => ?_)
    ·
     try have kf := ke _ (getD_mem (l := (trnS (trnS (wordS r l).1 (l.getD 0 default)).1 (l.getD 1 default)).1.st.trans) (j := (trnS (wordS r l).1 (l.getD 0 default)).2.toNat) (d := default) (by omega))
     try have kf1 := kf.1
     try have kf2 := kf.2
     try have apl := addPost_len (trnS (trnS (wordS r l).1 (l.getD 0 default)).1 (l.getD 1 default)).1.st.trans (trnS (wordS r l).1 (l.getD 0 default)).2.toNat (trnS (trnS (wordS r l).1 (l.getD 0 default)).1 (l.getD 1 default)).1.st.places
     try have kh := (add_mem (p := (trnS (trnS (wordS r l).1 (l.getD 0 default)).1 (l.getD 1 default)).1.st.places) (j := (trnS (wordS r l).1 (l.getD 0 default)).2.toNat) ke).1 _ (getD_mem (l := addPost (trnS (trnS (wordS r l).1 (l.getD 0 default)).1 (l.getD 1 default)).1.st.trans (trnS (wordS r l).1 (l.getD 0 default)).2.toNat (trnS (trnS (wordS r l).1 (l.getD 0 default)).1 (l.getD 1 default)).1.st.places) (j := (trnS (trnS (wordS r l).1 (l.getD 0 default)).1 (l.getD 1 default)).2.toNat) (d := default) (by omega))
     try have kh1 := kh.1
     try have kh2 := kh.2
     refine Tz hc (Ch.s (.ptr 1 0) pm (Ch.s (.d (.slice false 1 (l.map D.str))) pm (Ch.s (.d (.ref (.str (l.getD 1 default)))) (.pure (.idx _ _ _ 9 (1) rfl Tryz.underlying37 sz9 rfl rfl rfl get_mapA)) (Ch.s (dS (l.getD 1 default)) (rF ag9 rfl rfl) ?_))))
     refine Ch.step (v := (dI ((trnS ((trnS ((wordS r l).1) (l.getD 0 default)).1) (l.getD 1 default)).2))) rfl (.call 39000 30 _ _ _ en30 rfl (.inl rfl) (.cons (.box rfl (.cons (.d _) (.cons (.row rfl) (.cons (.row rfl) (.cons (.row rfl) (.cons (.d _) (.cons (.d _) (.cons (.row rfl) .nil))))))) rfl) (.cons (.d _) .nil)) rfl (sol rfl (solids_c (solid_bs _) rfl)) (sp_strans _ ((trnS ((wordS r l).1) (l.getD 0 default)).1) (l.getD 1 default) (by assumption) (by omega) a82) (.box _ _ (.skip _ _ .nil)) rfl) rfl rfl ?_
     refine Ch.opens 1 8000060 rfl rfl rfl ?_
     refine Ch.s (dI ((trnS ((trnS ((wordS r l).1) (l.getD 0 default)).1) (l.getD 1 default)).2)) pa (Ch.nil (Tq (Ts hc (Ch.s (dI ((trnS ((trnS ((wordS r l).1) (l.getD 0 default)).1) (l.getD 1 default)).2)) pm (Ch.s (dB (decide (((trnS ((trnS ((wordS r l).1) (l.getD 0 default)).1) (l.getD 1 default)).2) < 0))) (iX rfl rfl rfl) (Ch.nil ?_))))))
     refine T_condD (p := (((trnS ((trnS ((wordS r l).1) (l.getD 0 default)).1) (l.getD 1 default)).2) < 0)) rfl (fun h8 => ?_) (fun h8 => ?_)
     ·
      try have kf := ke _ (getD_mem (l := (trnS (trnS (wordS r l).1 (l.getD 0 default)).1 (l.getD 1 default)).1.st.trans) (j := (trnS (wordS r l).1 (l.getD 0 default)).2.toNat) (d := default) (by omega))
      try have kf1 := kf.1
      try have kf2 := kf.2
      try have apl := addPost_len (trnS (trnS (wordS r l).1 (l.getD 0 default)).1 (l.getD 1 default)).1.st.trans (trnS (wordS r l).1 (l.getD 0 default)).2.toNat (trnS (trnS (wordS r l).1 (l.getD 0 default)).1 (l.getD 1 default)).1.st.places
      try have kh := (add_mem (p := (trnS (trnS (wordS r l).1 (l.getD 0 default)).1 (l.getD 1 default)).1.st.places) (j := (trnS (wordS r l).1 (l.getD 0 default)).2.toNat) ke).1 _ (getD_mem (l := addPost (trnS (trnS (wordS r l).1 (l.getD 0 default)).1 (l.getD 1 default)).1.st.trans (trnS (wordS r l).1 (l.getD 0 default)).2.toNat (trnS (trnS (wordS r l).1 (l.getD 0 default)).1 (l.getD 1 default)).1.st.places) (j := (trnS (trnS (wordS r l).1 (l.getD 0 default)).1 (l.getD 1 default)).2.toNat) (d := default) (by omega))
      try have kh1 := kh.1
      try have kh2 := kh.2
      refine Ts hc (Ch.s (dB false) pa (Ch.nil (T_ret ?_)))
      exact eR [(dB false)] [1, 8000060, 8000061, 8000062, 8000063] [] (.cons (.tmp 4 rfl) .nil) (.cons (.box rfl (.cons (Exp.of (congrArg (D.int .i64) a13) (.d _)) (.cons (Exp.of (congrArg (D.slice true 2) a13) (.row rfl)) (.cons (Exp.of (congrArg (D.slice true 2) a13) (.row rfl)) (.cons (Exp.of (congrArg (D.slice true 2) a13) (.row rfl)) (.cons (Exp.of (congrArg D.str a13) (.d _)) (.cons (Exp.of (congrArg (D.int .i64) a13) (.d _)) (.cons (Exp.of (congrArg (D.slice true 1) a13) (.row rfl)) .nil))))))) rfl) eA) (Exp.of (congrArg D.bool a13) (.d _))
     ·
      try have kf := ke _ (getD_mem (l := (trnS (trnS (wordS r l).1 (l.getD 0 default)).1 (l.getD 1 default)).1.st.trans) (j := (trnS (wordS r l).1 (l.getD 0 default)).2.toNat) (d := default) (by omega))
      try have kf1 := kf.1
      try have kf2 := kf.2
      try have apl := addPost_len (trnS (trnS (wordS r l).1 (l.getD 0 default)).1 (l.getD 1 default)).1.st.trans (trnS (wordS r l).1 (l.getD 0 default)).2.toNat (trnS (trnS (wordS r l).1 (l.getD 0 default)).1 (l.getD 1 default)).1.st.places
      try have kh := (add_mem (p := (trnS (trnS (wordS r l).1 (l.getD 0 default)).1 (l.getD 1 default)).1.st.places) (j := (trnS (wordS r l).1 (l.getD 0 default)).2.toNat) ke).1 _ (getD_mem (l := addPost (trnS (trnS (wordS r l).1 (l.getD 0 default)).1 (l.getD 1 default)).1.st.trans (trnS (wordS r l).1 (l.getD 0 default)).2.toNat (trnS (trnS (wordS r l).1 (l.getD 0 default)).1 (l.getD 1 default)).1.st.places) (j := (trnS (trnS (wordS r l).1 (l.getD 0 default)).1 (l.getD 1 default)).2.toNat) (d := default) (by omega))
      try have kh1 := kh.1
      try have kh2 := kh.2
      refine Tk (Ts hc (Ch.s (.ptr 1 0) pm (Ch.s (.ptr 1 0) (.pure (.nilPtr _ rfl rfl)) (Ch.s (.ptr 1 0) (fP fld39_0 rfl) (Ch.s (.ptr 1 0) (fP fld36_0 rfl) (Ch.s (.ptr 1 0) pa ?_))))))
      refine Ch.nil (Tq ?_)
      refine T_takeF 8000060 ((((trnS ((wordS r l).1) (l.getD 0 default)).2)).toNat) 0 7000010 7000011 rfl get_mapA rfl rfl rfl (fun u5 => ?_)
      refine T_takeF 8000060 ((((trnS ((wordS r l).1) (l.getD 0 default)).2)).toNat) 1 7000012 7000013 rfl (get_set a52) rfl rfl rfl (fun u6 => ?_)
      refine T_regionD hc (by kernel_rfl) ?_
      refine ChD.s (.ptr 1 0) [] pm (ChD.s (.ptr 1 0) [] (.pure (.nilPtr _ rfl rfl)) (ChD.s (.ptr 1 0) [] (fP fld28_0 rfl) (ChD.s (.ptr 1 1) [] (fP fld24_1 rfl) (ChD.s (.row 8000060) [1] (lP ag22 rfl rfl rfl) (ChD.s (dI ((trnS ((wordS r l).1) (l.getD 0 default)).2)) [] pm (ChD.s (.ptr 1 0) [] pm (ChD.s (.ptr 1 0) [] (.pure (.nilPtr _ rfl rfl)) ?_)))))))
      refine ChD.s (.ptr 1 0) [] (fP fld28_0 rfl) (ChD.s (.ptr 1 1) [] (fP fld24_1 rfl) (ChD.s (.row 8000060) [1] (lP ag22 rfl rfl rfl) (ChD.s (dI ((trnS ((wordS r l).1) (l.getD 0 default)).2)) [] pm (ChD.s (.el 8000060 2 ((((trnS ((wordS r l).1) (l.getD 0 default)).2)).toNat) 0) [7000010, 7000011, 7000012, 7000013, 8000060] (.pure (.idxRow _ _ _ 64 ((((trnS ((wordS r l).1) (l.getD 0 default)).2)).toNat) rfl Tryz.underlying22 sz64 rfl rfl rfl (by omega) a52)) (ChD.s (.el 8000060 2 ((((trnS ((wordS r l).1) (l.getD 0 default)).2)).toNat) 1) [] (.pure (.fldEl _ _ _ rfl fld64_1 rfl)) (ChD.s (.row 7000012) [7000010, 7000011, 7000012, 7000013, 8000060] (.pure (.loadHoleF (n := 7000012) (m := 7000013) (u := u6) _ _ rfl ag62 rfl rfl (get_set a52) rfl rfl rfl rfl rfl)) (ChD.s (.ptr 1 0) [] pm ?_)))))))
      refine ChD.s (.ptr 1 0) [] (.pure (.nilPtr _ rfl rfl)) (ChD.s (.ptr 1 0) [] (fP fld28_0 rfl) (ChD.s (.ptr 1 0) [] (fP fld24_0 rfl) (ChD.s (dI ((((trnS ((trnS ((wordS r l).1) (l.getD 0 default)).1) (l.getD 1 default)).1).st).places)) [1] (lP ag3 rfl rfl rfl) (ChD.s (.row 66000) [] (.slice 66000 _ 3 _ rfl sty62 (xs := [.tmp 65]) rfl rfl (.cons (.d _) .nil) rfl rfl (by decide)) (ChD.s (.row 67000) [66000, 7000012] (.append 67000 _ _ _ 3 rfl sty62 (by decide) (.rowK rfl) (.inr ⟨_, rfl, rfl⟩) (.row rfl rfl) rfl a30) (ChD.s (.el 8000060 2 ((((trnS ((wordS r l).1) (l.getD 0 default)).2)).toNat) 0) [7000010, 7000011, 7000012, 7000013, 8000060] (.pure (.idxRow _ _ _ 64 ((((trnS ((wordS r l).1) (l.getD 0 default)).2)).toNat) rfl Tryz.underlying22 sz64 rfl rfl rfl (by omega) a52)) (ChD.s (.el 8000060 2 ((((trnS ((wordS r l).1) (l.getD 0 default)).2)).toNat) 1) [] (.pure (.fldEl _ _ _ rfl fld64_1 rfl)) ?_)))))))
      refine ChD.s .junk [67000, 7000010, 7000011, 7000012, 7000013, 8000060] (.storeElK (y' := (.agg [(.hole u5), (.slice true 1 ((((((((trnS ((trnS ((wordS r l).1) (l.getD 0 default)).1) (l.getD 1 default)).1).st).trans).getD ((((trnS ((wordS r l).1) (l.getD 0 default)).2)).toNat) default).post).map (fun n : Int => D.int .i64 n)) ++ [(.int .i64 ((((trnS ((trnS ((wordS r l).1) (l.getD 0 default)).1) (l.getD 1 default)).1).st).places))]))])) _ _ _ rfl rfl rfl (.row rfl) rfl rfl rfl sz62 rfl (get_set a52) rfl rfl) ?_
      refine ChD.nil (And.intro ?_ (by kernel_rfl))
      refine Tq ?_
      refine T_wk (α' := { n := 114, sl := [(1, (.d (.slice false 1 (l.map D.str)))), (6, (dI ((trnS ((trnS ((wordS r l).1) (l.getD 0 default)).1) (l.getD 1 default)).2))), (7, (.ptr 1 0))], hp := [(1, (some (.box [(dI ((((trnS ((trnS ((wordS r l).1) (l.getD 0 default)).1) (l.getD 1 default)).1).st).places)), (.row 8000060), (.row 8000061), (.row 8000062), (dS ((((trnS ((trnS ((wordS r l).1) (l.getD 0 default)).1) (l.getD 1 default)).1).st).start)), (dI (((trnS ((trnS ((wordS r l).1) (l.getD 0 default)).1) (l.getD 1 default)).1).kind)), (.row 8000063)]))), (8000060, (some (.row 2 ((addPost (trnS (trnS (wordS r l).1 (l.getD 0 default)).1 (l.getD 1 default)).1.st.trans (trnS (wordS r l).1 (l.getD 0 default)).2.toNat (trnS (trnS (wordS r l).1 (l.getD 0 default)).1 (l.getD 1 default)).1.st.places).map Tra.u)))), (8000061, (some (.row 2 (((((trnS ((trnS ((wordS r l).1) (l.getD 0 default)).1) (l.getD 1 default)).1).st).sigs).map Sgn.d)))), (8000062, (some (.row 2 (((((trnS ((trnS ((wordS r l).1) (l.getD 0 default)).1) (l.getD 1 default)).1).st).labs).map Lab.d)))), (8000063, (some (.row 1 ((((trnS ((trnS ((wordS r l).1) (l.getD 0 default)).1) (l.getD 1 default)).1).words).map D.str))))], pin := [1] }) (Wk.trans (Wk.giveF 8000060 ((((trnS ((wordS r l).1) (l.getD 0 default)).2)).toNat) 0 7000010 7000011 rfl (get_set a52) rfl rfl rfl rfl rfl) (Wk.of rfl rfl (ar (ar (ar trivial))) (ar (ai (oR a55) (ar (ar (ar trivial))))))) ?_
      refine T_takeF 8000060 ((((trnS ((trnS ((wordS r l).1) (l.getD 0 default)).1) (l.getD 1 default)).2)).toNat) 0 7000014 7000015 rfl get_mapA rfl rfl rfl (fun u7 => ?_)
      refine T_takeF 8000060 ((((trnS ((trnS ((wordS r l).1) (l.getD 0 default)).1) (l.getD 1 default)).2)).toNat) 1 7000016 7000017 rfl (get_set a52) rfl rfl rfl (fun u8 => ?_)
      refine T_regionD hc (by kernel_rfl) ?_
      refine ChD.s (.ptr 1 0) [] pm (ChD.s (.ptr 1 0) [] (.pure (.nilPtr _ rfl rfl)) (ChD.s (.ptr 1 0) [] (fP fld28_0 rfl) (ChD.s (.ptr 1 1) [] (fP fld24_1 rfl) (ChD.s (.row 8000060) [1] (lP ag22 rfl rfl rfl) (ChD.s (dI ((trnS ((trnS ((wordS r l).1) (l.getD 0 default)).1) (l.getD 1 default)).2)) [] pm (ChD.s (.ptr 1 0) [] pm (ChD.s (.ptr 1 0) [] (.pure (.nilPtr _ rfl rfl)) ?_)))))))
      refine ChD.s (.ptr 1 0) [] (fP fld28_0 rfl) (ChD.s (.ptr 1 1) [] (fP fld24_1 rfl) (ChD.s (.row 8000060) [1] (lP ag22 rfl rfl rfl) (ChD.s (dI ((trnS ((trnS ((wordS r l).1) (l.getD 0 default)).1) (l.getD 1 default)).2)) [] pm (ChD.s (.el 8000060 2 ((((trnS ((trnS ((wordS r l).1) (l.getD 0 default)).1) (l.getD 1 default)).2)).toNat) 0) [7000014, 7000015, 7000016, 7000017, 8000060] (.pure (.idxRow _ _ _ 64 ((((trnS ((trnS ((wordS r l).1) (l.getD 0 default)).1) (l.getD 1 default)).2)).toNat) rfl Tryz.underlying22 sz64 rfl rfl rfl (by omega) a52)) (ChD.s (.el 8000060 2 ((((trnS ((trnS ((wordS r l).1) (l.getD 0 default)).1) (l.getD 1 default)).2)).toNat) 0) [] (.pure (.fldEl _ _ _ rfl fld64_0 rfl)) (ChD.s (.row 7000014) [7000014, 7000015, 7000016, 7000017, 8000060] (.pure (.loadHoleF (n := 7000014) (m := 7000015) (u := u7) _ _ rfl ag62 rfl rfl (get_set a52) rfl rfl rfl rfl rfl)) (ChD.s (.ptr 1 0) [] pm ?_)))))))
      refine ChD.s (.ptr 1 0) [] (.pure (.nilPtr _ rfl rfl)) (ChD.s (.ptr 1 0) [] (fP fld28_0 rfl) (ChD.s (.ptr 1 0) [] (fP fld24_0 rfl) (ChD.s (dI ((((trnS ((trnS ((wordS r l).1) (l.getD 0 default)).1) (l.getD 1 default)).1).st).places)) [1] (lP ag3 rfl rfl rfl) (ChD.s (.row 90000) [] (.slice 90000 _ 3 _ rfl sty62 (xs := [.tmp 89]) rfl rfl (.cons (.d _) .nil) rfl rfl (by decide)) (ChD.s (.row 91000) [90000, 7000014] (.append 91000 _ _ _ 3 rfl sty62 (by decide) (.rowK rfl) (.inr ⟨_, rfl, rfl⟩) (.row rfl rfl) rfl a30) (ChD.s (.el 8000060 2 ((((trnS ((trnS ((wordS r l).1) (l.getD 0 default)).1) (l.getD 1 default)).2)).toNat) 0) [7000014, 7000015, 7000016, 7000017, 8000060] (.pure (.idxRow _ _ _ 64 ((((trnS ((trnS ((wordS r l).1) (l.getD 0 default)).1) (l.getD 1 default)).2)).toNat) rfl Tryz.underlying22 sz64 rfl rfl rfl (by omega) a52)) (ChD.s (.el 8000060 2 ((((trnS ((trnS ((wordS r l).1) (l.getD 0 default)).1) (l.getD 1 default)).2)).toNat) 0) [] (.pure (.fldEl _ _ _ rfl fld64_0 rfl)) ?_)))))))
      refine ChD.s .junk [91000, 7000014, 7000015, 7000016, 7000017, 8000060] (.storeElK (y' := (.agg [(.slice true 1 (((((addPost (trnS (trnS (wordS r l).1 (l.getD 0 default)).1 (l.getD 1 default)).1.st.trans (trnS (wordS r l).1 (l.getD 0 default)).2.toNat (trnS (trnS (wordS r l).1 (l.getD 0 default)).1 (l.getD 1 default)).1.st.places).getD ((((trnS ((trnS ((wordS r l).1) (l.getD 0 default)).1) (l.getD 1 default)).2)).toNat) default).pre).map (fun n : Int => D.int .i64 n)) ++ [(.int .i64 ((((trnS ((trnS ((wordS r l).1) (l.getD 0 default)).1) (l.getD 1 default)).1).st).places))])), (.hole u8)])) _ _ _ rfl rfl rfl (.row rfl) rfl rfl rfl sz62 rfl (get_set a52) rfl rfl) ?_
      refine ChD.nil (And.intro ?_ (by kernel_rfl))
      refine Tq ?_
      refine T_wk (α' := { n := 114, sl := [(1, (.d (.slice false 1 (l.map D.str)))), (7, (.ptr 1 0))], hp := [(1, (some (.box [(dI ((((trnS ((trnS ((wordS r l).1) (l.getD 0 default)).1) (l.getD 1 default)).1).st).places)), (.row 8000060), (.row 8000061), (.row 8000062), (dS ((((trnS ((trnS ((wordS r l).1) (l.getD 0 default)).1) (l.getD 1 default)).1).st).start)), (dI (((trnS ((trnS ((wordS r l).1) (l.getD 0 default)).1) (l.getD 1 default)).1).kind)), (.row 8000063)]))), (8000060, (some (.row 2 ((addPre (addPost (trnS (trnS (wordS r l).1 (l.getD 0 default)).1 (l.getD 1 default)).1.st.trans (trnS (wordS r l).1 (l.getD 0 default)).2.toNat (trnS (trnS (wordS r l).1 (l.getD 0 default)).1 (l.getD 1 default)).1.st.places) (trnS (trnS (wordS r l).1 (l.getD 0 default)).1 (l.getD 1 default)).2.toNat (trnS (trnS (wordS r l).1 (l.getD 0 default)).1 (l.getD 1 default)).1.st.places).map Tra.u)))), (8000061, (some (.row 2 (((((trnS ((trnS ((wordS r l).1) (l.getD 0 default)).1) (l.getD 1 default)).1).st).sigs).map Sgn.d)))), (8000062, (some (.row 2 (((((trnS ((trnS ((wordS r l).1) (l.getD 0 default)).1) (l.getD 1 default)).1).st).labs).map Lab.d)))), (8000063, (some (.row 1 ((((trnS ((trnS ((wordS r l).1) (l.getD 0 default)).1) (l.getD 1 default)).1).words).map D.str))))], pin := [1] }) (Wk.trans (Wk.giveF 8000060 ((((trnS ((trnS ((wordS r l).1) (l.getD 0 default)).1) (l.getD 1 default)).2)).toNat) 1 7000016 7000017 rfl (get_set a52) rfl rfl rfl rfl rfl) (Wk.of rfl rfl (ar (ar trivial)) (ar (ai (oR a56) (ar (ar (ar trivial))))))) ?_
      refine Tz hc (Ch.s (.ptr 1 0) pm (Ch.s (.ptr 1 0) (.pure (.nilPtr _ rfl rfl)) (Ch.s (.ptr 1 0) (fP fld28_0 rfl) (Ch.s (.ptr 1 0) (fP fld24_0 rfl) (Ch.s (dI ((((trnS ((trnS ((wordS r l).1) (l.getD 0 default)).1) (l.getD 1 default)).1).st).places)) (lP ag3 rfl rfl rfl) (Ch.s (dI (((((trnS ((trnS ((wordS r l).1) (l.getD 0 default)).1) (l.getD 1 default)).1).st).places) + 1)) (iX rfl rfl intV_addA) (Ch.s (.ptr 1 0) (.pure (.nilPtr _ rfl rfl)) ?_)))))))
      refine Ch.s (.ptr 1 0) (fP fld28_0 rfl) (Ch.s (.ptr 1 0) (fP fld24_0 rfl) (Ch.s .junk (.storePtr _ _ _ rfl rfl rfl (.one _ rfl) sz3 (lb rfl)) (Ch.nil (Tq ?_))))
      refine T_regionD hc (by kernel_rfl) ?_
      refine ChD.s (.ptr 1 0) [] pm (ChD.s (.ptr 1 0) [] (.pure (.nilPtr _ rfl rfl)) (ChD.s (.ptr 1 4) [] (fP fld28_3 rfl) (ChD.s (dS ((((trnS ((trnS ((wordS r l).1) (l.getD 0 default)).1) (l.getD 1 default)).1).st).start)) [1] (lP ag9 rfl rfl rfl) (ChD.s (.d (.slice false 1 (l.map D.str))) [] pm (ChD.s (dI (l.length : Int)) [] (.pure (.len _ _ 9 rfl Tryz.underlying37 (.sh _ _) (by simp))) (ChD.s (dI ((l.length : Int) - 2)) [] (iX rfl rfl intV_subA) (ChD.s (dS (numS (l.length - 2))) [] (.call 110000 31 _ _ _ en31 rfl (.inl rfl) (.cons (.d _) .nil) rfl rfl (sp_numN (l.length - 2) ((l.length : Int) - 2) (by omega) (by omega)) (.skip _ _ .nil) rfl) ?_)))))))
      refine ChD.s (dS (((((trnS ((trnS ((wordS r l).1) (l.getD 0 default)).1) (l.getD 1 default)).1).st).start) ++ (numS (l.length - 2)))) [] (.pure (.str _ _ _ _ _ rfl rfl rfl (strV_add a26))) (ChD.s (.ptr 1 0) [] (.pure (.nilPtr _ rfl rfl)) (ChD.s (.ptr 1 4) [] (fP fld28_3 rfl) (ChD.s .junk [1, 8000060, 8000061, 8000062, 8000063] (.storePtr _ _ _ rfl rfl rfl (.one _ rfl) sz9 (lb rfl)) ?_)))
      refine ChD.nil (And.intro ?_ (by kernel_rfl))
      refine Ts hc (Ch.s (dB true) pa (Ch.nil (T_ret ?_)))
      exact eR [(dB true)] [1, 8000060, 8000061, 8000062, 8000063] [] (.cons (.tmp 4 rfl) .nil) (.cons (.box rfl (.cons (Exp.of (congrArg (D.int .i64) a13) (.d _)) (.cons (Exp.of (congrArg (D.slice true 2) a13) (.row rfl)) (.cons (Exp.of (congrArg (D.slice true 2) a13) (.row rfl)) (.cons (Exp.of (congrArg (D.slice true 2) a13) (.row rfl)) (.cons (Exp.of (congrArg D.str a13) (.d _)) (.cons (Exp.of (congrArg (D.int .i64) a13) (.d _)) (.cons (Exp.of (congrArg (D.slice true 1) a13) (.row rfl)) .nil))))))) rfl) eA) (Exp.of (congrArg D.bool a13) (.d _))
    ·
     try have kf := ke _ (getD_mem (l := (trnS (trnS (wordS r l).1 (l.getD 0 default)).1 (l.getD 1 default)).1.st.trans) (j := (trnS (wordS r l).1 (l.getD 0 default)).2.toNat) (d := default) (by omega))
     try have kf1 := kf.1
     try have kf2 := kf.2
     try have apl := addPost_len (trnS (trnS (wordS r l).1 (l.getD 0 default)).1 (l.getD 1 default)).1.st.trans (trnS (wordS r l).1 (l.getD 0 default)).2.toNat (trnS (trnS (wordS r l).1 (l.getD 0 default)).1 (l.getD 1 default)).1.st.places
     try have kh := (add_mem (p := (trnS (trnS (wordS r l).1 (l.getD 0 default)).1 (l.getD 1 default)).1.st.places) (j := (trnS (wordS r l).1 (l.getD 0 default)).2.toNat) ke).1 _ (getD_mem (l := addPost (trnS (trnS (wordS r l).1 (l.getD 0 default)).1 (l.getD 1 default)).1.st.trans (trnS (wordS r l).1 (l.getD 0 default)).2.toNat (trnS (trnS (wordS r l).1 (l.getD 0 default)).1 (l.getD 1 default)).1.st.places) (j := (trnS (trnS (wordS r l).1 (l.getD 0 default)).1 (l.getD 1 default)).2.toNat) (d := default) (by omega))
     try have kh1 := kh.1
     try have kh2 := kh.2
     refine Tk (Tq (Ts hc (Ch.s (dI (-1)) pm (Ch.s (dB true) (iX rfl rfl rfl) (Ch.nil ?_)))))
     refine T_cond (b := true) rfl (fun _ => ?_) (fun h => nomatch h)
     refine Ts hc (Ch.s (dB false) pa (Ch.nil (T_ret ?_)))
     exact eR [(dB false)] [1, 8000050, 8000051, 8000052, 8000053] [] (.cons (.tmp 4 rfl) .nil) (.cons (.box rfl (.cons (Exp.of (congrArg (D.int .i64) a13) (.d _)) (.cons (Exp.of (congrArg (D.slice true 2) a13) (.row rfl)) (.cons (Exp.of (congrArg (D.slice true 2) a13) (.row rfl)) (.cons (Exp.of (congrArg (D.slice true 2) a13) (.row rfl)) (.cons (Exp.of (congrArg D.str a13) (.d _)) (.cons (Exp.of (congrArg (D.int .i64) a13) (.d _)) (.cons (Exp.of (congrArg (D.slice true 1) a13) (.row rfl)) .nil))))))) rfl) eA) (Exp.of (congrArg D.bool a13) (.d _))
  | false =>
   try have hwt := within_two h2
   try have hok := okL_1 (l := l) (by assumption)
   try have hok := okL_2 (l := l) (by assumption) (by assumption)
   try have hok := okL_3 (l := l) (by assumption) (by assumption)
   try have hok := okL_4 (l := l) (by assumption) (by assumption)
   refine Ck (Ck (Ck (Ck (Ck (Ck (Ck (Ch.skip rfl rfl ?_)))))))
   refine Ck (Ch.s (dB true) (pT rfl) (Ch.nil ?_))
   refine T_cond (b := true) rfl (fun _ => ?_) (fun h => nomatch h)
   refine Ts hc (Ch.s (dB false) pa (Ch.nil (T_ret ?_)))
   exact eR [(dB false)] [1, 8000020, 8000021, 8000022, 8000023] [] (.cons (.tmp 4 rfl) .nil) (.cons (.box rfl (.cons (Exp.of (congrArg (D.int .i64) a13) (.d _)) (.cons (Exp.of (congrArg (D.slice true 2) a13) (.row rfl)) (.cons (Exp.of (congrArg (D.slice true 2) a13) (.row rfl)) (.cons (Exp.of (congrArg (D.slice true 2) a13) (.row rfl)) (.cons (Exp.of (congrArg D.str a13) (.d _)) (.cons (Exp.of (congrArg (D.int .i64) a13) (.d _)) (.cons (Exp.of (congrArg (D.slice true 1) a13) (.row rfl)) .nil))))))) rfl) eA) (Exp.of (congrArg D.bool a13) (.d _))

theorem stru39 : StructIs Tryz.prog 39 [.int .i64 0, .slice none 0 0, .slice none 0 0, .slice none 0 0, .string .empty, .int .i64 0, .slice none 0 0] [(0, 6), (6, 1)] := structIs_mk (by kernel_rfl) Tryz.underlying39 (by kernel_rfl)

theorem en10 : Enters Tryz.prog 10 := ⟨_, Tryz.func10, by kernel_rfl, rfl⟩

theorem en11 : Enters Tryz.prog 11 := ⟨_, Tryz.func11, by kernel_rfl, rfl⟩

theorem en12 : Enters Tryz.prog 12 := ⟨_, Tryz.func12, by kernel_rfl, rfl⟩

theorem en13 : Enters Tryz.prog 13 := ⟨_, Tryz.func13, by kernel_rfl, rfl⟩

def iterS (r : Rds) (ls : List (List UInt8)) (k : Nat) : Rds := (ls.take k).foldl (fun r l => (lineS r (splB l 32)).1) r

theorem iterS_succ {r : Rds} {ls : List (List UInt8)} {k : Nat} (h : k < ls.length) : iterS r ls (k + 1) = (lineS (iterS r ls k) (splB (ls.getD k default) 32)).1 := by
 unfold iterS
 rw [List.take_succ_eq_append_getElem h, List.foldl_append]
 simp [h]

def rs0 : Rds := ⟨stg0, 0, []⟩

def okSt (ls : List (List UInt8)) (k : Nat) : Bool := (lineS (iterS rs0 ls k) (splB (ls.getD k default) 32)).2

def accS (u : List UInt8) : Bool := !decide (u = []) && (decide (u.length ≤ 4000) && (decide (u.getD (u.length - 1) 0 = 10) && (allB (splB (u.take (u.length - 1)) 10).length (okSt (splB (u.take (u.length - 1)) 10)) && (stgB (iterS rs0 (splB (u.take (u.length - 1)) 10) (splB (u.take (u.length - 1)) 10).length).st && (mrkB (iterS rs0 (splB (u.take (u.length - 1)) 10) (splB (u.take (u.length - 1)) 10).length).st && decide (arcsT (iterS rs0 (splB (u.take (u.length - 1)) 10) (splB (u.take (u.length - 1)) 10).length).st = u))))))

def parS (u : List UInt8) : Stg × Bool := if accS u then ((iterS rs0 (splB (u.take (u.length - 1)) 10) (splB (u.take (u.length - 1)) 10).length).st, true) else (stg0, false)

theorem parS_no {u : List UInt8} (h : accS u = false) : parS u = (stg0, false) := by rw [parS, h]; rfl

theorem as_1 {u : List UInt8} (h : u = []) : accS u = false := by unfold accS; rw [decide_eq_true h]; rfl

theorem as_2 {u : List UInt8} (h : 4000 < u.length) : accS u = false := by unfold accS; rw [decide_eq_false (show ¬ u.length ≤ 4000 by omega)]; simp

theorem as_3 {u : List UInt8} (h : ¬ u.getD (u.length - 1) 0 = 10) : accS u = false := by unfold accS; rw [decide_eq_false h]; simp

theorem as_4 {u : List UInt8} (k : Nat) (hk : k < (splB (u.take (u.length - 1)) 10).length) (h : (lineS (iterS rs0 (splB (u.take (u.length - 1)) 10) k) (splB ((splB (u.take (u.length - 1)) 10).getD k default) 32)).2 = false) : accS u = false := by
 unfold accS; rw [allB_no (p := okSt (splB (u.take (u.length - 1)) 10)) k hk h]; simp

theorem as_5 {u : List UInt8} {k : Nat} (hk : ¬ k < (splB (u.take (u.length - 1)) 10).length) (hk2 : k ≤ (splB (u.take (u.length - 1)) 10).length) (h : stgB (iterS rs0 (splB (u.take (u.length - 1)) 10) k).st = false) : accS u = false := by
 have e : (splB (u.take (u.length - 1)) 10).length = k := by omega
 unfold accS; rw [e, h]; simp

theorem as_6 {u : List UInt8} {k : Nat} (hk : ¬ k < (splB (u.take (u.length - 1)) 10).length) (hk2 : k ≤ (splB (u.take (u.length - 1)) 10).length) (h : mrkB (iterS rs0 (splB (u.take (u.length - 1)) 10) k).st = false) : accS u = false := by
 have e : (splB (u.take (u.length - 1)) 10).length = k := by omega
 unfold accS; rw [e, h]; simp

theorem as_7 {u : List UInt8} {k : Nat} (hk : ¬ k < (splB (u.take (u.length - 1)) 10).length) (hk2 : k ≤ (splB (u.take (u.length - 1)) 10).length) (h : ¬ arcsT (iterS rs0 (splB (u.take (u.length - 1)) 10) k).st = u) : accS u = false := by
 have e : (splB (u.take (u.length - 1)) 10).length = k := by omega
 unfold accS; rw [e, decide_eq_false h]; simp

theorem parS_y {u : List UInt8} {k : Nat} (h0 : ¬ u = []) (h1 : u.length ≤ 4000) (h2 : u.getD (u.length - 1) 0 = 10) (hk : ¬ k < (splB (u.take (u.length - 1)) 10).length) (hk2 : k ≤ (splB (u.take (u.length - 1)) 10).length)
  (h3 : ∀ j, j < k → (lineS (iterS rs0 (splB (u.take (u.length - 1)) 10) j) (splB ((splB (u.take (u.length - 1)) 10).getD j default) 32)).2 = true) (h4 : stgB (iterS rs0 (splB (u.take (u.length - 1)) 10) k).st = true) (h5 : mrkB (iterS rs0 (splB (u.take (u.length - 1)) 10) k).st = true) (h6 : arcsT (iterS rs0 (splB (u.take (u.length - 1)) 10) k).st = u) : parS u = ((iterS rs0 (splB (u.take (u.length - 1)) 10) k).st, true) := by
 have e : (splB (u.take (u.length - 1)) 10).length = k := by omega
 have ha : accS u = true := by
  unfold accS
  rw [decide_eq_false h0, decide_eq_true h1, decide_eq_true h2, e, h4, h5, decide_eq_true h6, allB_of (p := okSt (splB (u.take (u.length - 1)) 10)) (fun j hj => h3 j hj)]; rfl
 rw [parS, ha, if_pos rfl, e]

theorem rs0_ok : RsW 0 rs0 := ⟨rfl, rfl, Nat.le_refl _, fun t ht => by simp [rs0, stg0] at ht, ⟨by simp [rs0], by simp [rs0], by simp [rs0, stg0]⟩, fun y hy => by simp [rs0, stg0] at hy⟩

theorem spl_le {l : List UInt8} (h : l.length ≤ 4000) : 1 ≤ (splB l 32).length ∧ (splB l 32).length ≤ 4001 ∧ ∀ u ∈ splB l 32, u.length ≤ 4000 := by
 have := splB_len l 32
 have hc := List.count_le_length (a := (32 : UInt8)) (l := l)
 exact ⟨by omega, by omega, fun u hu => Nat.le_trans (splB_mem u hu) h⟩

theorem iterS_ok {ls : List (List UInt8)} (hx : ∀ l ∈ ls, l.length ≤ 4000) (k : Nat) : RsW (4 * k) (iterS rs0 ls k) ∧ 0 ≤ (iterS rs0 ls k).st.places ∧ (iterS rs0 ls k).st.places ≤ k ∧ (iterS rs0 ls k).st.start.length ≤ 2 * k := by
  induction k with
  | zero => exact ⟨rs0_ok, by simp [iterS, rs0, stg0], by simp [iterS, rs0, stg0], by simp [iterS, rs0, stg0]⟩
  | succ k ih =>
    by_cases hk : k < ls.length
    · rw [iterS_succ hk]
      obtain ⟨s1, s2, s3⟩ := spl_le (hx _ (getD_mem (l := ls) (j := k) (d := default) hk))
      have := lineS_ok ih.1 s2 s3
      refine ⟨this.1.mono (by omega), ?_, ?_, ?_⟩ <;> rcases this.2 with h1 | h1 <;> omega
    · have e : iterS rs0 ls (k + 1) = iterS rs0 ls k := by unfold iterS; rw [List.take_of_length_le (by omega), List.take_of_length_le (by omega)]
      rw [e]; exact ⟨ih.1.mono (by omega), ih.2.1, by omega, by omega⟩

theorem iterS_sm {ls : List (List UInt8)} (hx : ∀ l ∈ ls, l.length ≤ 4000) {k : Nat} (hk : k ≤ 4001) : (iterS rs0 ls k).st.sm := by
 obtain ⟨h1, h2, h3, h4⟩ := iterS_ok hx k
 have := h1.t; have := h1.l
 exact ⟨⟨h2, by omega⟩, ⟨by omega, fun t ht => by have := h1.e t ht; omega⟩, ⟨by have := h1.s.1; omega, fun y hy => by have := h1.s.2 y hy; omega⟩, by omega, by omega⟩

set_option maxHeartbeats 1000000 in
theorem sp_spec_ParseArcs (u : List UInt8) (hu : u.length ≤ 1048576) : Sp Tryz.prog 4 [(.str u)] [.any] (.tup [(.agg [(.int .i64 (((parS u).1).places)), (.slice true 2 ((((parS u).1).trans).map Tra.u)), (.slice true 2 ((((parS u).1).sigs).map Sgn.d)), (.slice true 2 ((((parS u).1).labs).map Lab.d)), (.str (((parS u).1).start))]), (.bool ((parS u).2))]) := by
 refine Sp_intro (lend := true) Tryz.func4 rfl rfl rfl (fun _ => rfl) (fun c hc hX => ?_)
 refine Ts hc (Ch.s (.ptr 2000 0) (.alloc 2000 _ rfl zer28) (Ch.s (dB false) pa (Ch.nil (Tq (Tq (Tz hc ?_))))))
 refine Ch.s (dS u) pm (Ch.s (dB (decide (u = []))) (.pure (.str _ _ _ _ _ rfl rfl rfl rfl)) (Ch.s (dB (decide (u = []))) pm ?_))
 cases h1 : (decide (u = [])) with
 | true =>
  replace h1 := odt h1
  try have hpn := parS_no (as_1 (u := u) (by assumption))
  try have hpn := parS_no (as_2 (u := u) (by omega))
  try have hpn := parS_no (as_3 (u := u) (by assumption))
  try have hul : 1 ≤ u.length := List.length_pos_iff.2 (by assumption)
  try have hlo : (splB (u.take (u.length - 1)) 10).length ≤ 4000 ∧ ∀ l ∈ (splB (u.take (u.length - 1)) 10), l.length ≤ 4000 := lines_ok (by omega) hul
  try have hl1 := hlo.1
  try have hl2 := hlo.2
  refine Ck (Ck (Ck (Ch.s (dB true) (pT rfl) (Ch.s (dB true) pm (Ck (Ck (Ch.skip rfl rfl ?_)))))))
  refine Ck (Ck (Ck (Ch.s (dB true) (pT rfl) (Ch.nil ?_))))
  refine T_cond (b := true) rfl (fun _ => ?_) (fun h => nomatch h)
  refine Ts hc (Ch.s (.agg [(dI 0), (.c (.slice none 0 0)), (.c (.slice none 0 0)), (.c (.slice none 0 0)), (dS [])]) (.build _ _ rfl stru28 .nil rfl) (Ch.s .junk (.storePtr _ _ _ rfl rfl rfl (.agg _ rfl) sz28 (lb rfl)) (Ch.s (dB false) pa (Ch.nil (T_ret ?_)))))
  exact eR [(.agg [(dI 0), (.c (.slice none 0 0)), (.c (.slice none 0 0)), (.c (.slice none 0 0)), (dS [])]), (dB false)] [] [] (.cons (.cellA _ _ rfl rfl ag28 sz28) (.cons (.tmp 3 rfl) .nil)) eA (.tup (.cons (.agg (.cons (Exp.of (congrArg (D.int .i64) a90) (.d _)) (.cons (Exp.of (congrArg (D.slice true 2) a90) (.nil true 2)) (.cons (Exp.of (congrArg (D.slice true 2) a90) (.nil true 2)) (.cons (Exp.of (congrArg (D.slice true 2) a90) (.nil true 2)) (.cons (Exp.of (congrArg D.str a90) (.d _)) .nil))))) rfl) (.cons (Exp.of (congrArg D.bool a90) (.d _)) .nil)))
 | false =>
  replace h1 := odf h1
  try have hpn := parS_no (as_1 (u := u) (by assumption))
  try have hpn := parS_no (as_2 (u := u) (by omega))
  try have hpn := parS_no (as_3 (u := u) (by assumption))
  try have hul : 1 ≤ u.length := List.length_pos_iff.2 (by assumption)
  try have hlo : (splB (u.take (u.length - 1)) 10).length ≤ 4000 ∧ ∀ l ∈ (splB (u.take (u.length - 1)) 10), l.length ≤ 4000 := lines_ok (by omega) hul
  try have hl1 := hlo.1
  try have hl2 := hlo.2
  refine Ch.s (dS u) pm (Ch.s (dI (u.length : Int)) (.pure (.lenStr _ _ rfl Tryz.underlying9 rfl)) (Ch.s (dB (decide (4000 < (u.length : Int)))) (iX rfl rfl rfl) (Ch.s (dB (decide (4000 < (u.length : Int)))) (pF rfl) (Ch.s (dB (decide (4000 < (u.length : Int)))) pm ?_))))
  cases h2 : (decide (4000 < (u.length : Int))) with
  | true =>
   replace h2 := odt h2
   try have hpn := parS_no (as_1 (u := u) (by assumption))
   try have hpn := parS_no (as_2 (u := u) (by omega))
   try have hpn := parS_no (as_3 (u := u) (by assumption))
   try have hul : 1 ≤ u.length := List.length_pos_iff.2 (by assumption)
   try have hlo : (splB (u.take (u.length - 1)) 10).length ≤ 4000 ∧ ∀ l ∈ (splB (u.take (u.length - 1)) 10), l.length ≤ 4000 := lines_ok (by omega) hul
   try have hl1 := hlo.1
   try have hl2 := hlo.2
   refine Ck (Ck (Ck (Ck (Ck (Ck (Ch.s (dB true) (pT rfl) (Ch.nil ?_)))))))
   refine T_cond (b := true) rfl (fun _ => ?_) (fun h => nomatch h)
   refine Ts hc (Ch.s (.agg [(dI 0), (.c (.slice none 0 0)), (.c (.slice none 0 0)), (.c (.slice none 0 0)), (dS [])]) (.build _ _ rfl stru28 .nil rfl) (Ch.s .junk (.storePtr _ _ _ rfl rfl rfl (.agg _ rfl) sz28 (lb rfl)) (Ch.s (dB false) pa (Ch.nil (T_ret ?_)))))
   exact eR [(.agg [(dI 0), (.c (.slice none 0 0)), (.c (.slice none 0 0)), (.c (.slice none 0 0)), (dS [])]), (dB false)] [] [] (.cons (.cellA _ _ rfl rfl ag28 sz28) (.cons (.tmp 3 rfl) .nil)) eA (.tup (.cons (.agg (.cons (Exp.of (congrArg (D.int .i64) a90) (.d _)) (.cons (Exp.of (congrArg (D.slice true 2) a90) (.nil true 2)) (.cons (Exp.of (congrArg (D.slice true 2) a90) (.nil true 2)) (.cons (Exp.of (congrArg (D.slice true 2) a90) (.nil true 2)) (.cons (Exp.of (congrArg D.str a90) (.d _)) .nil))))) rfl) (.cons (Exp.of (congrArg D.bool a90) (.d _)) .nil)))
  | false =>
   replace h2 := odf h2
   try have hpn := parS_no (as_1 (u := u) (by assumption))
   try have hpn := parS_no (as_2 (u := u) (by omega))
   try have hpn := parS_no (as_3 (u := u) (by assumption))
   try have hul : 1 ≤ u.length := List.length_pos_iff.2 (by assumption)
   try have hlo : (splB (u.take (u.length - 1)) 10).length ≤ 4000 ∧ ∀ l ∈ (splB (u.take (u.length - 1)) 10), l.length ≤ 4000 := lines_ok (by omega) hul
   try have hl1 := hlo.1
   try have hl2 := hlo.2
   refine Ch.s (dS u) pm (Ch.s (dS u) pm (Ch.s (dI (u.length : Int)) (.pure (.lenStr _ _ rfl Tryz.underlying9 rfl)) (Ch.s (dI ((u.length : Int) - 1)) (iX rfl rfl intV_subA) (Ch.s (.d (.int .u8 ((u.getD (u.length - 1) 0).toNat : Int))) (.pure (.idxStr _ _ _ ((u.length - 1)) rfl Tryz.underlying9 rfl rfl (by omega) get_strA)) (Ch.s (dB (!(decide (((u.getD (u.length - 1) 0) : UInt8) = 10)))) (iX rfl rfl (u8_neq ((u.getD (u.length - 1) 0) : UInt8) 10 rfl rfl)) (Ch.s (dB (!(decide (((u.getD (u.length - 1) 0) : UInt8) = 10)))) (pF rfl) (Ch.nil ?_)))))))
   refine T_condN (b := (decide (((u.getD (u.length - 1) 0) : UInt8) = 10))) rfl (fun h3 => ?_) (fun h3 => ?_)
   ·
    replace h3 := odf h3
    try have hpn := parS_no (as_1 (u := u) (by assumption))
    try have hpn := parS_no (as_2 (u := u) (by omega))
    try have hpn := parS_no (as_3 (u := u) (by assumption))
    try have hul : 1 ≤ u.length := List.length_pos_iff.2 (by assumption)
    try have hlo : (splB (u.take (u.length - 1)) 10).length ≤ 4000 ∧ ∀ l ∈ (splB (u.take (u.length - 1)) 10), l.length ≤ 4000 := lines_ok (by omega) hul
    try have hl1 := hlo.1
    try have hl2 := hlo.2
    refine Ts hc (Ch.s (.agg [(dI 0), (.c (.slice none 0 0)), (.c (.slice none 0 0)), (.c (.slice none 0 0)), (dS [])]) (.build _ _ rfl stru28 .nil rfl) (Ch.s .junk (.storePtr _ _ _ rfl rfl rfl (.agg _ rfl) sz28 (lb rfl)) (Ch.s (dB false) pa (Ch.nil (T_ret ?_)))))
    exact eR [(.agg [(dI 0), (.c (.slice none 0 0)), (.c (.slice none 0 0)), (.c (.slice none 0 0)), (dS [])]), (dB false)] [] [] (.cons (.cellA _ _ rfl rfl ag28 sz28) (.cons (.tmp 3 rfl) .nil)) eA (.tup (.cons (.agg (.cons (Exp.of (congrArg (D.int .i64) a90) (.d _)) (.cons (Exp.of (congrArg (D.slice true 2) a90) (.nil true 2)) (.cons (Exp.of (congrArg (D.slice true 2) a90) (.nil true 2)) (.cons (Exp.of (congrArg (D.slice true 2) a90) (.nil true 2)) (.cons (Exp.of (congrArg D.str a90) (.d _)) .nil))))) rfl) (.cons (Exp.of (congrArg D.bool a90) (.d _)) .nil)))
   ·
    replace h3 := odt h3
    try have hpn := parS_no (as_1 (u := u) (by assumption))
    try have hpn := parS_no (as_2 (u := u) (by omega))
    try have hpn := parS_no (as_3 (u := u) (by assumption))
    try have hul : 1 ≤ u.length := List.length_pos_iff.2 (by assumption)
    try have hlo : (splB (u.take (u.length - 1)) 10).length ≤ 4000 ∧ ∀ l ∈ (splB (u.take (u.length - 1)) 10), l.length ≤ 4000 := lines_ok (by omega) hul
    try have hl1 := hlo.1
    try have hl2 := hlo.2
    refine Tk (Ts hc (Ch.s (.agg [(dI 0), (.c (.slice none 0 0)), (.c (.slice none 0 0)), (.c (.slice none 0 0)), (dS []), (dI 0), (.c (.slice none 0 0))]) (.build _ _ rfl stru39 .nil rfl) (Ch.s (.ptr 25000 0) (.box 25000 _ _ rfl (.agg _ rfl)) (Ch.s (.ptr 25000 0) pa (Ch.nil (Tq ?_))))))
    refine Ts hc (Ch.s (dS u) pm (Ch.s (dS u) pm (Ch.s (dI (u.length : Int)) (.pure (.lenStr _ _ rfl Tryz.underlying9 rfl)) (Ch.s (dI ((u.length : Int) - 1)) (iX rfl rfl intV_subA) (Ch.s (dS (u.take (u.length - 1))) (.pure (.sliceStr _ _ _ _ (0) ((u.length - 1)) rfl Tryz.underlying9 rfl (bndN rfl) (bndS rfl (by omega)) a26 a26 (by simp))) (Ch.s (.d (.slice false 1 ((splB (u.take (u.length - 1)) 10).map D.str))) (.callFz 31000 9 _ _ _ en9 rfl (.inl rfl) (.cons (.d _) (.cons (.d _) .nil)) (solid_row (fun _ => rfl) _) (sp_spec_l1Split (u.take (u.length - 1)) (10 : UInt8) a7) (slice_froz (frozs_map (fun _ => rfl) _)) rfl) ?_))))))
    refine Ch.s (dI (((splB (u.take (u.length - 1)) 10).length : Nat) : Int)) (.pure (.len _ _ 9 rfl Tryz.underlying37 (.sh _ _) (by simp))) (Ch.s (dI 0) pm (Ch.nil (Tb ?_)))
    refine T_loop (ι := Nat) (fun k => { n := 65, sl := [(0, (dS u)), (2, (.ptr 2000 0)), (4, (.ptr 25000 0)), (31, (.d (.slice false 1 ((splB (u.take (u.length - 1)) 10).map D.str)))), (32, (dI (((splB (u.take (u.length - 1)) 10).length : Nat) : Int))), (33, (dI (k : Int)))], hp := [(2000, (some (.box [(dI 0), (.c (.slice none 0 0)), (.c (.slice none 0 0)), (.c (.slice none 0 0)), (dS [])]))), (7202, (some (.row 2 ((((iterS rs0 (splB (u.take (u.length - 1)) 10) k).st).trans).map Tra.u)))), (7203, (some (.row 2 ((((iterS rs0 (splB (u.take (u.length - 1)) 10) k).st).sigs).map Sgn.d)))), (7204, (some (.row 2 ((((iterS rs0 (splB (u.take (u.length - 1)) 10) k).st).labs).map Lab.d)))), (7207, (some (.row 1 (((iterS rs0 (splB (u.take (u.length - 1)) 10) k).words).map D.str)))), (25000, (some (.box [(dI (((iterS rs0 (splB (u.take (u.length - 1)) 10) k).st).places)), (.row 7202), (.row 7203), (.row 7204), (dS (((iterS rs0 (splB (u.take (u.length - 1)) 10) k).st).start)), (dI ((iterS rs0 (splB (u.take (u.length - 1)) 10) k).kind)), (.row 7207)])))], pin := [] }) (fun k => k ≤ (splB (u.take (u.length - 1)) 10).length ∧ ∀ j, j < k → (lineS (iterS rs0 (splB (u.take (u.length - 1)) 10) j) (splB ((splB (u.take (u.length - 1)) 10).getD j default) 32)).2 = true) (fun k => (splB (u.take (u.length - 1)) 10).length - k) ⟨0, ⟨by omega, fun j hj => by omega⟩, (Wk.trans (Wk.nilcell 25000 1 1160001 2 rfl rfl rfl) (Wk.trans (Wk.nilcell 25000 2 1160002 2 rfl rfl rfl) (Wk.trans (Wk.nilcell 25000 3 1160003 2 rfl rfl rfl) (Wk.trans (Wk.nilcell 25000 6 1160006 1 rfl rfl rfl) (Wk.ren [(7202, 1160001), (7203, 1160002), (7204, 1160003), (7207, 1160006)] rfl rfl rfl rfl (ar (ar (ar (ar (ar (ai (vI a87) trivial)))))) (ar (ai (oR a89) (ai (oR a89) (ai (oR a89) (ai (oR a89) (ai (oB (Eq.trans (b := [(dI 0), (.row 1160001), (.row 1160002), (.row 1160003), (dS []), (dI 0), (.row 1160006)]) rfl a54)) trivial)))))))))))⟩ (fun k hp0 => ?_)
    have hit := iterS_ok hl2 k; have hi1 := hit.1; have hi2 := hit.2.1; have hi3 := hit.2.2.1; have hi4 := hit.2.2.2; have hsm := iterS_sm hl2 (k := k) (by omega)
    refine Ts hc (Ch.s (dB (decide ((k : Int) < (((splB (u.take (u.length - 1)) 10).length : Nat) : Int)))) (iX rfl rfl rfl) (Ch.nil (Tq ?_)))
    refine T_condD (p := ((k : Int) < (((splB (u.take (u.length - 1)) 10).length : Nat) : Int))) rfl (fun h4 => ?_) (fun h4 => ?_)
    ·
     try have hll := hl2 _ (getD_mem (l := (splB (u.take (u.length - 1)) 10)) (j := k) (d := default) (by omega))
     try have hsp := spl_le hll
     try have hpn := parS_no (as_4 (u := u) k (by omega) (by assumption))
     try have hpn := parS_no (as_5 (u := u) (k := k) (by omega) (by omega) (by assumption))
     try have hpn := parS_no (as_6 (u := u) (k := k) (by omega) (by omega) (by assumption))
     try have hpn := parS_no (as_7 (u := u) (k := k) (by omega) (by omega) (by assumption))
     try have hpy := parS_y (u := u) (k := k) (by assumption) (by omega) (by assumption) (by omega) (by omega) hp0.2 (by assumption) (by assumption) (by assumption)
     try have hv := stg_v (by assumption : stgB (iterS rs0 (splB (u.take (u.length - 1)) 10) k).st = true)
     refine Tk (Tq (Tb (Ts hc (Ch.s (.d (.ref (.str ((splB (u.take (u.length - 1)) 10).getD k default)))) (.pure (.idx _ _ _ 9 (k) rfl Tryz.underlying37 sz9 rfl rfl rfl get_mapA)) (Ch.s (dS ((splB (u.take (u.length - 1)) 10).getD k default)) (rF ag9 rfl rfl) (Ch.s (dS ((splB (u.take (u.length - 1)) 10).getD k default)) pa ?_))))))
     refine Ch.nil (Ts hc (Ch.s (.ptr 25000 0) pm (Ch.s (dS ((splB (u.take (u.length - 1)) 10).getD k default)) pm (Ch.s (.d (.slice false 1 ((splB ((splB (u.take (u.length - 1)) 10).getD k default) 32).map D.str))) (.callFz 39000 9 _ _ _ en9 rfl (.inl rfl) (.cons (.d _) (.cons (.d _) .nil)) (solid_row (fun _ => rfl) _) (sp_spec_l1Split ((splB (u.take (u.length - 1)) 10).getD k default) (32 : UInt8) a7) (slice_froz (frozs_map (fun _ => rfl) _)) rfl) ?_))))
     refine Ch.step (v := (dB ((lineS (iterS rs0 (splB (u.take (u.length - 1)) 10) k) (splB ((splB (u.take (u.length - 1)) 10).getD k default) 32)).2))) rfl (.call 40000 10 _ _ _ en10 rfl (.inl rfl) (.cons (.box rfl (.cons (.d _) (.cons (.row rfl) (.cons (.row rfl) (.cons (.row rfl) (.cons (.d _) (.cons (.d _) (.cons (.row rfl) .nil))))))) rfl) (.cons (.d _) .nil)) rfl (sol rfl (solids_c (solid_bs _) rfl)) (sp_line _ (iterS rs0 (splB (u.take (u.length - 1)) 10) k) (splB ((splB (u.take (u.length - 1)) 10).getD k default) 32) (by assumption) (by omega) hsp.1 hsp.2.1 hsp.2.2 (by assumption) (by omega) (by omega)) (.box _ _ (.skip _ _ .nil)) rfl) rfl rfl ?_
     refine Ch.opens 25000 8000010 rfl rfl rfl ?_
     refine Ch.s (dB (!((lineS (iterS rs0 (splB (u.take (u.length - 1)) 10) k) (splB ((splB (u.take (u.length - 1)) 10).getD k default) 32)).2))) (nT rfl) (Ch.nil ?_)
     refine T_condN (b := ((lineS (iterS rs0 (splB (u.take (u.length - 1)) 10) k) (splB ((splB (u.take (u.length - 1)) 10).getD k default) 32)).2)) rfl (fun h5 => ?_) (fun h5 => ?_)
     ·
      try have hpn := parS_no (as_4 (u := u) k (by omega) (by assumption))
      try have hpn := parS_no (as_5 (u := u) (k := k) (by omega) (by omega) (by assumption))
      try have hpn := parS_no (as_6 (u := u) (k := k) (by omega) (by omega) (by assumption))
      try have hpn := parS_no (as_7 (u := u) (k := k) (by omega) (by omega) (by assumption))
      try have hpy := parS_y (u := u) (k := k) (by assumption) (by omega) (by assumption) (by omega) (by omega) hp0.2 (by assumption) (by assumption) (by assumption)
      try have hv := stg_v (by assumption : stgB (iterS rs0 (splB (u.take (u.length - 1)) 10) k).st = true)
      refine Ts hc (Ch.s (.agg [(dI 0), (.c (.slice none 0 0)), (.c (.slice none 0 0)), (.c (.slice none 0 0)), (dS [])]) (.build _ _ rfl stru28 .nil rfl) (Ch.s .junk (.storePtr _ _ _ rfl rfl rfl (.agg _ rfl) sz28 (lb rfl)) (Ch.s (dB false) pa (Ch.nil (T_ret ?_)))))
      exact eR [(.agg [(dI 0), (.c (.slice none 0 0)), (.c (.slice none 0 0)), (.c (.slice none 0 0)), (dS [])]), (dB false)] [] [] (.cons (.cellA _ _ rfl rfl ag28 sz28) (.cons (.tmp 3 rfl) .nil)) eA (.tup (.cons (.agg (.cons (Exp.of (congrArg (D.int .i64) a90) (.d _)) (.cons (Exp.of (congrArg (D.slice true 2) a90) (.nil true 2)) (.cons (Exp.of (congrArg (D.slice true 2) a90) (.nil true 2)) (.cons (Exp.of (congrArg (D.slice true 2) a90) (.nil true 2)) (.cons (Exp.of (congrArg D.str a90) (.d _)) .nil))))) rfl) (.cons (Exp.of (congrArg D.bool a90) (.d _)) .nil)))
     ·
      try have hpn := parS_no (as_4 (u := u) k (by omega) (by assumption))
      try have hpn := parS_no (as_5 (u := u) (k := k) (by omega) (by omega) (by assumption))
      try have hpn := parS_no (as_6 (u := u) (k := k) (by omega) (by omega) (by assumption))
      try have hpn := parS_no (as_7 (u := u) (k := k) (by omega) (by omega) (by assumption))
      try have hpy := parS_y (u := u) (k := k) (by assumption) (by omega) (by assumption) (by omega) (by omega) hp0.2 (by assumption) (by assumption) (by assumption)
      try have hv := stg_v (by assumption : stgB (iterS rs0 (splB (u.take (u.length - 1)) 10) k).st = true)
      refine Tk (Tz hc (Ch.s (dI ((k : Int) + 1)) (iX rfl rfl intV_addA) (Ch.s (dI ((k : Int) + 1)) pm (Ch.nil ?_))))
      exact nx (k + 1) ⟨by omega, upto_succ hp0.2 (by assumption)⟩ (Wk.ren [(7202, 8000010), (7203, 8000011), (7204, 8000012), (7207, 8000013)] rfl rfl rfl rfl (ar (ar (ar (ar (ar (ai (vI a87) trivial)))))) (ar (ai (oR a89) (ai (oR a89) (ai (oR a89) (ai (oR a89) (ai (oB (Eq.trans (b := [(dI ((((lineS (iterS rs0 (splB (u.take (u.length - 1)) 10) k) (splB ((splB (u.take (u.length - 1)) 10).getD k default) 32)).1).st).places)), (.row 8000010), (.row 8000011), (.row 8000012), (dS ((((lineS (iterS rs0 (splB (u.take (u.length - 1)) 10) k) (splB ((splB (u.take (u.length - 1)) 10).getD k default) 32)).1).st).start)), (dI (((lineS (iterS rs0 (splB (u.take (u.length - 1)) 10) k) (splB ((splB (u.take (u.length - 1)) 10).getD k default) 32)).1).kind)), (.row 8000013)]) rfl a54)) trivial)))))))
    ·
     try have hll := hl2 _ (getD_mem (l := (splB (u.take (u.length - 1)) 10)) (j := k) (d := default) (by omega))
     try have hsp := spl_le hll
     try have hpn := parS_no (as_4 (u := u) k (by omega) (by assumption))
     try have hpn := parS_no (as_5 (u := u) (k := k) (by omega) (by omega) (by assumption))
     try have hpn := parS_no (as_6 (u := u) (k := k) (by omega) (by omega) (by assumption))
     try have hpn := parS_no (as_7 (u := u) (k := k) (by omega) (by omega) (by assumption))
     try have hpy := parS_y (u := u) (k := k) (by assumption) (by omega) (by assumption) (by omega) (by omega) hp0.2 (by assumption) (by assumption) (by assumption)
     try have hv := stg_v (by assumption : stgB (iterS rs0 (splB (u.take (u.length - 1)) 10) k).st = true)
     refine T_exit (Ts hc (Ch.s (.ptr 25000 0) pm (Ch.s (.ptr 25000 0) (.pure (.nilPtr _ rfl rfl)) (Ch.s (.ptr 25000 0) (fP fld39_0 rfl) (Ch.s (.ptr 25000 0) (fP fld36_0 rfl) (Ch.s (.agg [(dI (((iterS rs0 (splB (u.take (u.length - 1)) 10) k).st).places)), (.row 7202), (.row 7203), (.row 7204), (dS (((iterS rs0 (splB (u.take (u.length - 1)) 10) k).st).start))]) (lA ag28 sz28 rfl rfl (lb rfl) rfl) ?_))))))
     refine Ch.s (.ptr 7000 0) (.alloc 7000 _ rfl zer28) (Ch.s .junk (.storePtr _ _ _ rfl rfl rfl (.agg _ rfl) sz28 (lb rfl)) (Ch.nil (Tq (Ts hc (Ch.s (.agg [(dI (((iterS rs0 (splB (u.take (u.length - 1)) 10) k).st).places)), (.row 7202), (.row 7203), (.row 7204), (dS (((iterS rs0 (splB (u.take (u.length - 1)) 10) k).st).start))]) (lA ag28 sz28 rfl rfl (lb rfl) rfl) (Ch.s (dB (stgB ((iterS rs0 (splB (u.take (u.length - 1)) 10) k).st))) (.call 50000 11 _ _ _ en11 rfl (.inl rfl) (.cons (.lend (.agg (.cons (.d _) (.cons (.row rfl (frozs_to Tra.fz _)) (.cons (.row rfl (frozs_map (fun _ => rfl) _)) (.cons (.row rfl (frozs_map (fun _ => rfl) _)) (.cons (.d _) .nil))))) rfl)) .nil) rfl rfl (sp_spec_l2Good ((iterS rs0 (splB (u.take (u.length - 1)) 10) k).st) (by assumption)) (.skip _ _ .nil) rfl) ?_))))))
     refine Ch.s (dB (!(stgB ((iterS rs0 (splB (u.take (u.length - 1)) 10) k).st)))) (nT rfl) (Ch.s (dB (!(stgB ((iterS rs0 (splB (u.take (u.length - 1)) 10) k).st)))) pm ?_)
     cases h6 : (stgB ((iterS rs0 (splB (u.take (u.length - 1)) 10) k).st)) with
     | true =>
      try have hpn := parS_no (as_4 (u := u) k (by omega) (by assumption))
      try have hpn := parS_no (as_5 (u := u) (k := k) (by omega) (by omega) (by assumption))
      try have hpn := parS_no (as_6 (u := u) (k := k) (by omega) (by omega) (by assumption))
      try have hpn := parS_no (as_7 (u := u) (k := k) (by omega) (by omega) (by assumption))
      try have hpy := parS_y (u := u) (k := k) (by assumption) (by omega) (by assumption) (by omega) (by omega) hp0.2 (by assumption) (by assumption) (by assumption)
      try have hv := stg_v (by assumption : stgB (iterS rs0 (splB (u.take (u.length - 1)) 10) k).st = true)
      refine Ch.s (.agg [(dI (((iterS rs0 (splB (u.take (u.length - 1)) 10) k).st).places)), (.row 7202), (.row 7203), (.row 7204), (dS (((iterS rs0 (splB (u.take (u.length - 1)) 10) k).st).start))]) (lA ag28 sz28 rfl rfl (lb rfl) rfl) (Ch.s (dB (mrkB ((iterS rs0 (splB (u.take (u.length - 1)) 10) k).st))) (.call 54000 12 _ _ _ en12 rfl (.inl rfl) (.cons (.lend (.agg (.cons (.d _) (.cons (.row rfl (frozs_to Tra.fz _)) (.cons (.row rfl (frozs_map (fun _ => rfl) _)) (.cons (.row rfl (frozs_map (fun _ => rfl) _)) (.cons (.d _) .nil))))) rfl)) .nil) rfl rfl (sp_spec_l3Marked ((iterS rs0 (splB (u.take (u.length - 1)) 10) k).st) (by assumption)) (.skip _ _ .nil) rfl) (Ch.s (dB (!(mrkB ((iterS rs0 (splB (u.take (u.length - 1)) 10) k).st)))) (nT rfl) (Ch.s (dB (!(mrkB ((iterS rs0 (splB (u.take (u.length - 1)) 10) k).st)))) (pF rfl) (Ch.s (dB (!(mrkB ((iterS rs0 (splB (u.take (u.length - 1)) 10) k).st)))) pm ?_))))
      cases h7 : (mrkB ((iterS rs0 (splB (u.take (u.length - 1)) 10) k).st)) with
      | true =>
       try have hpn := parS_no (as_4 (u := u) k (by omega) (by assumption))
       try have hpn := parS_no (as_5 (u := u) (k := k) (by omega) (by omega) (by assumption))
       try have hpn := parS_no (as_6 (u := u) (k := k) (by omega) (by omega) (by assumption))
       try have hpn := parS_no (as_7 (u := u) (k := k) (by omega) (by omega) (by assumption))
       try have hpy := parS_y (u := u) (k := k) (by assumption) (by omega) (by assumption) (by omega) (by omega) hp0.2 (by assumption) (by assumption) (by assumption)
       try have hv := stg_v (by assumption : stgB (iterS rs0 (splB (u.take (u.length - 1)) 10) k).st = true)
       refine Ch.s (.agg [(dI (((iterS rs0 (splB (u.take (u.length - 1)) 10) k).st).places)), (.row 7202), (.row 7203), (.row 7204), (dS (((iterS rs0 (splB (u.take (u.length - 1)) 10) k).st).start))]) (lA ag28 sz28 rfl rfl (lb rfl) rfl) (Ch.s (dS (arcsT ((iterS rs0 (splB (u.take (u.length - 1)) 10) k).st))) (.call 59000 13 _ _ _ en13 rfl (.inl rfl) (.cons (.lend (.agg (.cons (.d _) (.cons (.row rfl (frozs_to Tra.fz _)) (.cons (.row rfl (frozs_map (fun _ => rfl) _)) (.cons (.row rfl (frozs_map (fun _ => rfl) _)) (.cons (.d _) .nil))))) rfl)) .nil) rfl rfl (sp_spec_l3Arcs ((iterS rs0 (splB (u.take (u.length - 1)) 10) k).st) (by assumption) (by assumption)) (.skip _ _ .nil) rfl) (Ch.s (dS u) pm (Ch.s (dB (!(decide ((arcsT ((iterS rs0 (splB (u.take (u.length - 1)) 10) k).st)) = u)))) (.pure (.str _ _ _ _ _ rfl rfl rfl rfl)) (Ch.s (dB (!(decide ((arcsT ((iterS rs0 (splB (u.take (u.length - 1)) 10) k).st)) = u)))) (pF rfl) (Ch.nil ?_)))))
       refine T_condN (b := (decide ((arcsT ((iterS rs0 (splB (u.take (u.length - 1)) 10) k).st)) = u))) rfl (fun h8 => ?_) (fun h8 => ?_)
       ·
        replace h8 := odf h8
        try have hpn := parS_no (as_4 (u := u) k (by omega) (by assumption))
        try have hpn := parS_no (as_5 (u := u) (k := k) (by omega) (by omega) (by assumption))
        try have hpn := parS_no (as_6 (u := u) (k := k) (by omega) (by omega) (by assumption))
        try have hpn := parS_no (as_7 (u := u) (k := k) (by omega) (by omega) (by assumption))
        try have hpy := parS_y (u := u) (k := k) (by assumption) (by omega) (by assumption) (by omega) (by omega) hp0.2 (by assumption) (by assumption) (by assumption)
        try have hv := stg_v (by assumption : stgB (iterS rs0 (splB (u.take (u.length - 1)) 10) k).st = true)
        refine Ts hc (Ch.s (.agg [(dI 0), (.c (.slice none 0 0)), (.c (.slice none 0 0)), (.c (.slice none 0 0)), (dS [])]) (.build _ _ rfl stru28 .nil rfl) (Ch.s .junk (.storePtr _ _ _ rfl rfl rfl (.agg _ rfl) sz28 (lb rfl)) (Ch.s (dB false) pa (Ch.nil (T_ret ?_)))))
        exact eR [(.agg [(dI 0), (.c (.slice none 0 0)), (.c (.slice none 0 0)), (.c (.slice none 0 0)), (dS [])]), (dB false)] [] [] (.cons (.cellA _ _ rfl rfl ag28 sz28) (.cons (.tmp 3 rfl) .nil)) eA (.tup (.cons (.agg (.cons (Exp.of (congrArg (D.int .i64) a90) (.d _)) (.cons (Exp.of (congrArg (D.slice true 2) a90) (.nil true 2)) (.cons (Exp.of (congrArg (D.slice true 2) a90) (.nil true 2)) (.cons (Exp.of (congrArg (D.slice true 2) a90) (.nil true 2)) (.cons (Exp.of (congrArg D.str a90) (.d _)) .nil))))) rfl) (.cons (Exp.of (congrArg D.bool a90) (.d _)) .nil)))
       ·
        replace h8 := odt h8
        try have hpn := parS_no (as_4 (u := u) k (by omega) (by assumption))
        try have hpn := parS_no (as_5 (u := u) (k := k) (by omega) (by omega) (by assumption))
        try have hpn := parS_no (as_6 (u := u) (k := k) (by omega) (by omega) (by assumption))
        try have hpn := parS_no (as_7 (u := u) (k := k) (by omega) (by omega) (by assumption))
        try have hpy := parS_y (u := u) (k := k) (by assumption) (by omega) (by assumption) (by omega) (by omega) hp0.2 (by assumption) (by assumption) (by assumption)
        try have hv := stg_v (by assumption : stgB (iterS rs0 (splB (u.take (u.length - 1)) 10) k).st = true)
        refine Tk (Ts hc (Ch.s (.agg [(dI (((iterS rs0 (splB (u.take (u.length - 1)) 10) k).st).places)), (.row 7202), (.row 7203), (.row 7204), (dS (((iterS rs0 (splB (u.take (u.length - 1)) 10) k).st).start))]) (lA ag28 sz28 rfl rfl (lb rfl) rfl) (Ch.s .junk (.storePtr _ _ _ rfl rfl rfl (.agg _ rfl) sz28 (lb rfl)) (Ch.s (dB true) pa (Ch.nil (T_ret ?_))))))
        exact eR [(.agg [(dI (((iterS rs0 (splB (u.take (u.length - 1)) 10) k).st).places)), (.row 7202), (.row 7203), (.row 7204), (dS (((iterS rs0 (splB (u.take (u.length - 1)) 10) k).st).start))]), (dB true)] [] [7202, 7203, 7204] (.cons (.cellA _ _ rfl rfl ag28 sz28) (.cons (.tmp 3 rfl) .nil)) eA (.tup (.cons (.agg (.cons (Exp.of (congrArg (D.int .i64) a90) (.d _)) (.cons (Exp.of (congrArg (D.slice true 2) a90) (.row rfl)) (.cons (Exp.of (congrArg (D.slice true 2) a90) (.row rfl)) (.cons (Exp.of (congrArg (D.slice true 2) a90) (.row rfl)) (.cons (Exp.of (congrArg D.str a90) (.d _)) .nil))))) rfl) (.cons (Exp.of (congrArg D.bool a90) (.d _)) .nil)))
      | false =>
       try have hpn := parS_no (as_4 (u := u) k (by omega) (by assumption))
       try have hpn := parS_no (as_5 (u := u) (k := k) (by omega) (by omega) (by assumption))
       try have hpn := parS_no (as_6 (u := u) (k := k) (by omega) (by omega) (by assumption))
       try have hpn := parS_no (as_7 (u := u) (k := k) (by omega) (by omega) (by assumption))
       try have hpy := parS_y (u := u) (k := k) (by assumption) (by omega) (by assumption) (by omega) (by omega) hp0.2 (by assumption) (by assumption) (by assumption)
       try have hv := stg_v (by assumption : stgB (iterS rs0 (splB (u.take (u.length - 1)) 10) k).st = true)
       refine Ck (Ck (Ck (Ck (Ch.s (dB true) (pT rfl) (Ch.nil ?_)))))
       refine T_cond (b := true) rfl (fun _ => ?_) (fun h => nomatch h)
       refine Ts hc (Ch.s (.agg [(dI 0), (.c (.slice none 0 0)), (.c (.slice none 0 0)), (.c (.slice none 0 0)), (dS [])]) (.build _ _ rfl stru28 .nil rfl) (Ch.s .junk (.storePtr _ _ _ rfl rfl rfl (.agg _ rfl) sz28 (lb rfl)) (Ch.s (dB false) pa (Ch.nil (T_ret ?_)))))
       exact eR [(.agg [(dI 0), (.c (.slice none 0 0)), (.c (.slice none 0 0)), (.c (.slice none 0 0)), (dS [])]), (dB false)] [] [] (.cons (.cellA _ _ rfl rfl ag28 sz28) (.cons (.tmp 3 rfl) .nil)) eA (.tup (.cons (.agg (.cons (Exp.of (congrArg (D.int .i64) a90) (.d _)) (.cons (Exp.of (congrArg (D.slice true 2) a90) (.nil true 2)) (.cons (Exp.of (congrArg (D.slice true 2) a90) (.nil true 2)) (.cons (Exp.of (congrArg (D.slice true 2) a90) (.nil true 2)) (.cons (Exp.of (congrArg D.str a90) (.d _)) .nil))))) rfl) (.cons (Exp.of (congrArg D.bool a90) (.d _)) .nil)))
     | false =>
      try have hpn := parS_no (as_4 (u := u) k (by omega) (by assumption))
      try have hpn := parS_no (as_5 (u := u) (k := k) (by omega) (by omega) (by assumption))
      try have hpn := parS_no (as_6 (u := u) (k := k) (by omega) (by omega) (by assumption))
      try have hpn := parS_no (as_7 (u := u) (k := k) (by omega) (by omega) (by assumption))
      try have hpy := parS_y (u := u) (k := k) (by assumption) (by omega) (by assumption) (by omega) (by omega) hp0.2 (by assumption) (by assumption) (by assumption)
      try have hv := stg_v (by assumption : stgB (iterS rs0 (splB (u.take (u.length - 1)) 10) k).st = true)
      refine Ck (Ck (Ck (Ch.s (dB true) (pT rfl) (Ch.s (dB true) pm (Ck (Ck (Ch.skip rfl rfl ?_)))))))
      refine Ck (Ch.s (dB true) (pT rfl) (Ch.nil ?_))
      refine T_cond (b := true) rfl (fun _ => ?_) (fun h => nomatch h)
      refine Ts hc (Ch.s (.agg [(dI 0), (.c (.slice none 0 0)), (.c (.slice none 0 0)), (.c (.slice none 0 0)), (dS [])]) (.build _ _ rfl stru28 .nil rfl) (Ch.s .junk (.storePtr _ _ _ rfl rfl rfl (.agg _ rfl) sz28 (lb rfl)) (Ch.s (dB false) pa (Ch.nil (T_ret ?_)))))
      exact eR [(.agg [(dI 0), (.c (.slice none 0 0)), (.c (.slice none 0 0)), (.c (.slice none 0 0)), (dS [])]), (dB false)] [] [] (.cons (.cellA _ _ rfl rfl ag28 sz28) (.cons (.tmp 3 rfl) .nil)) eA (.tup (.cons (.agg (.cons (Exp.of (congrArg (D.int .i64) a90) (.d _)) (.cons (Exp.of (congrArg (D.slice true 2) a90) (.nil true 2)) (.cons (Exp.of (congrArg (D.slice true 2) a90) (.nil true 2)) (.cons (Exp.of (congrArg (D.slice true 2) a90) (.nil true 2)) (.cons (Exp.of (congrArg D.str a90) (.d _)) .nil))))) rfl) (.cons (Exp.of (congrArg D.bool a90) (.d _)) .nil)))

theorem en51 : Enters Tryz.prog 51 := ⟨_, Tryz.func51, by kernel_rfl, rfl⟩

theorem en92 : Enters Tryz.prog 92 := ⟨_, Tryz.func92, by kernel_rfl, rfl⟩

theorem en75 : Enters Tryz.prog 75 := ⟨_, Tryz.func75, by kernel_rfl, rfl⟩

theorem en53 : Enters Tryz.prog 53 := ⟨_, Tryz.func53, by kernel_rfl, rfl⟩

theorem en76 : Enters Tryz.prog 76 := ⟨_, Tryz.func76, by kernel_rfl, rfl⟩

theorem en77 : Enters Tryz.prog 77 := ⟨_, Tryz.func77, by kernel_rfl, rfl⟩

theorem en52 : Enters Tryz.prog 52 := ⟨_, Tryz.func52, by kernel_rfl, rfl⟩

theorem en54 : Enters Tryz.prog 54 := ⟨_, Tryz.func54, by kernel_rfl, rfl⟩

theorem en49 : Enters Tryz.prog 49 := ⟨_, Tryz.func49, by kernel_rfl, rfl⟩

theorem en19 : Enters Tryz.prog 19 := ⟨_, Tryz.func19, by kernel_rfl, rfl⟩

theorem en20 : Enters Tryz.prog 20 := ⟨_, Tryz.func20, by kernel_rfl, rfl⟩

theorem en21 : Enters Tryz.prog 21 := ⟨_, Tryz.func21, by kernel_rfl, rfl⟩

theorem en22 : Enters Tryz.prog 22 := ⟨_, Tryz.func22, by kernel_rfl, rfl⟩

theorem en23 : Enters Tryz.prog 23 := ⟨_, Tryz.func23, by kernel_rfl, rfl⟩

theorem en24 : Enters Tryz.prog 24 := ⟨_, Tryz.func24, by kernel_rfl, rfl⟩

theorem en25 : Enters Tryz.prog 25 := ⟨_, Tryz.func25, by kernel_rfl, rfl⟩

theorem en26 : Enters Tryz.prog 26 := ⟨_, Tryz.func26, by kernel_rfl, rfl⟩

theorem en27 : Enters Tryz.prog 27 := ⟨_, Tryz.func27, by kernel_rfl, rfl⟩

theorem getD_set {τ : Type} {d : τ} {l : List τ} {i j : Nat} {x : τ} : (l.set i x).getD j d = if i = j ∧ i < l.length then x else l.getD j d := by
  rw [List.getD_eq_getElem?_getD, List.getElem?_set]
  by_cases h : i = j
  · subst h
    by_cases h2 : i < l.length
    · simp [h2]
    · simp [h2]
  · simp [h]

def smO (k m : Nat) : Sgn := Sgn.mk (mtext (k + 2 * m)) ((k + 2 * m + 1 : Nat) : Int)

def smTo (xs : List Sgn) (k : Nat) : Nat → List Sgn
 | 0 => xs
 | m + 1 => (smTo xs k m).set m (smO k m)

theorem smTo_len (xs : List Sgn) (k : Nat) : ∀ m, (smTo xs k m).length = xs.length
 | 0 => rfl
 | m + 1 => by rw [smTo, List.length_set, smTo_len xs k m]

theorem smTo_get {xs : List Sgn} {k j : Nat} : ∀ m, m ≤ xs.length → (smTo xs k m).getD j default = if j < m then smO k j else xs.getD j default
  | 0, _ => by rw [if_neg (by omega)]; rfl
  | m + 1, hm => by
    rw [smTo, getD_set, smTo_len]
    by_cases h : m = j
    · subst h
      rw [if_pos ⟨rfl, by omega⟩, if_pos (by omega)]
    · rw [if_neg (fun q => h q.1), smTo_get m (by omega)]
      by_cases h2 : j < m
      · rw [if_pos h2, if_pos (by omega)]
      · rw [if_neg h2, if_neg (by omega)]

def smk (k : Nat) (xs : List Sgn) : List Sgn := smTo xs k xs.length

theorem smk_len (k : Nat) (xs : List Sgn) : (smk k xs).length = xs.length := smTo_len _ _ _

def SHeld (xs : List Sgn) (k : Nat) : Prop := ∀ j, j < xs.length → (xs.getD j default).name = mtext (k + 2 * j) ∧ (xs.getD j default).kind = ((k + 2 * j + 1 : Nat) : Int)

theorem smk_held (k : Nat) (xs : List Sgn) : SHeld (smk k xs) k := fun j hj => by
 rw [smk_len] at hj
 have e : (smk k xs).getD j default = smO k j := by
  unfold smk
  rw [smTo_get _ (Nat.le_refl _), if_pos hj]
 rw [e]; exact ⟨rfl, rfl⟩

def tml (xs : List Tra) (m : Nat) : Nat := ((xs.take m).map fun r => r.pre.length + r.post.length).sum

theorem tml_succ {xs : List Tra} {m : Nat} (h : m < xs.length) : tml xs (m + 1) = tml xs m + (xs.getD m default).pre.length + (xs.getD m default).post.length := by
 have hg : xs.getD m default = xs[m] := by simp [h]
 unfold tml
 rw [List.take_succ_eq_append_getElem h, List.map_append, List.sum_append, hg]
 simp only [List.map_cons, List.map_nil, List.sum_cons, List.sum_nil]; omega

theorem tml_all {xs : List Tra} {m : Nat} (h : xs.length ≤ m) : tml xs m = tml xs xs.length := by
 unfold tml
 rw [List.take_of_length_le h, List.take_of_length_le (Nat.le_refl _)]

def TSm (xs : List Tra) : Prop := xs.length ≤ 24 ∧ ∀ r ∈ xs, r.pre.length ≤ 30 ∧ r.post.length ≤ 30

theorem tml_bd {xs : List Tra} (h : TSm xs) (m : Nat) : tml xs m ≤ 60 * m := by
  induction m with
  | zero => simp [tml]
  | succ m ih =>
    by_cases hm : m < xs.length
    · have := h.2 _ (getD_mem (l := xs) (j := m) (d := default) hm)
      rw [tml_succ hm]; omega
    · have e : tml xs (m + 1) = tml xs m := by unfold tml; rw [List.take_of_length_le (by omega), List.take_of_length_le (by omega)]
      rw [e]; omega

theorem tml_b {xs : List Tra} (h : TSm xs) : ∀ m, tml xs m ≤ 1440 := fun m => by
  by_cases hm : m ≤ xs.length
  · have := tml_bd h m; have := h.1; omega
  · rw [tml_all (by omega)]; have := tml_bd h xs.length; have := h.1; omega

def tmO (k : Nat) (r : Tra) : Tra := Tra.mk (imarks k r.pre.length) (imarks (k + r.pre.length) r.post.length)

def tmTo (xs : List Tra) (k : Nat) : Nat → List Tra
 | 0 => xs
 | m + 1 => (tmTo xs k m).set m (tmO (k + tml xs m) (xs.getD m default))

theorem tmTo_len (xs : List Tra) (k : Nat) : ∀ m, (tmTo xs k m).length = xs.length
 | 0 => rfl
 | m + 1 => by rw [tmTo, List.length_set, tmTo_len xs k m]

theorem tmTo_get {xs : List Tra} {k j : Nat} : ∀ m, m ≤ xs.length → (tmTo xs k m).getD j default = if j < m then tmO (k + tml xs j) (xs.getD j default) else xs.getD j default
  | 0, _ => by rw [if_neg (by omega)]; rfl
  | m + 1, hm => by
    rw [tmTo, getD_set, tmTo_len]
    by_cases h : m = j
    · subst h
      rw [if_pos ⟨rfl, by omega⟩, if_pos (by omega)]
    · rw [if_neg (fun q => h q.1), tmTo_get m (by omega)]
      by_cases h2 : j < m
      · rw [if_pos h2, if_pos (by omega)]
      · rw [if_neg h2, if_neg (by omega)]

theorem tmTo_at {xs : List Tra} {k m : Nat} (h : m ≤ xs.length) : (tmTo xs k m).getD m default = xs.getD m default := by rw [tmTo_get m h, if_neg (Nat.lt_irrefl m)]

def tmk (k : Nat) (xs : List Tra) : List Tra := tmTo xs k xs.length

theorem tmk_len (k : Nat) (xs : List Tra) : (tmk k xs).length = xs.length := tmTo_len _ _ _

theorem tmk_at {k : Nat} {xs : List Tra} {j : Nat} (h : j < xs.length) : (tmk k xs).getD j default = tmO (k + tml xs j) (xs.getD j default) := by
 unfold tmk
 rw [tmTo_get _ (Nat.le_refl _), if_pos h]

theorem tmk_tml (k : Nat) (xs : List Tra) : ∀ m, m ≤ xs.length → tml (tmk k xs) m = tml xs m := by
 intro m
 induction m with
 | zero => intro _; simp [tml]
 | succ m ih =>
  intro hm
  rw [tml_succ (by rw [tmk_len]; omega), tml_succ (by omega), ih (by omega), tmk_at (by omega)]
  simp [tmO, imarks_length]

def THeld (xs : List Tra) (k : Nat) : Prop := ∀ j, j < xs.length → iheldR (xs.getD j default).pre (k + tml xs j) = ((k + tml xs j + (xs.getD j default).pre.length : Nat) : Int) ∧ iheldR (xs.getD j default).post (k + tml xs j + (xs.getD j default).pre.length) = ((k + tml xs j + (xs.getD j default).pre.length + (xs.getD j default).post.length : Nat) : Int)

theorem tmk_held (k : Nat) (xs : List Tra) : THeld (tmk k xs) k := fun j hj => by
 rw [tmk_len] at hj
 rw [tmk_tml k xs j (by omega), tmk_at hj]
 simp only [tmO, imarks_length]
 exact ⟨iheld_marks _ _, iheld_marks _ _⟩

theorem tmk_sm {k : Nat} {xs : List Tra} (h : TSm xs) : TSm (tmk k xs) := by
 refine ⟨by rw [tmk_len]; exact h.1, fun r hr => ?_⟩
 obtain ⟨j, hj, rfl⟩ := getD_at hr
 rw [tmk_len] at hj
 have := h.2 _ (getD_mem (l := xs) (j := j) (d := default) hj)
 rw [tmk_at hj]
 simp only [tmO, imarks_length]; exact this

def lmO (k m : Nat) : Lab := Lab.mk ((k + 2 * m : Nat) : Int) (decide ((((k + 2 * m + 1) % 3 : Nat) : Int) = 0))

def lmTo (xs : List Lab) (k : Nat) : Nat → List Lab
 | 0 => xs
 | m + 1 => (lmTo xs k m).set m (lmO k m)

theorem lmTo_len (xs : List Lab) (k : Nat) : ∀ m, (lmTo xs k m).length = xs.length
 | 0 => rfl
 | m + 1 => by rw [lmTo, List.length_set, lmTo_len xs k m]

theorem lmTo_get {xs : List Lab} {k j : Nat} : ∀ m, m ≤ xs.length → (lmTo xs k m).getD j default = if j < m then lmO k j else xs.getD j default
  | 0, _ => by rw [if_neg (by omega)]; rfl
  | m + 1, hm => by
    rw [lmTo, getD_set, lmTo_len]
    by_cases h : m = j
    · subst h
      rw [if_pos ⟨rfl, by omega⟩, if_pos (by omega)]
    · rw [if_neg (fun q => h q.1), lmTo_get m (by omega)]
      by_cases h2 : j < m
      · rw [if_pos h2, if_pos (by omega)]
      · rw [if_neg h2, if_neg (by omega)]

def lmk (k : Nat) (xs : List Lab) : List Lab := lmTo xs k xs.length

theorem lmk_len (k : Nat) (xs : List Lab) : (lmk k xs).length = xs.length := lmTo_len _ _ _

def LHeld (xs : List Lab) (k : Nat) : Prop := ∀ j, j < xs.length → (xs.getD j default).sig = ((k + 2 * j : Nat) : Int) ∧ (xs.getD j default).up = decide ((((k + 2 * j + 1) % 3 : Nat) : Int) = 0)

theorem lmk_held (k : Nat) (xs : List Lab) : LHeld (lmk k xs) k := fun j hj => by
 rw [lmk_len] at hj
 have e : (lmk k xs).getD j default = lmO k j := by
  unfold lmk
  rw [lmTo_get _ (Nat.le_refl _), if_pos hj]
 rw [e]; exact ⟨rfl, rfl⟩

theorem tm_set {xs : List Tra} {k m : Nat} {l : List D} (hl : l = (tmTo xs k m).map Tra.u) {d : D} (hd : d = Tra.u (tmO (k + tml xs m) (xs.getD m default))) : l.set m d = (tmTo xs k (m + 1)).map Tra.u := by
 subst hl hd; rw [tmTo, List.map_set]

def xmk (k : Nat) (x : Stg) : Stg := ⟨x.places, tmk k x.trans, smk (k + tml x.trans x.trans.length) x.sigs, lmk (k + tml x.trans x.trans.length + 2 * x.sigs.length) x.labs, x.start⟩

def xml (x : Stg) : Nat := tml x.trans x.trans.length + 2 * x.sigs.length + 2 * x.labs.length

structure XSm (x : Stg) : Prop where
 t : TSm x.trans
 s : x.sigs.length ≤ 24
 l : x.labs.length ≤ 24

theorem sp_laws_eqLabel (x y : Lab) (hb : x.bulk ≤ 1048576) : Sp Tryz.prog 51 [(.agg [(.int .i64 x.sig), (.bool (x.up))]), (.agg [(.int .i64 y.sig), (.bool (y.up))])] [.any, .any] (.bool (decide (x = y))) := by
 refine Sp_intro (lend := true) Tryz.func51 rfl rfl rfl (fun _ => rfl) (fun c hc hX => ?_)
 refine Ts hc (Ch.s (.ptr 2000 0) (.box 2000 _ _ rfl (.aggD _)) (Ch.s (.ptr 3000 0) (.box 3000 _ _ rfl (.aggD _)) (Ch.s (dB false) pa (Ch.nil (Tq (Tq ?_))))))
 refine Tz hc (Ch.s (.ptr 2000 0) (fP fld67_0 rfl) (Ch.s (dI x.sig) (lP ag3 rfl rfl rfl) (Ch.s (.ptr 3000 0) (fP fld67_0 rfl) (Ch.s (dI y.sig) (lP ag3 rfl rfl rfl) (Ch.s (dB (!(decide (x.sig = y.sig)))) (iX rfl rfl rfl) (Ch.nil ?_))))))
 refine T_condN (b := (decide (x.sig = y.sig))) rfl (fun h1 => ?_) (fun h1 => ?_)
 ·
  replace h1 := odf h1
  refine Ts hc (Ch.s (dB false) pa (Ch.nil (T_ret ?_)))
  exact eR [(dB false)] [] [] (.cons (.tmp 4 rfl) .nil) eB (Exp.of (congrArg D.bool a93) (.d _))
 ·
  replace h1 := odt h1
  refine Tk (Tq (Ts hc (Ch.s (.ptr 2000 1) (fP fld67_1 rfl) (Ch.s (dB (x.up)) (lP ag4 rfl rfl rfl) (Ch.s (.ptr 3000 1) (fP fld67_1 rfl) (Ch.s (dB (y.up)) (lP ag4 rfl rfl rfl) ?_))))))
  refine Ch.s (dB (!(decide ((x.up) = (y.up))))) (.pure (.neB _ _ _ _ rfl Tryz.underlying4 rfl rfl)) (Ch.nil ?_)
  refine T_condN (b := (decide ((x.up) = (y.up)))) rfl (fun h2 => ?_) (fun h2 => ?_)
  ·
   replace h2 := odf h2
   refine Ts hc (Ch.s (dB false) pa (Ch.nil (T_ret ?_)))
   exact eR [(dB false)] [] [] (.cons (.tmp 4 rfl) .nil) eB (Exp.of (congrArg D.bool a93) (.d _))
  ·
   replace h2 := odt h2
   refine Tk (Ts hc (Ch.s (dB true) pa (Ch.nil (T_ret ?_))))
   exact eR [(dB true)] [] [] (.cons (.tmp 4 rfl) .nil) eB (Exp.of (congrArg D.bool a93) (.d _))

theorem sp_laws_eqLabelS (xs ys : List (Lab)) (hb : bulkF Lab.bulk xs ≤ 1048576) : Sp Tryz.prog 21 [(.slice false 2 (xs.map Lab.d)), (.slice false 2 (ys.map Lab.d))] [.any, .any] (.bool (decide (xs = ys))) := by
 refine Sp_intro (lend := true) Tryz.func21 rfl rfl rfl (fun _ => rfl) (fun c hc hX => ?_)
 have hn := bulkF_len hb
 refine Ts hc (Ch.s (dB false) pa (Ch.nil (Tq (Ts hc (Ch.s (.d (.slice false 2 (xs.map Lab.d))) pm ?_)))))
 refine Ch.s (dI (xs.length : Int)) (.pure (.len _ _ 67 rfl Tryz.underlying26 (.sh _ _) (by simp))) (Ch.s (.d (.slice false 2 (ys.map Lab.d))) pm (Ch.s (dI (ys.length : Int)) (.pure (.len _ _ 67 rfl Tryz.underlying26 (.sh _ _) (by simp))) (Ch.s (dB (!(decide ((xs.length : Int) = (ys.length : Int))))) (iX rfl rfl rfl) (Ch.nil ?_))))
 refine T_condN (b := (decide ((xs.length : Int) = (ys.length : Int)))) rfl (fun h1 => ?_) (fun h1 => ?_)
 ·
  replace h1 := odf h1
  refine Ts hc (Ch.s (dB false) pa (Ch.nil (T_ret ?_)))
  exact eR [(dB false)] [] [] (.cons (.tmp 4 rfl) .nil) eB (Exp.of (congrArg D.bool (by exact eqL_len (by omega))) (.d _))
 ·
  replace h1 := odt h1
  refine Tk (Tq (Ts hc (Ch.s (dI 0) pa (Ch.nil (Tb ?_)))))
  refine T_loop (ι := Nat) (fun k => { n := 27, sl := [(0, (.d (.slice false 2 (xs.map Lab.d)))), (1, (.d (.slice false 2 (ys.map Lab.d)))), (5, (dI (k : Int)))], hp := [], pin := [] }) (fun k => k ≤ xs.length ∧ ∀ j, j < k → xs.getD j default = ys.getD j default) (fun k => xs.length - k) ⟨0, ⟨by omega, fun j hj => by omega⟩, (Wk.of rfl rfl (ar (ar (ai (vI a87) trivial))) trivial)⟩ (fun k hp0 => ?_)
  refine Tq (Ts hc (Ch.s (dI (k : Int)) pm (Ch.s (.d (.slice false 2 (xs.map Lab.d))) pm (Ch.s (dI (xs.length : Int)) (.pure (.len _ _ 67 rfl Tryz.underlying26 (.sh _ _) (by simp))) (Ch.s (dB (decide ((k : Int) < (xs.length : Int)))) (iX rfl rfl rfl) (Ch.nil ?_))))))
  refine T_condD (p := ((k : Int) < (xs.length : Int))) rfl (fun h2 => ?_) (fun h2 => ?_)
  ·
   try have hk := bulkF_mem hb _ (getD_mem (l := xs) (j := k) (d := default) (by omega))
   refine Tk (Tq (Tb (Tq ?_)))
   refine T_regionD hc (by kernel_rfl) ?_
   refine ChD.s (.d (.slice false 2 (xs.map Lab.d))) [] pm (ChD.s (dI (k : Int)) [] pm (ChD.s (.d (.ref (.agg [(.int .i64 ((xs.getD k default).sig)), (.bool ((xs.getD k default).up))]))) [] (.pure (.idx _ _ _ 67 (k) rfl Tryz.underlying26 sz67 rfl rfl rfl get_mapA)) (ChD.s (.d (.agg [(.int .i64 ((xs.getD k default).sig)), (.bool ((xs.getD k default).up))])) [] (.pure (.loadRefA _ _ rfl ag67 sz67 rfl)) (ChD.s (.d (.slice false 2 (ys.map Lab.d))) [] pm (ChD.s (dI (k : Int)) [] pm (ChD.s (.d (.ref (.agg [(.int .i64 ((ys.getD k default).sig)), (.bool ((ys.getD k default).up))]))) [] (.pure (.idx _ _ _ 67 (k) rfl Tryz.underlying26 sz67 rfl rfl rfl get_mapA)) (ChD.s (.d (.agg [(.int .i64 ((ys.getD k default).sig)), (.bool ((ys.getD k default).up))])) [] (.pure (.loadRefA _ _ rfl ag67 sz67 rfl)) ?_)))))))
   refine ChD.s (dB (decide ((xs.getD k default) = (ys.getD k default)))) [] (.call 25000 51 _ _ _ en51 rfl (.inl rfl) (.cons (.d _) (.cons (.d _) .nil)) rfl rfl (sp_laws_eqLabel (xs.getD k default) (ys.getD k default) a23) (.skip _ _ (.skip _ _ .nil)) rfl) (ChD.s (dB (!(decide ((xs.getD k default) = (ys.getD k default))))) [] (nT rfl) ?_)
   refine ChD.nil (And.intro ?_ (by kernel_rfl))
   refine T_condN (b := (decide ((xs.getD k default) = (ys.getD k default)))) rfl (fun h3 => ?_) (fun h3 => ?_)
   ·
    replace h3 := odf h3
    refine Ts hc (Ch.s (dB false) pa (Ch.nil (T_ret ?_)))
    exact eR [(dB false)] [] [] (.cons (.tmp 4 rfl) .nil) eB (Exp.of (congrArg D.bool a92) (.d _))
   ·
    replace h3 := odt h3
    refine Tk (Tz hc (Ch.s (dI (k : Int)) pm (Ch.s (dI ((k : Int) + 1)) (iX rfl rfl intV_addA) (Ch.s (dI ((k : Int) + 1)) pa (Ch.nil ?_)))))
    exact nx (k + 1) ⟨by omega, upto_succ hp0.2 (by assumption)⟩ (Wk.of rfl rfl (ar (ar (ai (vI a87) trivial))) trivial)
  ·
   try have hk := bulkF_mem hb _ (getD_mem (l := xs) (j := k) (d := default) (by omega))
   refine T_exit (Ts hc (Ch.s (dB true) pa (Ch.nil (T_ret ?_))))
   exact eR [(dB true)] [] [] (.cons (.tmp 4 rfl) .nil) eB (Exp.of (congrArg D.bool a74) (.d _))

theorem sp_laws_eqTransition (x y : Tra) (hb : x.bulk ≤ 1048576) : Sp Tryz.prog 75 [(.agg [(.slice false 1 (x.pre.map (fun n : Int => D.int .i64 n))), (.slice false 1 (x.post.map (fun n : Int => D.int .i64 n)))]), (.agg [(.slice false 1 (y.pre.map (fun n : Int => D.int .i64 n))), (.slice false 1 (y.post.map (fun n : Int => D.int .i64 n)))])] [.any, .any] (.bool (decide (x = y))) := by
 refine Sp_intro (lend := true) Tryz.func75 rfl rfl rfl (fun _ => rfl) (fun c hc hX => ?_)
 obtain ⟨hp0, hp1⟩ := Tra.parts hb
 have hn0 := bulkF_len hp0
 have hn1 := bulkF_len hp1
 refine Ts hc (Ch.s (.ptr 2000 0) (.box 2000 _ _ rfl (.aggD _)) (Ch.s (.ptr 3000 0) (.box 3000 _ _ rfl (.aggD _)) (Ch.s (dB false) pa (Ch.nil (Tq (Tq ?_))))))
 refine Tz hc (Ch.s (.ptr 2000 0) (fP fld64_0 rfl) (Ch.s (.d (.slice false 1 (x.pre.map (fun n : Int => D.int .i64 n)))) (lP ag62 rfl rfl rfl) (Ch.s (.ptr 3000 0) (fP fld64_0 rfl) (Ch.s (.d (.slice false 1 (y.pre.map (fun n : Int => D.int .i64 n)))) (lP ag62 rfl rfl rfl) (Ch.s (dB (decide (x.pre = y.pre))) (.call 9000 92 _ _ _ en92 rfl (.inl rfl) (.cons (.d _) (.cons (.d _) .nil)) rfl rfl (sp_laws_eqIntS x.pre y.pre a7) (.skip _ _ (.skip _ _ .nil)) rfl) (Ch.s (dB (!(decide (x.pre = y.pre)))) (nT rfl) (Ch.nil ?_)))))))
 refine T_condN (b := (decide (x.pre = y.pre))) rfl (fun h1 => ?_) (fun h1 => ?_)
 ·
  replace h1 := odf h1
  refine Ts hc (Ch.s (dB false) pa (Ch.nil (T_ret ?_)))
  exact eR [(dB false)] [] [] (.cons (.tmp 4 rfl) .nil) eB (Exp.of (congrArg D.bool a93) (.d _))
 ·
  replace h1 := odt h1
  refine Tk (Tq (Ts hc (Ch.s (.ptr 2000 1) (fP fld64_1 rfl) (Ch.s (.d (.slice false 1 (x.post.map (fun n : Int => D.int .i64 n)))) (lP ag62 rfl rfl rfl) (Ch.s (.ptr 3000 1) (fP fld64_1 rfl) (Ch.s (.d (.slice false 1 (y.post.map (fun n : Int => D.int .i64 n)))) (lP ag62 rfl rfl rfl) ?_))))))
  refine Ch.s (dB (decide (x.post = y.post))) (.call 15000 92 _ _ _ en92 rfl (.inl rfl) (.cons (.d _) (.cons (.d _) .nil)) rfl rfl (sp_laws_eqIntS x.post y.post a7) (.skip _ _ (.skip _ _ .nil)) rfl) (Ch.s (dB (!(decide (x.post = y.post)))) (nT rfl) (Ch.nil ?_))
  refine T_condN (b := (decide (x.post = y.post))) rfl (fun h2 => ?_) (fun h2 => ?_)
  ·
   replace h2 := odf h2
   refine Ts hc (Ch.s (dB false) pa (Ch.nil (T_ret ?_)))
   exact eR [(dB false)] [] [] (.cons (.tmp 4 rfl) .nil) eB (Exp.of (congrArg D.bool a93) (.d _))
  ·
   replace h2 := odt h2
   refine Tk (Ts hc (Ch.s (dB true) pa (Ch.nil (T_ret ?_))))
   exact eR [(dB true)] [] [] (.cons (.tmp 4 rfl) .nil) eB (Exp.of (congrArg D.bool a93) (.d _))

theorem sp_laws_eqTransitionS (xs ys : List (Tra)) (hb : bulkF Tra.bulk xs ≤ 1048576) : Sp Tryz.prog 49 [(.slice false 2 (xs.map Tra.d)), (.slice false 2 (ys.map Tra.d))] [.any, .any] (.bool (decide (xs = ys))) := by
 refine Sp_intro (lend := true) Tryz.func49 rfl rfl rfl (fun _ => rfl) (fun c hc hX => ?_)
 have hn := bulkF_len hb
 refine Ts hc (Ch.s (dB false) pa (Ch.nil (Tq (Ts hc (Ch.s (.d (.slice false 2 (xs.map Tra.d))) pm ?_)))))
 refine Ch.s (dI (xs.length : Int)) (.pure (.len _ _ 64 rfl Tryz.underlying22 (.sh _ _) (by simp))) (Ch.s (.d (.slice false 2 (ys.map Tra.d))) pm (Ch.s (dI (ys.length : Int)) (.pure (.len _ _ 64 rfl Tryz.underlying22 (.sh _ _) (by simp))) (Ch.s (dB (!(decide ((xs.length : Int) = (ys.length : Int))))) (iX rfl rfl rfl) (Ch.nil ?_))))
 refine T_condN (b := (decide ((xs.length : Int) = (ys.length : Int)))) rfl (fun h1 => ?_) (fun h1 => ?_)
 ·
  replace h1 := odf h1
  refine Ts hc (Ch.s (dB false) pa (Ch.nil (T_ret ?_)))
  exact eR [(dB false)] [] [] (.cons (.tmp 4 rfl) .nil) eB (Exp.of (congrArg D.bool (by exact eqL_len (by omega))) (.d _))
 ·
  replace h1 := odt h1
  refine Tk (Tq (Ts hc (Ch.s (dI 0) pa (Ch.nil (Tb ?_)))))
  refine T_loop (ι := Nat) (fun k => { n := 27, sl := [(0, (.d (.slice false 2 (xs.map Tra.d)))), (1, (.d (.slice false 2 (ys.map Tra.d)))), (5, (dI (k : Int)))], hp := [], pin := [] }) (fun k => k ≤ xs.length ∧ ∀ j, j < k → xs.getD j default = ys.getD j default) (fun k => xs.length - k) ⟨0, ⟨by omega, fun j hj => by omega⟩, (Wk.of rfl rfl (ar (ar (ai (vI a87) trivial))) trivial)⟩ (fun k hp0 => ?_)
  refine Tq (Ts hc (Ch.s (dI (k : Int)) pm (Ch.s (.d (.slice false 2 (xs.map Tra.d))) pm (Ch.s (dI (xs.length : Int)) (.pure (.len _ _ 64 rfl Tryz.underlying22 (.sh _ _) (by simp))) (Ch.s (dB (decide ((k : Int) < (xs.length : Int)))) (iX rfl rfl rfl) (Ch.nil ?_))))))
  refine T_condD (p := ((k : Int) < (xs.length : Int))) rfl (fun h2 => ?_) (fun h2 => ?_)
  ·
   try have hk := bulkF_mem hb _ (getD_mem (l := xs) (j := k) (d := default) (by omega))
   refine Tk (Tq (Tb (Tq ?_)))
   refine T_regionD hc (by kernel_rfl) ?_
   refine ChD.s (.d (.slice false 2 (xs.map Tra.d))) [] pm (ChD.s (dI (k : Int)) [] pm (ChD.s (.d (.ref (.agg [(.slice false 1 (((xs.getD k default).pre).map (fun n : Int => D.int .i64 n))), (.slice false 1 (((xs.getD k default).post).map (fun n : Int => D.int .i64 n)))]))) [] (.pure (.idx _ _ _ 64 (k) rfl Tryz.underlying22 sz64 rfl rfl rfl get_mapA)) (ChD.s (.d (.agg [(.slice false 1 (((xs.getD k default).pre).map (fun n : Int => D.int .i64 n))), (.slice false 1 (((xs.getD k default).post).map (fun n : Int => D.int .i64 n)))])) [] (.pure (.loadRefA _ _ rfl ag64 sz64 rfl)) (ChD.s (.d (.slice false 2 (ys.map Tra.d))) [] pm (ChD.s (dI (k : Int)) [] pm (ChD.s (.d (.ref (.agg [(.slice false 1 (((ys.getD k default).pre).map (fun n : Int => D.int .i64 n))), (.slice false 1 (((ys.getD k default).post).map (fun n : Int => D.int .i64 n)))]))) [] (.pure (.idx _ _ _ 64 (k) rfl Tryz.underlying22 sz64 rfl rfl rfl get_mapA)) (ChD.s (.d (.agg [(.slice false 1 (((ys.getD k default).pre).map (fun n : Int => D.int .i64 n))), (.slice false 1 (((ys.getD k default).post).map (fun n : Int => D.int .i64 n)))])) [] (.pure (.loadRefA _ _ rfl ag64 sz64 rfl)) ?_)))))))
   refine ChD.s (dB (decide ((xs.getD k default) = (ys.getD k default)))) [] (.call 25000 75 _ _ _ en75 rfl (.inl rfl) (.cons (.d _) (.cons (.d _) .nil)) rfl rfl (sp_laws_eqTransition (xs.getD k default) (ys.getD k default) a23) (.skip _ _ (.skip _ _ .nil)) rfl) (ChD.s (dB (!(decide ((xs.getD k default) = (ys.getD k default))))) [] (nT rfl) ?_)
   refine ChD.nil (And.intro ?_ (by kernel_rfl))
   refine T_condN (b := (decide ((xs.getD k default) = (ys.getD k default)))) rfl (fun h3 => ?_) (fun h3 => ?_)
   ·
    replace h3 := odf h3
    refine Ts hc (Ch.s (dB false) pa (Ch.nil (T_ret ?_)))
    exact eR [(dB false)] [] [] (.cons (.tmp 4 rfl) .nil) eB (Exp.of (congrArg D.bool a92) (.d _))
   ·
    replace h3 := odt h3
    refine Tk (Tz hc (Ch.s (dI (k : Int)) pm (Ch.s (dI ((k : Int) + 1)) (iX rfl rfl intV_addA) (Ch.s (dI ((k : Int) + 1)) pa (Ch.nil ?_)))))
    exact nx (k + 1) ⟨by omega, upto_succ hp0.2 (by assumption)⟩ (Wk.of rfl rfl (ar (ar (ai (vI a87) trivial))) trivial)
  ·
   try have hk := bulkF_mem hb _ (getD_mem (l := xs) (j := k) (d := default) (by omega))
   refine T_exit (Ts hc (Ch.s (dB true) pa (Ch.nil (T_ret ?_))))
   exact eR [(dB true)] [] [] (.cons (.tmp 4 rfl) .nil) eB (Exp.of (congrArg D.bool a74) (.d _))

theorem sp_markSg (xs : List Sgn) (k : Nat) (hn : xs.length ≤ 24) (hk : k ≤ 100000) : Sp Tryz.prog 23 [(.slice true 2 (xs.map Sgn.d)), (.int .i64 (k : Int))] [(.slice true 2 ((smk k xs).map Sgn.d)), .any] (.int .i64 ((k + 2 * xs.length : Nat) : Int)) := by
 refine Sp_intro (lend := false) Tryz.func23 rfl rfl rfl (fun h => nomatch h) (fun c hc hX => ?_)
 refine Ts hc (Ch.s (dI 0) pa (Ch.nil (Tq (Ts hc (Ch.s (dI 0) pa ?_)))))
 refine Ch.nil (Tb ?_)
 refine T_loop (ι := Nat) (fun m => { n := 28, sl := [(0, (.row 1)), (1, (dI ((k + 2 * m : Nat) : Int))), (5, (dI (m : Int)))], hp := [(1, (some (.row 2 ((smTo xs k m).map Sgn.d))))], pin := [1] }) (fun m => m ≤ xs.length) (fun m => xs.length - m) ⟨0, (by omega), (Wk.of rfl rfl (ar (ai (vI a87) (ai (vI a87) trivial))) (ai (oR a80) trivial))⟩ (fun m hp0 => ?_)
 have hml := smTo_len xs k m
 refine Tq (Ts hc (Ch.s (dI (m : Int)) pm (Ch.s (.row 1) pm (Ch.s (dI ((smTo xs k m).length : Int)) (.pure (.len _ _ 77 rfl Tryz.underlying25 (.row rfl) (by simp))) (Ch.s (dB (decide ((m : Int) < ((smTo xs k m).length : Int)))) (iX rfl rfl rfl) (Ch.nil ?_))))))
 refine T_condD (p := ((m : Int) < ((smTo xs k m).length : Int))) rfl (fun h1 => ?_) (fun h1 => ?_)
 ·
  refine Tk (Tq (Tb (Ts hc (Ch.s (.row 1) pm (Ch.s (dI (m : Int)) pm (Ch.s (dI ((k + 2 * m : Nat) : Int)) pm ?_))))))
  refine Ch.s (dS (mtext (k + 2 * m))) (.call 15000 53 _ _ _ en53 rfl (.inl rfl) (.cons (.d _) .nil) rfl rfl (sp_laws_markText (k + 2 * m) a7) (.skip _ _ .nil) rfl) (Ch.s (.el 1 2 m 0) (.pure (.idxRow _ _ _ 77 (m) rfl Tryz.underlying25 sz77 rfl rfl rfl rfl a52)) (Ch.s (.el 1 2 m 0) (.pure (.fldEl _ _ _ rfl fld77_0 rfl)) (Ch.s .junk (.storeEl (y' := (.agg [(.str (mtext (k + 2 * m))), (.int .i64 (((smTo xs k m).getD m default).kind))])) _ _ _ rfl rfl rfl (.d _) rfl sz9 rfl get_mapA rfl rfl) (Ch.nil (Ts hc (Ch.s (dI ((k + 2 * m : Nat) : Int)) pm ?_))))))
  refine Ch.s (dI (((k + 2 * m : Nat) : Int) + 1)) (iX rfl rfl intV_addA) (Ch.s (dI (((k + 2 * m : Nat) : Int) + 1)) pa (Ch.nil (Ts hc (Ch.s (.row 1) pm (Ch.s (dI (m : Int)) pm (Ch.s (dI (((k + 2 * m : Nat) : Int) + 1)) pm ?_))))))
  refine Ch.s (.el 1 2 m 0) (.pure (.idxRow _ _ _ 77 (m) rfl Tryz.underlying25 sz77 rfl rfl rfl rfl a52)) (Ch.s (.el 1 2 m 1) (.pure (.fldEl _ _ _ rfl fld77_1 rfl)) (Ch.s .junk (.storeEl (y' := (.agg [(.str (mtext (k + 2 * m))), (.int .i64 (((k + 2 * m : Nat) : Int) + 1))])) _ _ _ rfl rfl rfl (.d _) rfl sz3 rfl (get_set a52) rfl rfl) (Ch.nil (Tz hc (Ch.s (dI (((k + 2 * m : Nat) : Int) + 1)) pm (Ch.s (dI ((((k + 2 * m : Nat) : Int) + 1) + 1)) (iX rfl rfl intV_addA) (Ch.s (dI ((((k + 2 * m : Nat) : Int) + 1) + 1)) pa ?_)))))))
  refine Ch.nil (Tz hc (Ch.s (dI (m : Int)) pm (Ch.s (dI ((m : Int) + 1)) (iX rfl rfl intV_addA) (Ch.s (dI ((m : Int) + 1)) pa (Ch.nil ?_)))))
  exact nx (m + 1) (by omega) (Wk.of rfl rfl (ar (ai (vI a87) (ai (vI a87) trivial))) (ai (oR a80) trivial))
 ·
  refine T_exit (Ts hc (Ch.s (dI ((k + 2 * m : Nat) : Int)) pm (Ch.s (dI ((k + 2 * m : Nat) : Int)) pa (Ch.nil (T_ret ?_)))))
  exact eR [(dI ((k + 2 * m : Nat) : Int))] [1] [] (.cons (.tmp 4 rfl) .nil) (.cons (Exp.of (congrArg (D.slice true 2) (by rw [smk, show xs.length = m by omega])) (.row rfl)) eA) (Exp.of (congrArg (D.int .i64) (by omega)) (.d _))

theorem sp_heldSg (xs : List Sgn) (k : Nat) (hn : xs.length ≤ 24) (hk : k ≤ 100000) (hq : SHeld xs k) : Sp Tryz.prog 26 [(.slice false 2 (xs.map Sgn.d)), (.int .i64 (k : Int))] [.any, .any] (.int .i64 ((k + 2 * xs.length : Nat) : Int)) := by
 refine Sp_intro (lend := true) Tryz.func26 rfl rfl rfl (fun _ => rfl) (fun c hc hX => ?_)
 refine Ts hc (Ch.s (dI 0) pa (Ch.nil (Tq (Ts hc (Ch.s (dI 0) pa ?_)))))
 refine Ch.nil (Tb ?_)
 refine T_loop (ι := Nat) (fun m => { n := 32, sl := [(0, (.d (.slice false 2 (xs.map Sgn.d)))), (1, (dI ((k + 2 * m : Nat) : Int))), (5, (dI (m : Int)))], hp := [], pin := [] }) (fun m => m ≤ xs.length) (fun m => xs.length - m) ⟨0, (by omega), (Wk.of rfl rfl (ar (ai (vI a87) (ai (vI a87) trivial))) trivial)⟩ (fun m hp0 => ?_)
 refine Tq (Ts hc (Ch.s (dI (m : Int)) pm (Ch.s (.d (.slice false 2 (xs.map Sgn.d))) pm (Ch.s (dI (xs.length : Int)) (.pure (.len _ _ 77 rfl Tryz.underlying25 (.sh _ _) (by simp))) (Ch.s (dB (decide ((m : Int) < (xs.length : Int)))) (iX rfl rfl rfl) (Ch.nil ?_))))))
 refine T_condD (p := ((m : Int) < (xs.length : Int))) rfl (fun h1 => ?_) (fun h1 => ?_)
 ·
  try have hq1 := (hq m (by omega)).1
  try have hq2 := (hq m (by omega)).2
  refine Tk (Tq (Tb (Tq (Tq ?_))))
  refine T_regionD hc (by kernel_rfl) ?_
  refine ChD.s (.d (.slice false 2 (xs.map Sgn.d))) [] pm (ChD.s (dI (m : Int)) [] pm (ChD.s (.d (.ref (.agg [(.str ((xs.getD m default).name)), (.int .i64 ((xs.getD m default).kind))]))) [] (.pure (.idx _ _ _ 77 (m) rfl Tryz.underlying25 sz77 rfl rfl rfl get_mapA)) (ChD.s (.d (.ref (.str ((xs.getD m default).name)))) [] (.pure (.fldRef _ _ _ rfl fld77_0 rfl rfl rfl)) (ChD.s (dS ((xs.getD m default).name)) [] (rF ag9 rfl rfl) (ChD.s (dI ((k + 2 * m : Nat) : Int)) [] pm (ChD.s (dS (mtext (k + 2 * m))) [] (.call 18000 53 _ _ _ en53 rfl (.inl rfl) (.cons (.d _) .nil) rfl rfl (sp_laws_markText (k + 2 * m) a7) (.skip _ _ .nil) rfl) (ChD.s (dB (!(decide (((xs.getD m default).name) = (mtext (k + 2 * m)))))) [] (.pure (.str _ _ _ _ _ rfl rfl rfl rfl)) ?_)))))))
  refine ChD.nil (And.intro ?_ (by kernel_rfl))
  refine T_condN (b := (decide (((xs.getD m default).name) = (mtext (k + 2 * m))))) rfl (fun h2 => ?_) (fun h2 => ?_)
  ·
   replace h2 := odf h2
   refine Ts hc (Ch.s (dI (-1)) pa (Ch.nil (T_ret ?_)))
   exact eR [(dI (-1))] [] [] (.cons (.tmp 4 rfl) .nil) eB (Exp.of (congrArg (D.int .i64) a63) (.d _))
  ·
   replace h2 := odt h2
   refine Tk (Ts hc (Ch.s (dI ((k + 2 * m : Nat) : Int)) pm (Ch.s (dI (((k + 2 * m : Nat) : Int) + 1)) (iX rfl rfl intV_addA) (Ch.s (dI (((k + 2 * m : Nat) : Int) + 1)) pa (Ch.nil (Tq ?_))))))
   refine Ts hc (Ch.s (.d (.slice false 2 (xs.map Sgn.d))) pm (Ch.s (dI (m : Int)) pm (Ch.s (.d (.ref (.agg [(.str ((xs.getD m default).name)), (.int .i64 ((xs.getD m default).kind))]))) (.pure (.idx _ _ _ 77 (m) rfl Tryz.underlying25 sz77 rfl rfl rfl get_mapA)) (Ch.s (.d (.ref (.int .i64 ((xs.getD m default).kind)))) (.pure (.fldRef _ _ _ rfl fld77_1 rfl rfl rfl)) (Ch.s (dI ((xs.getD m default).kind)) (rF ag3 rfl rfl) (Ch.s (dI (((k + 2 * m : Nat) : Int) + 1)) pm ?_))))))
   refine Ch.s (dB (!(decide (((xs.getD m default).kind) = (((k + 2 * m : Nat) : Int) + 1))))) (iX rfl rfl rfl) (Ch.nil ?_)
   refine T_condN (b := (decide (((xs.getD m default).kind) = (((k + 2 * m : Nat) : Int) + 1)))) rfl (fun h3 => ?_) (fun h3 => ?_)
   ·
    replace h3 := odf h3
    refine Ts hc (Ch.s (dI (-1)) pa (Ch.nil (T_ret ?_)))
    exact eR [(dI (-1))] [] [] (.cons (.tmp 4 rfl) .nil) eB (Exp.of (congrArg (D.int .i64) a63) (.d _))
   ·
    replace h3 := odt h3
    refine Tk (Tz hc (Ch.s (dI (((k + 2 * m : Nat) : Int) + 1)) pm (Ch.s (dI ((((k + 2 * m : Nat) : Int) + 1) + 1)) (iX rfl rfl intV_addA) (Ch.s (dI ((((k + 2 * m : Nat) : Int) + 1) + 1)) pa (Ch.nil (Tz hc (Ch.s (dI (m : Int)) pm ?_)))))))
    refine Ch.s (dI ((m : Int) + 1)) (iX rfl rfl intV_addA) (Ch.s (dI ((m : Int) + 1)) pa (Ch.nil ?_))
    exact nx (m + 1) (by omega) (Wk.of rfl rfl (ar (ai (vI a87) (ai (vI a87) trivial))) trivial)
 ·
  try have hq1 := (hq m (by omega)).1
  try have hq2 := (hq m (by omega)).2
  refine T_exit (Ts hc (Ch.s (dI ((k + 2 * m : Nat) : Int)) pm (Ch.s (dI ((k + 2 * m : Nat) : Int)) pa (Ch.nil (T_ret ?_)))))
  exact eR [(dI ((k + 2 * m : Nat) : Int))] [] [] (.cons (.tmp 4 rfl) .nil) eB (Exp.of (congrArg (D.int .i64) a63) (.d _))

theorem sp_markLb (xs : List Lab) (k : Nat) (hn : xs.length ≤ 24) (hk : k ≤ 100000) : Sp Tryz.prog 24 [(.slice true 2 (xs.map Lab.d)), (.int .i64 (k : Int))] [(.slice true 2 ((lmk k xs).map Lab.d)), .any] (.int .i64 ((k + 2 * xs.length : Nat) : Int)) := by
 refine Sp_intro (lend := false) Tryz.func24 rfl rfl rfl (fun h => nomatch h) (fun c hc hX => ?_)
 refine Ts hc (Ch.s (dI 0) pa (Ch.nil (Tq (Ts hc (Ch.s (dI 0) pa ?_)))))
 refine Ch.nil (Tb ?_)
 refine T_loop (ι := Nat) (fun m => { n := 29, sl := [(0, (.row 1)), (1, (dI ((k + 2 * m : Nat) : Int))), (5, (dI (m : Int)))], hp := [(1, (some (.row 2 ((lmTo xs k m).map Lab.d))))], pin := [1] }) (fun m => m ≤ xs.length) (fun m => xs.length - m) ⟨0, (by omega), (Wk.of rfl rfl (ar (ai (vI a87) (ai (vI a87) trivial))) (ai (oR a81) trivial))⟩ (fun m hp0 => ?_)
 have hml := lmTo_len xs k m
 refine Tq (Ts hc (Ch.s (dI (m : Int)) pm (Ch.s (.row 1) pm (Ch.s (dI ((lmTo xs k m).length : Int)) (.pure (.len _ _ 67 rfl Tryz.underlying26 (.row rfl) (by simp))) (Ch.s (dB (decide ((m : Int) < ((lmTo xs k m).length : Int)))) (iX rfl rfl rfl) (Ch.nil ?_))))))
 refine T_condD (p := ((m : Int) < ((lmTo xs k m).length : Int))) rfl (fun h1 => ?_) (fun h1 => ?_)
 ·
  refine Tk (Tq (Tb (Ts hc (Ch.s (.row 1) pm (Ch.s (dI (m : Int)) pm (Ch.s (dI ((k + 2 * m : Nat) : Int)) pm ?_))))))
  refine Ch.s (.el 1 2 m 0) (.pure (.idxRow _ _ _ 67 (m) rfl Tryz.underlying26 sz67 rfl rfl rfl rfl a52)) (Ch.s (.el 1 2 m 0) (.pure (.fldEl _ _ _ rfl fld67_0 rfl)) (Ch.s .junk (.storeEl (y' := (.agg [(.int .i64 ((k + 2 * m : Nat) : Int)), (.bool (((lmTo xs k m).getD m default).up))])) _ _ _ rfl rfl rfl (.d _) rfl sz3 rfl get_mapA rfl rfl) (Ch.nil (Ts hc (Ch.s (dI ((k + 2 * m : Nat) : Int)) pm (Ch.s (dI (((k + 2 * m : Nat) : Int) + 1)) (iX rfl rfl intV_addA) ?_))))))
  refine Ch.s (dI (((k + 2 * m : Nat) : Int) + 1)) pa (Ch.nil (Ts hc (Ch.s (.row 1) pm (Ch.s (dI (m : Int)) pm (Ch.s (dI (((k + 2 * m : Nat) : Int) + 1)) pm ?_)))))
  refine Ch.step (v := (dI (((k + 2 * m + 1) % 3 : Nat) : Int))) rfl (iX rfl rfl (remN (n := (k + 2 * m + 1)) (d := 3) (by omega) rfl (by decide))) rfl rfl ?_
  refine Ch.s (dB (decide ((((k + 2 * m + 1) % 3 : Nat) : Int) = 0))) (iX rfl rfl rfl) (Ch.s (.el 1 2 m 0) (.pure (.idxRow _ _ _ 67 (m) rfl Tryz.underlying26 sz67 rfl rfl rfl rfl a52)) (Ch.s (.el 1 2 m 1) (.pure (.fldEl _ _ _ rfl fld67_1 rfl)) (Ch.s .junk (.storeEl (y' := (.agg [(.int .i64 ((k + 2 * m : Nat) : Int)), (.bool (decide ((((k + 2 * m + 1) % 3 : Nat) : Int) = 0)))])) _ _ _ rfl rfl rfl (.d _) rfl sz4 rfl (get_set a52) rfl rfl) (Ch.nil (Tz hc (Ch.s (dI (((k + 2 * m : Nat) : Int) + 1)) pm (Ch.s (dI ((((k + 2 * m : Nat) : Int) + 1) + 1)) (iX rfl rfl intV_addA) ?_)))))))
  refine Ch.s (dI ((((k + 2 * m : Nat) : Int) + 1) + 1)) pa (Ch.nil (Tz hc (Ch.s (dI (m : Int)) pm (Ch.s (dI ((m : Int) + 1)) (iX rfl rfl intV_addA) (Ch.s (dI ((m : Int) + 1)) pa (Ch.nil ?_))))))
  exact nx (m + 1) (by omega) (Wk.of rfl rfl (ar (ai (vI a87) (ai (vI a87) trivial))) (ai (oR a81) trivial))
 ·
  refine T_exit (Ts hc (Ch.s (dI ((k + 2 * m : Nat) : Int)) pm (Ch.s (dI ((k + 2 * m : Nat) : Int)) pa (Ch.nil (T_ret ?_)))))
  exact eR [(dI ((k + 2 * m : Nat) : Int))] [1] [] (.cons (.tmp 4 rfl) .nil) (.cons (Exp.of (congrArg (D.slice true 2) (by rw [lmk, show xs.length = m by omega])) (.row rfl)) eA) (Exp.of (congrArg (D.int .i64) (by omega)) (.d _))

theorem sp_heldLb (xs : List Lab) (k : Nat) (hn : xs.length ≤ 24) (hk : k ≤ 100000) (hq : LHeld xs k) : Sp Tryz.prog 27 [(.slice false 2 (xs.map Lab.d)), (.int .i64 (k : Int))] [.any, .any] (.int .i64 ((k + 2 * xs.length : Nat) : Int)) := by
 refine Sp_intro (lend := true) Tryz.func27 rfl rfl rfl (fun _ => rfl) (fun c hc hX => ?_)
 refine Ts hc (Ch.s (dI 0) pa (Ch.nil (Tq (Ts hc (Ch.s (dI 0) pa ?_)))))
 refine Ch.nil (Tb ?_)
 refine T_loop (ι := Nat) (fun m => { n := 33, sl := [(0, (.d (.slice false 2 (xs.map Lab.d)))), (1, (dI ((k + 2 * m : Nat) : Int))), (5, (dI (m : Int)))], hp := [], pin := [] }) (fun m => m ≤ xs.length) (fun m => xs.length - m) ⟨0, (by omega), (Wk.of rfl rfl (ar (ai (vI a87) (ai (vI a87) trivial))) trivial)⟩ (fun m hp0 => ?_)
 refine Tq (Ts hc (Ch.s (dI (m : Int)) pm (Ch.s (.d (.slice false 2 (xs.map Lab.d))) pm (Ch.s (dI (xs.length : Int)) (.pure (.len _ _ 67 rfl Tryz.underlying26 (.sh _ _) (by simp))) (Ch.s (dB (decide ((m : Int) < (xs.length : Int)))) (iX rfl rfl rfl) (Ch.nil ?_))))))
 refine T_condD (p := ((m : Int) < (xs.length : Int))) rfl (fun h1 => ?_) (fun h1 => ?_)
 ·
  try have hq1 := (hq m (by omega)).1
  try have hq2 := (hq m (by omega)).2
  refine Tk (Tq (Tb (Tq (Ts hc (Ch.s (.d (.slice false 2 (xs.map Lab.d))) pm (Ch.s (dI (m : Int)) pm ?_))))))
  refine Ch.s (.d (.ref (.agg [(.int .i64 ((xs.getD m default).sig)), (.bool ((xs.getD m default).up))]))) (.pure (.idx _ _ _ 67 (m) rfl Tryz.underlying26 sz67 rfl rfl rfl get_mapA)) (Ch.s (.d (.ref (.int .i64 ((xs.getD m default).sig)))) (.pure (.fldRef _ _ _ rfl fld67_0 rfl rfl rfl)) (Ch.s (dI ((xs.getD m default).sig)) (rF ag3 rfl rfl) (Ch.s (dI ((k + 2 * m : Nat) : Int)) pm (Ch.s (dB (!(decide (((xs.getD m default).sig) = ((k + 2 * m : Nat) : Int))))) (iX rfl rfl rfl) (Ch.nil ?_)))))
  refine T_condN (b := (decide (((xs.getD m default).sig) = ((k + 2 * m : Nat) : Int)))) rfl (fun h2 => ?_) (fun h2 => ?_)
  ·
   replace h2 := odf h2
   refine Ts hc (Ch.s (dI (-1)) pa (Ch.nil (T_ret ?_)))
   exact eR [(dI (-1))] [] [] (.cons (.tmp 4 rfl) .nil) eB (Exp.of (congrArg (D.int .i64) a63) (.d _))
  ·
   replace h2 := odt h2
   refine Tk (Ts hc (Ch.s (dI ((k + 2 * m : Nat) : Int)) pm (Ch.s (dI (((k + 2 * m : Nat) : Int) + 1)) (iX rfl rfl intV_addA) (Ch.s (dI (((k + 2 * m : Nat) : Int) + 1)) pa (Ch.nil (Tq ?_))))))
   refine Ts hc (Ch.s (.d (.slice false 2 (xs.map Lab.d))) pm (Ch.s (dI (m : Int)) pm (Ch.s (.d (.ref (.agg [(.int .i64 ((xs.getD m default).sig)), (.bool ((xs.getD m default).up))]))) (.pure (.idx _ _ _ 67 (m) rfl Tryz.underlying26 sz67 rfl rfl rfl get_mapA)) (Ch.s (.d (.ref (.bool ((xs.getD m default).up)))) (.pure (.fldRef _ _ _ rfl fld67_1 rfl rfl rfl)) (Ch.s (dB ((xs.getD m default).up)) (rF ag4 rfl rfl) (Ch.s (dI (((k + 2 * m : Nat) : Int) + 1)) pm ?_))))))
   refine Ch.step (v := (dI (((k + 2 * m + 1) % 3 : Nat) : Int))) rfl (iX rfl rfl (remN (n := (k + 2 * m + 1)) (d := 3) (by omega) rfl (by decide))) rfl rfl ?_
   refine Ch.s (dB (decide ((((k + 2 * m + 1) % 3 : Nat) : Int) = 0))) (iX rfl rfl rfl) (Ch.s (dB (!(decide (((xs.getD m default).up) = (decide ((((k + 2 * m + 1) % 3 : Nat) : Int) = 0)))))) (.pure (.neB _ _ _ _ rfl Tryz.underlying4 rfl rfl)) (Ch.nil ?_))
   refine T_condN (b := (decide (((xs.getD m default).up) = (decide ((((k + 2 * m + 1) % 3 : Nat) : Int) = 0))))) rfl (fun h3 => ?_) (fun h3 => ?_)
   ·
    replace h3 := odf h3
    refine Ts hc (Ch.s (dI (-1)) pa (Ch.nil (T_ret ?_)))
    exact eR [(dI (-1))] [] [] (.cons (.tmp 4 rfl) .nil) eB (Exp.of (congrArg (D.int .i64) a63) (.d _))
   ·
    replace h3 := odt h3
    refine Tk (Tz hc (Ch.s (dI (((k + 2 * m : Nat) : Int) + 1)) pm (Ch.s (dI ((((k + 2 * m : Nat) : Int) + 1) + 1)) (iX rfl rfl intV_addA) (Ch.s (dI ((((k + 2 * m : Nat) : Int) + 1) + 1)) pa (Ch.nil (Tz hc (Ch.s (dI (m : Int)) pm ?_)))))))
    refine Ch.s (dI ((m : Int) + 1)) (iX rfl rfl intV_addA) (Ch.s (dI ((m : Int) + 1)) pa (Ch.nil ?_))
    exact nx (m + 1) (by omega) (Wk.of rfl rfl (ar (ai (vI a87) (ai (vI a87) trivial))) trivial)
 ·
  try have hq1 := (hq m (by omega)).1
  try have hq2 := (hq m (by omega)).2
  refine T_exit (Ts hc (Ch.s (dI ((k + 2 * m : Nat) : Int)) pm (Ch.s (dI ((k + 2 * m : Nat) : Int)) pa (Ch.nil (T_ret ?_)))))
  exact eR [(dI ((k + 2 * m : Nat) : Int))] [] [] (.cons (.tmp 4 rfl) .nil) eB (Exp.of (congrArg (D.int .i64) a63) (.d _))

set_option maxHeartbeats 1000000 in
theorem sp_markTr (xs : List Tra) (k : Nat) (hs : TSm xs) (hk : k ≤ 1000) : Sp Tryz.prog 52 [(.slice true 2 (xs.map Tra.u)), (.int .i64 (k : Int))] [(.slice true 2 ((tmk k xs).map Tra.u)), .any] (.int .i64 ((k + tml xs xs.length : Nat) : Int)) := by
 refine Sp_intro (lend := false) Tryz.func52 rfl rfl rfl (fun h => nomatch h) (fun c hc hX => ?_)
 have hgb := tml_b hs; have hn := hs.1
 refine Ts hc (Ch.s (dI 0) pa (Ch.nil (Tq (Ts hc (Ch.s (dI 0) pa ?_)))))
 refine Ch.nil (Tb ?_)
 refine T_loop (ι := Nat) (fun m => { n := 27, sl := [(0, (.row 1)), (1, (dI ((k + tml xs m : Nat) : Int))), (5, (dI (m : Int)))], hp := [(1, (some (.row 2 ((tmTo xs k m).map Tra.u))))], pin := [1] }) (fun m => m ≤ xs.length) (fun m => xs.length - m) ⟨0, (by omega), (Wk.of rfl rfl (ar (ai (vI a46) (ai (vI a87) trivial))) (ai (oR a73) trivial))⟩ (fun m hp0 => ?_)
 have hml := tmTo_len xs k m; have hrm := hgb m; have hmg := tmTo_at (k := k) hp0
 refine Tq (Ts hc (Ch.s (dI (m : Int)) pm (Ch.s (.row 1) pm (Ch.s (dI ((tmTo xs k m).length : Int)) (.pure (.len _ _ 64 rfl Tryz.underlying22 (.row rfl) (by simp))) (Ch.s (dB (decide ((m : Int) < ((tmTo xs k m).length : Int)))) (iX rfl rfl rfl) (Ch.nil ?_))))))
 refine T_condD (p := ((m : Int) < ((tmTo xs k m).length : Int))) rfl (fun h1 => ?_) (fun h1 => ?_)
 ·
  try have hsm := hs.2 _ (getD_mem (l := xs) (j := m) (d := default) (by omega))
  try have hls := tml_succ (xs := xs) (m := m) (by omega)
  try have hsm1 := hsm.1
  try have hsm2 := hsm.2
  try have hgl := congrArg (fun r => r.pre.length) hmg
  try dsimp only at hgl
  try have hgl2 := congrArg (fun r => r.post.length) hmg
  try dsimp only at hgl2
  refine Tk (Tq (Tb (Tq ?_)))
  refine T_takeF 1 m 0 7000002 7000003 rfl get_mapA rfl rfl rfl (fun u1 => ?_)
  refine T_takeF 1 m 1 7000004 7000005 rfl (get_set a52) rfl rfl rfl (fun u2 => ?_)
  refine Tz hc (Ch.s (.row 1) pm (Ch.s (dI (m : Int)) pm (Ch.s (.el 1 2 m 0) (.pure (.idxRow _ _ _ 64 (m) rfl Tryz.underlying22 sz64 rfl rfl rfl rfl a52)) (Ch.s (.el 1 2 m 0) (.pure (.fldEl _ _ _ rfl fld64_0 rfl)) (Ch.s (.row 7000002) (.pure (.loadHoleF (n := 7000002) (m := 7000003) (u := u1) _ _ rfl ag62 rfl rfl (get_set a52) rfl rfl rfl rfl rfl)) (Ch.s (dI ((k + tml xs m : Nat) : Int)) pm ?_))))))
  refine Ch.step (v := (dI (((k + tml xs m) + (((tmTo xs k m).getD m default).pre).length : Nat) : Int))) rfl (.call 18000 76 _ _ _ en76 rfl (.inl rfl) (.cons (.row rfl) (.cons (.d _) .nil)) rfl (sol rfl (solids_c (solid_row (fun _ => rfl) _) rfl)) (sp_laws_markIntS (((tmTo xs k m).getD m default).pre) (k + tml xs m) a7 a7) (.row _ _ _ (.skip _ _ .nil)) rfl) rfl rfl ?_
  refine Ch.s (dI (((k + tml xs m) + (((tmTo xs k m).getD m default).pre).length : Nat) : Int)) pa (Ch.nil (Tz hc (Ch.s (.row 1) pm (Ch.s (dI (m : Int)) pm (Ch.s (.el 1 2 m 0) (.pure (.idxRow _ _ _ 64 (m) rfl Tryz.underlying22 sz64 rfl rfl rfl rfl a52)) (Ch.s (.el 1 2 m 1) (.pure (.fldEl _ _ _ rfl fld64_1 rfl)) (Ch.s (.row 7000004) (.pure (.loadHoleF (n := 7000004) (m := 7000005) (u := u2) _ _ rfl ag62 rfl rfl (get_set a52) rfl rfl rfl rfl rfl)) ?_)))))))
  refine Ch.s (dI (((k + tml xs m) + (((tmTo xs k m).getD m default).pre).length : Nat) : Int)) pm ?_
  refine Ch.step (v := (dI ((((k + tml xs m) + (((tmTo xs k m).getD m default).pre).length) + (((tmTo xs k m).getD m default).post).length : Nat) : Int))) rfl (.call 25000 76 _ _ _ en76 rfl (.inl rfl) (.cons (.row rfl) (.cons (.d _) .nil)) rfl (sol rfl (solids_c (solid_row (fun _ => rfl) _) rfl)) (sp_laws_markIntS (((tmTo xs k m).getD m default).post) ((k + tml xs m) + (((tmTo xs k m).getD m default).pre).length) a7 a7) (.row _ _ _ (.skip _ _ .nil)) rfl) rfl rfl ?_
  refine Ch.s (dI ((((k + tml xs m) + (((tmTo xs k m).getD m default).pre).length) + (((tmTo xs k m).getD m default).post).length : Nat) : Int)) pa (Ch.nil (Tz hc (Ch.s (dI (m : Int)) pm (Ch.s (dI ((m : Int) + 1)) (iX rfl rfl intV_addA) (Ch.s (dI ((m : Int) + 1)) pa (Ch.nil ?_))))))
  exact nx (m + 1) (by omega) (Wk.trans (Wk.giveF 1 m 0 7000002 7000003 rfl (get_set a52) rfl rfl rfl rfl rfl) (Wk.trans (Wk.giveF 1 m 1 7000004 7000005 rfl (get_set a52) rfl rfl rfl rfl rfl) (Wk.of rfl rfl (ar (ai (vI a46) (ai (vI a87) trivial))) (ai (oR a73) trivial))))
 ·
  try have hsm := hs.2 _ (getD_mem (l := xs) (j := m) (d := default) (by omega))
  try have hls := tml_succ (xs := xs) (m := m) (by omega)
  try have hsm1 := hsm.1
  try have hsm2 := hsm.2
  try have hgl := congrArg (fun r => r.pre.length) hmg
  try dsimp only at hgl
  try have hgl2 := congrArg (fun r => r.post.length) hmg
  try dsimp only at hgl2
  refine T_exit (Ts hc (Ch.s (dI ((k + tml xs m : Nat) : Int)) pm (Ch.s (dI ((k + tml xs m : Nat) : Int)) pa (Ch.nil (T_ret ?_)))))
  exact eR [(dI ((k + tml xs m : Nat) : Int))] [1] [] (.cons (.tmp 4 rfl) .nil) (.cons (Exp.of (congrArg (D.slice true 2) (by rw [tmk, show xs.length = m by omega])) (.row rfl)) eA) (Exp.of (congrArg (D.int .i64) (by rw [tml_all (m := m) (by omega)])) (.d _))

theorem sp_heldIq (xs : List Int) (k : Nat) (hn : xs.length ≤ 1048576) (hk : k ≤ 2097152) (hq : iheldR xs k = ((k + xs.length : Nat) : Int)) : Sp Tryz.prog 77 [(.slice false 1 (xs.map (fun n : Int => D.int .i64 n))), (.int .i64 (k : Int))] [.any, .any] (.int .i64 ((k + xs.length : Nat) : Int)) := hq ▸ sp_laws_heldIntS xs k hn hk

set_option maxHeartbeats 1000000 in
theorem sp_heldTr (xs : List Tra) (k : Nat) (hs : TSm xs) (hk : k ≤ 1000) (hq : THeld xs k) : Sp Tryz.prog 54 [(.slice false 2 (xs.map Tra.d)), (.int .i64 (k : Int))] [.any, .any] (.int .i64 ((k + tml xs xs.length : Nat) : Int)) := by
 refine Sp_intro (lend := true) Tryz.func54 rfl rfl rfl (fun _ => rfl) (fun c hc hX => ?_)
 have hgb := tml_b hs; have hn := hs.1
 refine Ts hc (Ch.s (dI 0) pa (Ch.nil (Tq (Ts hc (Ch.s (dI 0) pa ?_)))))
 refine Ch.nil (Tb ?_)
 refine T_loop (ι := Nat) (fun m => { n := 31, sl := [(0, (.d (.slice false 2 (xs.map Tra.d)))), (1, (dI ((k + tml xs m : Nat) : Int))), (5, (dI (m : Int)))], hp := [], pin := [] }) (fun m => m ≤ xs.length) (fun m => xs.length - m) ⟨0, (by omega), (Wk.of rfl rfl (ar (ai (vI (by first | rfl | (rw [tml_succ (by omega)]; omega))) (ai (vI a87) trivial))) trivial)⟩ (fun m hp0 => ?_)
 have hrm := hgb m
 refine Tq (Ts hc (Ch.s (dI (m : Int)) pm (Ch.s (.d (.slice false 2 (xs.map Tra.d))) pm (Ch.s (dI (xs.length : Int)) (.pure (.len _ _ 64 rfl Tryz.underlying22 (.sh _ _) (by simp))) (Ch.s (dB (decide ((m : Int) < (xs.length : Int)))) (iX rfl rfl rfl) (Ch.nil ?_))))))
 refine T_condD (p := ((m : Int) < (xs.length : Int))) rfl (fun h1 => ?_) (fun h1 => ?_)
 ·
  try have hsm := hs.2 _ (getD_mem (l := xs) (j := m) (d := default) (by omega))
  try have hls := tml_succ (xs := xs) (m := m) (by omega)
  try have hsm1 := hsm.1
  try have hsm2 := hsm.2
  try have hq1 := (hq m (by omega)).1
  try have hq2 := (hq m (by omega)).2
  refine Tk (Tq (Tb (Ts hc (Ch.s (.d (.slice false 2 (xs.map Tra.d))) pm (Ch.s (dI (m : Int)) pm (Ch.s (.d (.ref (.agg [(.slice false 1 (((xs.getD m default).pre).map (fun n : Int => D.int .i64 n))), (.slice false 1 (((xs.getD m default).post).map (fun n : Int => D.int .i64 n)))]))) (.pure (.idx _ _ _ 64 (m) rfl Tryz.underlying22 sz64 rfl rfl rfl get_mapA)) ?_))))))
  refine Ch.s (.d (.ref (.slice false 1 (((xs.getD m default).pre).map (fun n : Int => D.int .i64 n))))) (.pure (.fldRef _ _ _ rfl fld64_0 rfl rfl rfl)) (Ch.s (.d (.slice false 1 (((xs.getD m default).pre).map (fun n : Int => D.int .i64 n)))) (rF ag62 rfl rfl) (Ch.s (dI ((k + tml xs m : Nat) : Int)) pm (Ch.s (dI (((k + tml xs m) + ((xs.getD m default).pre).length : Nat) : Int)) (.call 18000 77 _ _ _ en77 rfl (.inl rfl) (.cons (.d _) (.cons (.d _) .nil)) rfl rfl (sp_heldIq ((xs.getD m default).pre) (k + tml xs m) a94 a94 (by assumption)) (.skip _ _ (.skip _ _ .nil)) rfl) (Ch.s (dI (((k + tml xs m) + ((xs.getD m default).pre).length : Nat) : Int)) pa (Ch.nil (Tq (Tq ?_)))))))
  refine Tz hc (Ch.s (dI (((k + tml xs m) + ((xs.getD m default).pre).length : Nat) : Int)) pm (Ch.s (dB (decide ((((k + tml xs m) + ((xs.getD m default).pre).length : Nat) : Int) < 0))) (iX rfl rfl rfl) (Ch.nil ?_)))
  refine T_condD (p := ((((k + tml xs m) + ((xs.getD m default).pre).length : Nat) : Int) < 0)) rfl (fun h2 => ?_) (fun h2 => ?_)
  ·
   refine Ts hc (Ch.s (dI (-1)) pa (Ch.nil (T_ret ?_)))
   exact eR [(dI (-1))] [] [] (.cons (.tmp 4 rfl) .nil) eB (Exp.of (congrArg (D.int .i64) a35) (.d _))
  ·
   refine Tk (Ts hc (Ch.s (.d (.slice false 2 (xs.map Tra.d))) pm (Ch.s (dI (m : Int)) pm (Ch.s (.d (.ref (.agg [(.slice false 1 (((xs.getD m default).pre).map (fun n : Int => D.int .i64 n))), (.slice false 1 (((xs.getD m default).post).map (fun n : Int => D.int .i64 n)))]))) (.pure (.idx _ _ _ 64 (m) rfl Tryz.underlying22 sz64 rfl rfl rfl get_mapA)) (Ch.s (.d (.ref (.slice false 1 (((xs.getD m default).post).map (fun n : Int => D.int .i64 n))))) (.pure (.fldRef _ _ _ rfl fld64_1 rfl rfl rfl)) (Ch.s (.d (.slice false 1 (((xs.getD m default).post).map (fun n : Int => D.int .i64 n)))) (rF ag62 rfl rfl) ?_))))))
   refine Ch.s (dI (((k + tml xs m) + ((xs.getD m default).pre).length : Nat) : Int)) pm (Ch.s (dI ((((k + tml xs m) + ((xs.getD m default).pre).length) + ((xs.getD m default).post).length : Nat) : Int)) (.call 27000 77 _ _ _ en77 rfl (.inl rfl) (.cons (.d _) (.cons (.d _) .nil)) rfl rfl (sp_heldIq ((xs.getD m default).post) ((k + tml xs m) + ((xs.getD m default).pre).length) a94 a94 (by assumption)) (.skip _ _ (.skip _ _ .nil)) rfl) (Ch.s (dI ((((k + tml xs m) + ((xs.getD m default).pre).length) + ((xs.getD m default).post).length : Nat) : Int)) pa (Ch.nil (Ts hc (Ch.s (dI ((((k + tml xs m) + ((xs.getD m default).pre).length) + ((xs.getD m default).post).length : Nat) : Int)) pm (Ch.s (dB (decide (((((k + tml xs m) + ((xs.getD m default).pre).length) + ((xs.getD m default).post).length : Nat) : Int) < 0))) (iX rfl rfl rfl) ?_))))))
   refine Ch.nil ?_
   refine T_condD (p := (((((k + tml xs m) + ((xs.getD m default).pre).length) + ((xs.getD m default).post).length : Nat) : Int) < 0)) rfl (fun h3 => ?_) (fun h3 => ?_)
   ·
    refine Ts hc (Ch.s (dI (-1)) pa (Ch.nil (T_ret ?_)))
    exact eR [(dI (-1))] [] [] (.cons (.tmp 4 rfl) .nil) eB (Exp.of (congrArg (D.int .i64) a35) (.d _))
   ·
    refine Tk (Tz hc (Ch.s (dI (m : Int)) pm (Ch.s (dI ((m : Int) + 1)) (iX rfl rfl intV_addA) (Ch.s (dI ((m : Int) + 1)) pa (Ch.nil ?_)))))
    exact nx (m + 1) (by omega) (Wk.of rfl rfl (ar (ai (vI (by first | rfl | (rw [tml_succ (by omega)]; omega))) (ai (vI a87) trivial))) trivial)
 ·
  try have hsm := hs.2 _ (getD_mem (l := xs) (j := m) (d := default) (by omega))
  try have hls := tml_succ (xs := xs) (m := m) (by omega)
  try have hsm1 := hsm.1
  try have hsm2 := hsm.2
  try have hq1 := (hq m (by omega)).1
  try have hq2 := (hq m (by omega)).2
  refine T_exit (Ts hc (Ch.s (dI ((k + tml xs m : Nat) : Int)) pm (Ch.s (dI ((k + tml xs m : Nat) : Int)) pa (Ch.nil (T_ret ?_)))))
  exact eR [(dI ((k + tml xs m : Nat) : Int))] [] [] (.cons (.tmp 4 rfl) .nil) eB (Exp.of (congrArg (D.int .i64) a35) (.d _))

theorem sp_markNt (p : Int) (xs : List Tra) (k : Nat) (hs : TSm xs) (hk : k ≤ 1000) : Sp Tryz.prog 22 [(.agg [(.int .i64 p), (.slice true 2 (xs.map Tra.u))]), (.int .i64 (k : Int))] [(.agg [(.int .i64 p), (.slice true 2 ((tmk k xs).map Tra.u))]), .any] (.int .i64 ((k + tml xs xs.length : Nat) : Int)) := by
 refine Sp_intro (lend := false) Tryz.func22 rfl rfl rfl (fun h => nomatch h) (fun c hc hX => ?_)
 refine Ts hc (Ch.s (.ptr 2000 0) (.box 2000 _ _ rfl (.agg _ rfl)) (Ch.s (dI 0) pa (Ch.nil (Ts hc (Ch.s (.ptr 2000 1) (fP fld24_1 rfl) ?_)))))
 refine Ch.s (.row 1) (lP ag22 rfl rfl rfl) (Ch.s (dI (k : Int)) pm ?_)
 refine Ch.step (v := (dI ((k + tml xs xs.length : Nat) : Int))) rfl (.call 8000 52 _ _ _ en52 rfl (.inl rfl) (.cons (.row rfl) (.cons (.d _) .nil)) rfl (sol rfl (solids_c (solid_row Tra.sol _) rfl)) (sp_markTr xs k (by assumption) a94) (.row _ _ _ (.skip _ _ .nil)) rfl) rfl rfl ?_
 refine Ch.s (dI ((k + tml xs xs.length : Nat) : Int)) pa (Ch.nil (Ts hc (Ch.s (dI ((k + tml xs xs.length : Nat) : Int)) pm (Ch.s (dI ((k + tml xs xs.length : Nat) : Int)) pa (Ch.nil (T_ret ?_))))))
 exact eR [(dI ((k + tml xs xs.length : Nat) : Int))] [1] [] (.cons (.tmp 4 rfl) .nil) (.cons (.agg (.cons (.d _) (.cons (.row rfl) .nil)) rfl) eA) (.d _)

theorem sp_heldNt (p : Int) (xs : List Tra) (k : Nat) (hs : TSm xs) (hk : k ≤ 1000) (hq : THeld xs k) : Sp Tryz.prog 25 [(.agg [(.int .i64 p), (.slice false 2 (xs.map Tra.d))]), (.int .i64 (k : Int))] [.any, .any] (.int .i64 ((k + tml xs xs.length : Nat) : Int)) := by
 refine Sp_intro (lend := true) Tryz.func25 rfl rfl rfl (fun _ => rfl) (fun c hc hX => ?_)
 refine Ts hc (Ch.s (.ptr 2000 0) (.box 2000 _ _ rfl (.aggD _)) (Ch.s (dI 0) pa (Ch.nil (Ts hc (Ch.s (.ptr 2000 1) (fP fld24_1 rfl) ?_)))))
 refine Ch.s (.d (.slice false 2 (xs.map Tra.d))) (lP ag22 rfl rfl rfl) (Ch.s (dI (k : Int)) pm (Ch.s (dI ((k + tml xs xs.length : Nat) : Int)) (.call 8000 54 _ _ _ en54 rfl (.inl rfl) (.cons (.d _) (.cons (.d _) .nil)) rfl rfl (sp_heldTr xs k (by assumption) a94 (by assumption)) (.skip _ _ (.skip _ _ .nil)) rfl) (Ch.s (dI ((k + tml xs xs.length : Nat) : Int)) pa (Ch.nil (Tq (Tq (Tz hc ?_)))))))
 refine Ch.s (dI ((k + tml xs xs.length : Nat) : Int)) pm (Ch.s (dB (decide (((k + tml xs xs.length : Nat) : Int) < 0))) (iX rfl rfl rfl) (Ch.nil ?_))
 refine T_condD (p := (((k + tml xs xs.length : Nat) : Int) < 0)) rfl (fun h1 => ?_) (fun h1 => ?_)
 ·
  refine Ts hc (Ch.s (dI (-1)) pa (Ch.nil (T_ret ?_)))
  exact eR [(dI (-1))] [] [] (.cons (.tmp 4 rfl) .nil) eB (Exp.of (congrArg (D.int .i64) (by first | rfl | omega | (exfalso; omega))) (.d _))
 ·
  refine Tk (Ts hc (Ch.s (dI ((k + tml xs xs.length : Nat) : Int)) pm (Ch.s (dI ((k + tml xs xs.length : Nat) : Int)) pa (Ch.nil (T_ret ?_)))))
  exact eR [(dI ((k + tml xs xs.length : Nat) : Int))] [] [] (.cons (.tmp 4 rfl) .nil) eB (.d _)

theorem sp_eqNt (p : Int) (xs : List Tra) (q : Int) (ys : List Tra) (hb : bulkF Tra.bulk xs ≤ 1048576) : Sp Tryz.prog 19 [(.agg [(.int .i64 p), (.slice false 2 (xs.map Tra.d))]), (.agg [(.int .i64 q), (.slice false 2 (ys.map Tra.d))])] [.any, .any] (.bool (decide (p = q) && decide (xs = ys))) := by
 refine Sp_intro (lend := true) Tryz.func19 rfl rfl rfl (fun _ => rfl) (fun c hc hX => ?_)
 refine Ts hc (Ch.s (.ptr 2000 0) (.box 2000 _ _ rfl (.aggD _)) (Ch.s (.ptr 3000 0) (.box 3000 _ _ rfl (.aggD _)) (Ch.s (dB false) pa (Ch.nil (Tq (Tq ?_))))))
 refine Tz hc (Ch.s (.ptr 2000 0) (fP fld24_0 rfl) (Ch.s (dI p) (lP ag3 rfl rfl rfl) (Ch.s (.ptr 3000 0) (fP fld24_0 rfl) (Ch.s (dI q) (lP ag3 rfl rfl rfl) (Ch.s (dB (!(decide (p = q)))) (iX rfl rfl rfl) (Ch.nil ?_))))))
 refine T_condN (b := (decide (p = q))) rfl (fun h1 => ?_) (fun h1 => ?_)
 ·
  replace h1 := odf h1
  refine Ts hc (Ch.s (dB false) pa (Ch.nil (T_ret ?_)))
  exact eR [(dB false)] [] [] (.cons (.tmp 4 rfl) .nil) eB (Exp.of (congrArg D.bool (by simp_all)) (.d _))
 ·
  replace h1 := odt h1
  refine Tk (Tq (Ts hc (Ch.s (.ptr 2000 1) (fP fld24_1 rfl) (Ch.s (.d (.slice false 2 (xs.map Tra.d))) (lP ag22 rfl rfl rfl) (Ch.s (.ptr 3000 1) (fP fld24_1 rfl) (Ch.s (.d (.slice false 2 (ys.map Tra.d))) (lP ag22 rfl rfl rfl) ?_))))))
  refine Ch.s (dB (decide (xs = ys))) (.call 14000 49 _ _ _ en49 rfl (.inl rfl) (.cons (.d _) (.cons (.d _) .nil)) rfl rfl (sp_laws_eqTransitionS xs ys a23) (.skip _ _ (.skip _ _ .nil)) rfl) (Ch.s (dB (!(decide (xs = ys)))) (nT rfl) (Ch.nil ?_))
  refine T_condN (b := (decide (xs = ys))) rfl (fun h2 => ?_) (fun h2 => ?_)
  ·
   replace h2 := odf h2
   refine Ts hc (Ch.s (dB false) pa (Ch.nil (T_ret ?_)))
   exact eR [(dB false)] [] [] (.cons (.tmp 4 rfl) .nil) eB (Exp.of (congrArg D.bool (by simp_all)) (.d _))
  ·
   replace h2 := odt h2
   refine Tk (Ts hc (Ch.s (dB true) pa (Ch.nil (T_ret ?_))))
   exact eR [(dB true)] [] [] (.cons (.tmp 4 rfl) .nil) eB (Exp.of (congrArg D.bool (by simp_all)) (.d _))

theorem sp_eqStg (x y : Stg) (hb1 : bulkF Tra.bulk x.trans ≤ 1048576) (hb2 : bulkF Sgn.bulk x.sigs ≤ 1048576) (hb3 : bulkF Lab.bulk x.labs ≤ 1048576) : Sp Tryz.prog 6 [(.agg [(.int .i64 x.places), (.slice false 2 (x.trans.map Tra.d)), (.slice false 2 (x.sigs.map Sgn.d)), (.slice false 2 (x.labs.map Lab.d)), (.str x.start)]), (.agg [(.int .i64 y.places), (.slice false 2 (y.trans.map Tra.d)), (.slice false 2 (y.sigs.map Sgn.d)), (.slice false 2 (y.labs.map Lab.d)), (.str y.start)])] [.any, .any] (.bool (decide (x = y))) := by
 refine Sp_intro (lend := true) Tryz.func6 rfl rfl rfl (fun _ => rfl) (fun c hc hX => ?_)
 refine Ts hc (Ch.s (.ptr 2000 0) (.box 2000 _ _ rfl (.aggD _)) (Ch.s (.ptr 3000 0) (.box 3000 _ _ rfl (.aggD _)) (Ch.s (dB false) pa (Ch.nil (Tq (Tq ?_))))))
 refine Tz hc (Ch.s (.ptr 2000 0) (fP fld28_0 rfl) (Ch.s (.agg [(dI x.places), (.d (.slice false 2 (x.trans.map Tra.d)))]) (lA ag24 sz24 rfl rfl (lb rfl) rfl) (Ch.s (.ptr 3000 0) (fP fld28_0 rfl) (Ch.s (.agg [(dI y.places), (.d (.slice false 2 (y.trans.map Tra.d)))]) (lA ag24 sz24 rfl rfl (lb rfl) rfl) (Ch.s (dB (decide (x.places = y.places) && decide (x.trans = y.trans))) (.call 9000 19 _ _ _ en19 rfl (.inl rfl) (.cons (.lend (.agg (.cons (.d _) (.cons (.d _) .nil)) rfl)) (.cons (.lend (.agg (.cons (.d _) (.cons (.d _) .nil)) rfl)) .nil)) rfl rfl (sp_eqNt x.places x.trans y.places y.trans a23) (.skip _ _ (.skip _ _ .nil)) rfl) (Ch.s (dB (!(decide (x.places = y.places) && decide (x.trans = y.trans)))) (nT rfl) (Ch.nil ?_)))))))
 refine T_condN (b := (decide (x.places = y.places) && decide (x.trans = y.trans))) rfl (fun h1 => ?_) (fun h1 => ?_)
 ·
  refine Ts hc (Ch.s (dB false) pa (Ch.nil (T_ret ?_)))
  exact eR [(dB false)] [] [] (.cons (.tmp 4 rfl) .nil) eB (Exp.of (congrArg D.bool a93) (.d _))
 ·
  refine Tk (Tq (Ts hc (Ch.s (.ptr 2000 2) (fP fld28_1 rfl) (Ch.s (.d (.slice false 2 (x.sigs.map Sgn.d))) (lP ag25 rfl rfl rfl) (Ch.s (.ptr 3000 2) (fP fld28_1 rfl) (Ch.s (.d (.slice false 2 (y.sigs.map Sgn.d))) (lP ag25 rfl rfl rfl) ?_))))))
  refine Ch.s (dB (decide (x.sigs = y.sigs))) (.call 15000 20 _ _ _ en20 rfl (.inl rfl) (.cons (.d _) (.cons (.d _) .nil)) rfl rfl (sp_laws_eqSignalS x.sigs y.sigs a23) (.skip _ _ (.skip _ _ .nil)) rfl) (Ch.s (dB (!(decide (x.sigs = y.sigs)))) (nT rfl) (Ch.nil ?_))
  refine T_condN (b := (decide (x.sigs = y.sigs))) rfl (fun h2 => ?_) (fun h2 => ?_)
  ·
   replace h2 := odf h2
   refine Ts hc (Ch.s (dB false) pa (Ch.nil (T_ret ?_)))
   exact eR [(dB false)] [] [] (.cons (.tmp 4 rfl) .nil) eB (Exp.of (congrArg D.bool a93) (.d _))
  ·
   replace h2 := odt h2
   refine Tk (Tq (Ts hc (Ch.s (.ptr 2000 3) (fP fld28_2 rfl) (Ch.s (.d (.slice false 2 (x.labs.map Lab.d))) (lP ag26 rfl rfl rfl) (Ch.s (.ptr 3000 3) (fP fld28_2 rfl) (Ch.s (.d (.slice false 2 (y.labs.map Lab.d))) (lP ag26 rfl rfl rfl) ?_))))))
   refine Ch.s (dB (decide (x.labs = y.labs))) (.call 21000 21 _ _ _ en21 rfl (.inl rfl) (.cons (.d _) (.cons (.d _) .nil)) rfl rfl (sp_laws_eqLabelS x.labs y.labs a23) (.skip _ _ (.skip _ _ .nil)) rfl) (Ch.s (dB (!(decide (x.labs = y.labs)))) (nT rfl) (Ch.nil ?_))
   refine T_condN (b := (decide (x.labs = y.labs))) rfl (fun h3 => ?_) (fun h3 => ?_)
   ·
    replace h3 := odf h3
    refine Ts hc (Ch.s (dB false) pa (Ch.nil (T_ret ?_)))
    exact eR [(dB false)] [] [] (.cons (.tmp 4 rfl) .nil) eB (Exp.of (congrArg D.bool a93) (.d _))
   ·
    replace h3 := odt h3
    refine Tk (Tq (Ts hc (Ch.s (.ptr 2000 4) (fP fld28_3 rfl) (Ch.s (dS x.start) (lP ag9 rfl rfl rfl) (Ch.s (.ptr 3000 4) (fP fld28_3 rfl) (Ch.s (dS y.start) (lP ag9 rfl rfl rfl) ?_))))))
    refine Ch.s (dB (!(decide (x.start = y.start)))) (.pure (.str _ _ _ _ _ rfl rfl rfl rfl)) (Ch.nil ?_)
    refine T_condN (b := (decide (x.start = y.start))) rfl (fun h4 => ?_) (fun h4 => ?_)
    ·
     replace h4 := odf h4
     refine Ts hc (Ch.s (dB false) pa (Ch.nil (T_ret ?_)))
     exact eR [(dB false)] [] [] (.cons (.tmp 4 rfl) .nil) eB (Exp.of (congrArg D.bool a93) (.d _))
    ·
     replace h4 := odt h4
     refine Tk (Ts hc (Ch.s (dB true) pa (Ch.nil (T_ret ?_))))
     exact eR [(dB true)] [] [] (.cons (.tmp 4 rfl) .nil) eB (Exp.of (congrArg D.bool a93) (.d _))

theorem sp_markStg (x : Stg) (k : Nat) (hx : XSm x) (hk : k ≤ 1) : Sp Tryz.prog 7 [(.agg [(.int .i64 x.places), (.slice true 2 (x.trans.map Tra.u)), (.slice true 2 (x.sigs.map Sgn.d)), (.slice true 2 (x.labs.map Lab.d)), (.str x.start)]), (.int .i64 (k : Int))] [(.agg [(.int .i64 ((xmk k x).places)), (.slice true 2 (((xmk k x).trans).map Tra.u)), (.slice true 2 (((xmk k x).sigs).map Sgn.d)), (.slice true 2 (((xmk k x).labs).map Lab.d)), (.str ((xmk k x).start))]), .any] (.int .i64 ((k + xml x : Nat) : Int)) := by
 refine Sp_intro (lend := false) Tryz.func7 rfl rfl rfl (fun h => nomatch h) (fun c hc hX => ?_)
 have xt := hx.t; have xs := hx.s; have xl := hx.l; have hgb := tml_b xt x.trans.length
 refine Ts hc (Ch.s (.ptr 2000 0) (.box 2000 _ _ rfl (.agg _ rfl)) (Ch.s (dI 0) pa (Ch.nil (Ts hc (Ch.s (.ptr 2000 0) (fP fld28_0 rfl) ?_)))))
 refine Ch.s (.agg [(dI x.places), (.row 1)]) (lA ag24 sz24 rfl rfl (lb rfl) rfl) (Ch.s (dI (k : Int)) pm ?_)
 refine Ch.step (v := (dI ((k + tml x.trans x.trans.length : Nat) : Int))) rfl (.call 8000 22 _ _ _ en22 rfl (.inl rfl) (.cons (.agg (.cons (.d _) (.cons (.row rfl) .nil)) rfl) (.cons (.d _) .nil)) rfl (sol rfl (solids_c (by rw [D.solid]; exact solids_c rfl (solids_c (solid_row Tra.sol _) rfl)) rfl)) (sp_markNt x.places x.trans k (by assumption) a94) (.agg (.skip _ _ (.row _ _ _ .nil)) (.skip _ _ .nil)) rfl) rfl rfl ?_
 refine Ch.s (dI ((k + tml x.trans x.trans.length : Nat) : Int)) pa (Ch.nil (Ts hc (Ch.s (.ptr 2000 2) (fP fld28_1 rfl) (Ch.s (.row 2) (lP ag25 rfl rfl rfl) (Ch.s (dI ((k + tml x.trans x.trans.length : Nat) : Int)) pm ?_)))))
 refine Ch.step (v := (dI (((k + tml x.trans x.trans.length) + 2 * x.sigs.length : Nat) : Int))) rfl (.call 12000 23 _ _ _ en23 rfl (.inl rfl) (.cons (.row rfl) (.cons (.d _) .nil)) rfl (sol rfl (solids_c (solid_row (fun _ => rfl) _) rfl)) (sp_markSg x.sigs (k + tml x.trans x.trans.length) a94 a94) (.row _ _ _ (.skip _ _ .nil)) rfl) rfl rfl ?_
 refine Ch.s (dI (((k + tml x.trans x.trans.length) + 2 * x.sigs.length : Nat) : Int)) pa (Ch.nil (Ts hc (Ch.s (.ptr 2000 3) (fP fld28_2 rfl) (Ch.s (.row 3) (lP ag26 rfl rfl rfl) (Ch.s (dI (((k + tml x.trans x.trans.length) + 2 * x.sigs.length : Nat) : Int)) pm ?_)))))
 refine Ch.step (v := (dI ((((k + tml x.trans x.trans.length) + 2 * x.sigs.length) + 2 * x.labs.length : Nat) : Int))) rfl (.call 16000 24 _ _ _ en24 rfl (.inl rfl) (.cons (.row rfl) (.cons (.d _) .nil)) rfl (sol rfl (solids_c (solid_row (fun _ => rfl) _) rfl)) (sp_markLb x.labs ((k + tml x.trans x.trans.length) + 2 * x.sigs.length) a94 a94) (.row _ _ _ (.skip _ _ .nil)) rfl) rfl rfl ?_
 refine Ch.s (dI ((((k + tml x.trans x.trans.length) + 2 * x.sigs.length) + 2 * x.labs.length : Nat) : Int)) pa (Ch.nil (Ts hc (Ch.s (dI ((((k + tml x.trans x.trans.length) + 2 * x.sigs.length) + 2 * x.labs.length : Nat) : Int)) pm (Ch.s (dI ((((k + tml x.trans x.trans.length) + 2 * x.sigs.length) + 2 * x.labs.length : Nat) : Int)) pa (Ch.nil (T_ret ?_))))))
 exact eR [(dI ((((k + tml x.trans x.trans.length) + 2 * x.sigs.length) + 2 * x.labs.length : Nat) : Int))] [1, 2, 3] [] (.cons (.tmp 4 rfl) .nil) (.cons (.agg (.cons (Exp.of (congrArg (D.int .i64) a84) (.d _)) (.cons (Exp.of (congrArg (D.slice true 2) a84) (.row rfl)) (.cons (Exp.of (congrArg (D.slice true 2) a84) (.row rfl)) (.cons (Exp.of (congrArg (D.slice true 2) a84) (.row rfl)) (.cons (Exp.of (congrArg D.str a84) (.d _)) .nil))))) rfl) eA) (Exp.of (congrArg (D.int .i64) a84) (.d _))

theorem sp_heldStg (x : Stg) (k : Nat) (hx : XSm x) (hk : k ≤ 1) (hq1 : THeld x.trans k) (hq2 : SHeld x.sigs (k + tml x.trans x.trans.length)) (hq3 : LHeld x.labs (k + tml x.trans x.trans.length + 2 * x.sigs.length)) : Sp Tryz.prog 8 [(.agg [(.int .i64 x.places), (.slice false 2 (x.trans.map Tra.d)), (.slice false 2 (x.sigs.map Sgn.d)), (.slice false 2 (x.labs.map Lab.d)), (.str x.start)]), (.int .i64 (k : Int))] [.any, .any] (.int .i64 ((k + xml x : Nat) : Int)) := by
 refine Sp_intro (lend := true) Tryz.func8 rfl rfl rfl (fun _ => rfl) (fun c hc hX => ?_)
 have xt := hx.t; have xs := hx.s; have xl := hx.l; have hgb := tml_b xt x.trans.length
 refine Ts hc (Ch.s (.ptr 2000 0) (.box 2000 _ _ rfl (.aggD _)) (Ch.s (dI 0) pa (Ch.nil (Ts hc (Ch.s (.ptr 2000 0) (fP fld28_0 rfl) ?_)))))
 refine Ch.s (.agg [(dI x.places), (.d (.slice false 2 (x.trans.map Tra.d)))]) (lA ag24 sz24 rfl rfl (lb rfl) rfl) (Ch.s (dI (k : Int)) pm (Ch.s (dI ((k + tml x.trans x.trans.length : Nat) : Int)) (.call 8000 25 _ _ _ en25 rfl (.inl rfl) (.cons (.lend (.agg (.cons (.d _) (.cons (.d _) .nil)) rfl)) (.cons (.d _) .nil)) rfl rfl (sp_heldNt x.places x.trans k (by assumption) a94 (by assumption)) (.skip _ _ (.skip _ _ .nil)) rfl) (Ch.s (dI ((k + tml x.trans x.trans.length : Nat) : Int)) pa (Ch.nil (Tq (Tq (Tz hc ?_)))))))
 refine Ch.s (dI ((k + tml x.trans x.trans.length : Nat) : Int)) pm (Ch.s (dB (decide (((k + tml x.trans x.trans.length : Nat) : Int) < 0))) (iX rfl rfl rfl) (Ch.nil ?_))
 refine T_condD (p := (((k + tml x.trans x.trans.length : Nat) : Int) < 0)) rfl (fun h1 => ?_) (fun h1 => ?_)
 ·
  refine Ts hc (Ch.s (dI (-1)) pa (Ch.nil (T_ret ?_)))
  exact eR [(dI (-1))] [] [] (.cons (.tmp 4 rfl) .nil) eB (Exp.of (congrArg (D.int .i64) a85) (.d _))
 ·
  refine Tk (Ts hc (Ch.s (.ptr 2000 2) (fP fld28_1 rfl) (Ch.s (.d (.slice false 2 (x.sigs.map Sgn.d))) (lP ag25 rfl rfl rfl) (Ch.s (dI ((k + tml x.trans x.trans.length : Nat) : Int)) pm (Ch.s (dI (((k + tml x.trans x.trans.length) + 2 * x.sigs.length : Nat) : Int)) (.call 14000 26 _ _ _ en26 rfl (.inl rfl) (.cons (.d _) (.cons (.d _) .nil)) rfl rfl (sp_heldSg x.sigs (k + tml x.trans x.trans.length) a94 a94 (by assumption)) (.skip _ _ (.skip _ _ .nil)) rfl) (Ch.s (dI (((k + tml x.trans x.trans.length) + 2 * x.sigs.length : Nat) : Int)) pa ?_))))))
  refine Ch.nil (Tq (Ts hc (Ch.s (dI (((k + tml x.trans x.trans.length) + 2 * x.sigs.length : Nat) : Int)) pm (Ch.s (dB (decide ((((k + tml x.trans x.trans.length) + 2 * x.sigs.length : Nat) : Int) < 0))) (iX rfl rfl rfl) (Ch.nil ?_)))))
  refine T_condD (p := ((((k + tml x.trans x.trans.length) + 2 * x.sigs.length : Nat) : Int) < 0)) rfl (fun h2 => ?_) (fun h2 => ?_)
  ·
   refine Ts hc (Ch.s (dI (-1)) pa (Ch.nil (T_ret ?_)))
   exact eR [(dI (-1))] [] [] (.cons (.tmp 4 rfl) .nil) eB (Exp.of (congrArg (D.int .i64) a85) (.d _))
  ·
   refine Tk (Ts hc (Ch.s (.ptr 2000 3) (fP fld28_2 rfl) (Ch.s (.d (.slice false 2 (x.labs.map Lab.d))) (lP ag26 rfl rfl rfl) (Ch.s (dI (((k + tml x.trans x.trans.length) + 2 * x.sigs.length : Nat) : Int)) pm (Ch.s (dI ((((k + tml x.trans x.trans.length) + 2 * x.sigs.length) + 2 * x.labs.length : Nat) : Int)) (.call 20000 27 _ _ _ en27 rfl (.inl rfl) (.cons (.d _) (.cons (.d _) .nil)) rfl rfl (sp_heldLb x.labs ((k + tml x.trans x.trans.length) + 2 * x.sigs.length) a94 a94 (by assumption)) (.skip _ _ (.skip _ _ .nil)) rfl) (Ch.s (dI ((((k + tml x.trans x.trans.length) + 2 * x.sigs.length) + 2 * x.labs.length : Nat) : Int)) pa ?_))))))
   refine Ch.nil (Tq (Ts hc (Ch.s (dI ((((k + tml x.trans x.trans.length) + 2 * x.sigs.length) + 2 * x.labs.length : Nat) : Int)) pm (Ch.s (dB (decide (((((k + tml x.trans x.trans.length) + 2 * x.sigs.length) + 2 * x.labs.length : Nat) : Int) < 0))) (iX rfl rfl rfl) (Ch.nil ?_)))))
   refine T_condD (p := (((((k + tml x.trans x.trans.length) + 2 * x.sigs.length) + 2 * x.labs.length : Nat) : Int) < 0)) rfl (fun h3 => ?_) (fun h3 => ?_)
   ·
    refine Ts hc (Ch.s (dI (-1)) pa (Ch.nil (T_ret ?_)))
    exact eR [(dI (-1))] [] [] (.cons (.tmp 4 rfl) .nil) eB (Exp.of (congrArg (D.int .i64) a85) (.d _))
   ·
    refine Tk (Ts hc (Ch.s (dI ((((k + tml x.trans x.trans.length) + 2 * x.sigs.length) + 2 * x.labs.length : Nat) : Int)) pm (Ch.s (dI ((((k + tml x.trans x.trans.length) + 2 * x.sigs.length) + 2 * x.labs.length : Nat) : Int)) pa (Ch.nil (T_ret ?_)))))
    exact eR [(dI ((((k + tml x.trans x.trans.length) + 2 * x.sigs.length) + 2 * x.labs.length : Nat) : Int))] [] [] (.cons (.tmp 4 rfl) .nil) eB (Exp.of (congrArg (D.int .i64) a85) (.d _))

theorem en4 : Enters Tryz.prog 4 := ⟨_, Tryz.func4, by kernel_rfl, rfl⟩

theorem en5 : Enters Tryz.prog 5 := ⟨_, Tryz.func5, by kernel_rfl, rfl⟩

theorem en6 : Enters Tryz.prog 6 := ⟨_, Tryz.func6, by kernel_rfl, rfl⟩

theorem en7 : Enters Tryz.prog 7 := ⟨_, Tryz.func7, by kernel_rfl, rfl⟩

theorem en8 : Enters Tryz.prog 8 := ⟨_, Tryz.func8, by kernel_rfl, rfl⟩

theorem sum_bdM {l : List Nat} {n : Nat} (h : ∀ a ∈ l, a ≤ n) : l.sum ≤ l.length * n := by
 induction l with
 | nil => simp
 | cons a l ih =>
  have := ih fun b hb => h b (List.mem_cons_of_mem _ hb)
  have := h a (List.mem_cons_self ..)
  rw [List.sum_cons, List.length_cons, Nat.add_mul]; omega

theorem frm_v {x : Stg} (h : frmB x = true) : StgV x := by
 unfold frmB at h; simp only [Bool.and_eq_true] at h; exact stg_v h.1

theorem parI_v (u : List UInt8) : (parI u).1 = stg0 ∨ StgV (parI u).1 := by
  unfold parI
  split
  · rename_i h
    unfold accI at h
    simp only [Bool.and_eq_true] at h
    exact .inr (frm_v h.2.2.2.1)
  · exact .inl rfl

theorem bulk_bd {τ : Type} {f : τ → Nat} {xs : List τ} {n : Nat} (h : ∀ x ∈ xs, f x ≤ n) : bulkF f xs ≤ xs.length + xs.length * n := by
 have := sum_bdM (l := xs.map f) (n := n) (fun a ha => by obtain ⟨x, hx, rfl⟩ := List.mem_map.1 ha; exact h x hx)
 rw [List.length_map] at this
 unfold bulkF; omega

theorem par_facts (u : List UInt8) : XSm (parI u).1 ∧ bulkF Tra.bulk (parI u).1.trans ≤ 1048576 ∧ bulkF Sgn.bulk (parI u).1.sigs ≤ 1048576 ∧ bulkF Lab.bulk (parI u).1.labs ≤ 1048576 := by
  rcases parI_v u with h | h
  · rw [h]
    refine ⟨⟨⟨Nat.zero_le _, fun r hr => by simp [stg0] at hr⟩, Nat.zero_le _, Nat.zero_le _⟩, ?_, ?_, ?_⟩ <;> simp [stg0, bulkF]
  · have v1 := h.t24; have v2 := h.s8; have v3 := h.lab
    refine ⟨⟨⟨v1, fun r hr => (h.tra r hr).2.2⟩, by omega, by omega⟩, ?_, ?_, ?_⟩
    · have := bulk_bd (f := Tra.bulk) (xs := (parI u).1.trans) (n := 200) (fun t ht => by
        have := (h.tra t ht).2.2
        have e1 : ∀ l : List Int, bulkF (fun _ => 0) l = l.length := fun l => by unfold bulkF; rw [sum_zero (fun _ => rfl)]; rfl
        unfold Tra.bulk; rw [e1, e1]; omega)
      omega
    · have := bulk_bd (f := Sgn.bulk) (xs := (parI u).1.sigs) (n := 6) (fun y hy => by have := (h.nam y hy).2.1; unfold Sgn.bulk; omega)
      omega
    · have := bulk_bd (f := Lab.bulk) (xs := (parI u).1.labs) (n := 0) (fun y hy => by unfold Lab.bulk; omega)
      omega

theorem xmk_sm {k : Nat} {x : Stg} (h : XSm x) : XSm (xmk k x) := ⟨tmk_sm h.t, by simp only [xmk, smk_len]; exact h.s, by simp only [xmk, lmk_len]; exact h.l⟩

theorem tml_tmk (k : Nat) (xs : List Tra) : tml (tmk k xs) (tmk k xs).length = tml xs xs.length := by rw [tmk_len]; exact tmk_tml k xs _ (Nat.le_refl _)

theorem xmk_h1 (k : Nat) (x : Stg) : THeld (xmk k x).trans k := tmk_held _ _

theorem xmk_h2 (k : Nat) (x : Stg) : SHeld (xmk k x).sigs (k + tml (xmk k x).trans (xmk k x).trans.length) := by
 simp only [xmk]; rw [tml_tmk]; exact smk_held _ _

theorem xmk_h3 (k : Nat) (x : Stg) : LHeld (xmk k x).labs (k + tml (xmk k x).trans (xmk k x).trans.length + 2 * (xmk k x).sigs.length) := by
 simp only [xmk]; rw [tml_tmk, smk_len]; exact lmk_held _ _

theorem xmk_ml (k : Nat) (x : Stg) : xml (xmk k x) = xml x := by
 unfold xml; simp only [xmk]; rw [tml_tmk, smk_len, lmk_len]

set_option maxHeartbeats 1000000 in
theorem sp_lawsH_FnExactParseArcs (u : List UInt8) (hpe : parI u = parS u) : SpQ (fun S w _ => DRs S w [(.ref (.agg (kwL.map D.str)))] [(.pointer (some ⟨0, 0, none⟩))] []) Tryz.prog 3 [(.str u)] [.any] (.bool true) := by
 refine SpG_intro Tryz.func3 rfl [900001] rfl rfl rfl (fun c hc => ?_)
 refine Ts hc (Ch.s (dB false) pa (Ch.nil (Tq (Ts hc (Ch.s (dS u) pm ?_)))))
 refine Ch.s (dI (u.length : Int)) (.pure (.lenStr _ _ rfl Tryz.underlying9 rfl)) (Ch.s (dB (decide (1048576 < (u.length : Int)))) (iX rfl rfl rfl) (Ch.nil ?_))
 refine T_condD (p := (1048576 < (u.length : Int))) rfl (fun h1 => ?_) (fun h1 => ?_)
 ·
  try have hml : xml (Stg.mk (parI u).1.places (xmk 1 (parI u).1).trans (xmk 1 (parI u).1).sigs (xmk 1 (parI u).1).labs (parI u).1.start) = xml (parI u).1 := xmk_ml 1 _
  skip
  try have hpf := par_facts u
  try have hx := hpf.1
  try have hb1 := hpf.2.1
  try have hb2 := hpf.2.2.1
  try have hb3 := hpf.2.2.2
  try have hq1 := tmk_held 1 (parI u).1.trans
  refine Ts hc (Ch.s (dB true) pa (Ch.nil (T_ret ?_)))
  exact eR [(dB true)] [] [] (.cons (.tmp 2 rfl) .nil) eA (.d _)
 ·
  try have hml : xml (Stg.mk (parI u).1.places (xmk 1 (parI u).1).trans (xmk 1 (parI u).1).sigs (xmk 1 (parI u).1).labs (parI u).1.start) = xml (parI u).1 := xmk_ml 1 _
  skip
  try have hpf := par_facts u
  try have hx := hpf.1
  try have hb1 := hpf.2.1
  try have hb2 := hpf.2.2.1
  try have hb3 := hpf.2.2.2
  try have hq1 := tmk_held 1 (parI u).1.trans
  refine Tk (Ts hc (Ch.s (dS u) pm ?_))
  refine Ch.step (v := (.tup [(.agg [(dI (((parS u).1).places)), (.row 16000), (.row 16001), (.row 16002), (dS (((parS u).1).start))]), (dB ((parS u).2))])) rfl (.call 16000 4 _ _ _ en4 rfl (.inl rfl) (.cons (.d _) .nil) rfl (sol a78 rfl) (sp_spec_ParseArcs u a7) (.skip _ _ .nil) rfl) rfl rfl ?_
  refine Ch.s (.tup [(.agg [(dI (((parS u).1).places)), (.row 16000), (.row 16001), (.row 16002), (dS (((parS u).1).start))]), (dB ((parS u).2))]) pm (Ch.s (.agg [(dI (((parS u).1).places)), (.row 16000), (.row 16001), (.row 16002), (dS (((parS u).1).start))]) (xT rfl rfl) (Ch.s (dB ((parS u).2)) (xT rfl rfl) (Ch.s (.ptr 3000 0) (.alloc 3000 _ rfl zer28) (Ch.s .junk (.storePtr _ _ _ rfl rfl rfl (.agg _ rfl) sz28 (lb rfl)) (Ch.s (dB ((parS u).2)) pa (Ch.nil (Tq ?_)))))))
  refine Tz hc (Ch.s (dS u) pm ?_)
  refine Ch.step (v := (.tup [(.agg [(dI (((parI u).1).places)), (.row 21000), (.row 21001), (.row 21002), (dS (((parI u).1).start))]), (dB ((parI u).2))])) rfl (.callG (ms := [900001]) 21000 5 _ _ _ en5 rfl (.inl rfl) (.cons (.d _) .nil) rfl (sol a78 rfl) (sp_impl_ParseArcs u a7) ⟨rfl, trivial⟩ (.skip _ _ .nil) rfl) rfl rfl ?_
  refine Ch.s (.tup [(.agg [(dI (((parI u).1).places)), (.row 21000), (.row 21001), (.row 21002), (dS (((parI u).1).start))]), (dB ((parI u).2))]) pm (Ch.s (.agg [(dI (((parI u).1).places)), (.row 21000), (.row 21001), (.row 21002), (dS (((parI u).1).start))]) (xT rfl rfl) (Ch.s (dB ((parI u).2)) (xT rfl rfl) (Ch.s (.ptr 5000 0) (.alloc 5000 _ rfl zer28) (Ch.s .junk (.storePtr _ _ _ rfl rfl rfl (.agg _ rfl) sz28 (lb rfl)) (Ch.s (dB ((parI u).2)) pa (Ch.nil (Tq ?_)))))))
  refine Ts hc (Ch.s (.agg [(dI (((parI u).1).places)), (.row 21000), (.row 21001), (.row 21002), (dS (((parI u).1).start))]) (lA ag28 sz28 rfl rfl (lb rfl) rfl) (Ch.s (.agg [(dI (((parS u).1).places)), (.row 16000), (.row 16001), (.row 16002), (dS (((parS u).1).start))]) (lA ag28 sz28 rfl rfl (lb rfl) rfl) (Ch.s (dB (decide (((parI u).1) = ((parS u).1)))) (.call 26000 6 _ _ _ en6 rfl (.inl rfl) (.cons (.lend (.agg (.cons (.d _) (.cons (.row rfl (frozs_to Tra.fz _)) (.cons (.row rfl (frozs_map (fun _ => rfl) _)) (.cons (.row rfl (frozs_map (fun _ => rfl) _)) (.cons (.d _) .nil))))) rfl)) (.cons (.lend (.agg (.cons (.d _) (.cons (.row rfl (frozs_to Tra.fz _)) (.cons (.row rfl (frozs_map (fun _ => rfl) _)) (.cons (.row rfl (frozs_map (fun _ => rfl) _)) (.cons (.d _) .nil))))) rfl)) .nil)) rfl rfl (sp_eqStg ((parI u).1) ((parS u).1) (by assumption) (by assumption) (by assumption)) (.skip _ _ (.skip _ _ .nil)) rfl) (Ch.s (dB (!(decide (((parI u).1) = ((parS u).1))))) (nT rfl) (Ch.s (dB (!(decide (((parI u).1) = ((parS u).1))))) pm ?_)))))
  cases h2 : (decide (((parI u).1) = ((parS u).1))) with
  | true =>
   replace h2 := odt h2
   refine Ch.s (dB ((parI u).2)) pm (Ch.s (dB ((parS u).2)) pm (Ch.s (dB (!(decide (((parI u).2) = ((parS u).2))))) (.pure (.neB _ _ _ _ rfl Tryz.underlying4 rfl rfl)) (Ch.s (dB (!(decide (((parI u).2) = ((parS u).2))))) (pF rfl) (Ch.nil ?_))))
   refine T_condN (b := (decide (((parI u).2) = ((parS u).2)))) rfl (fun h3 => ?_) (fun h3 => ?_)
   ·
    replace h3 := odf h3
    refine Ts hc (Ch.s (dB false) pa (Ch.nil (T_ret ?_)))
    exact eR [(dB false)] [] [] (.cons (.tmp 2 rfl) .nil) eA (Exp.of (congrArg D.bool a58) (.d _))
   ·
    replace h3 := odt h3
    refine Tk (Ts hc (Ch.s (dI 1) pa (Ch.nil (Ts hc (Ch.s (.agg [(dI (((parI u).1).places)), (.row 21000), (.row 21001), (.row 21002), (dS (((parI u).1).start))]) (lA ag28 sz28 rfl rfl (lb rfl) rfl) ?_)))))
    refine Ch.s (dI 1) pm ?_
    refine Ch.step (v := (dI ((1 + xml ((parI u).1) : Nat) : Int))) rfl (.call 35000 7 _ _ _ en7 rfl (.inl rfl) (.cons (.agg (.cons (.d _) (.cons (.row rfl) (.cons (.row rfl) (.cons (.row rfl) (.cons (.d _) .nil))))) rfl) (.cons (.d _) .nil)) rfl (sol rfl (solids_c (Stg.sol _) rfl)) (sp_markStg ((parI u).1) 1 (by assumption) a94) (.agg (.skip _ _ (.row _ _ _ (.row _ _ _ (.row _ _ _ (.skip _ _ .nil))))) (.skip _ _ .nil)) rfl) rfl rfl ?_
    refine Ch.s (dI ((1 + xml ((parI u).1) : Nat) : Int)) pa (Ch.nil (Ts hc (Ch.s (dI 1) pa (Ch.nil (Tq (Tz hc ?_))))))
    refine Ch.s (.agg [(dI (((parI u).1).places)), (.row 21000), (.row 21001), (.row 21002), (dS (((parI u).1).start))]) (lA ag28 sz28 rfl rfl (lb rfl) rfl) (Ch.s (dI 1) pm (Ch.s (dI ((1 + xml (Stg.mk (((parI u).1).places) ((xmk 1 ((parI u).1)).trans) ((xmk 1 ((parI u).1)).sigs) ((xmk 1 ((parI u).1)).labs) (((parI u).1).start)) : Nat) : Int)) (.call 38000 8 _ _ _ en8 rfl (.inl rfl) (.cons (.lend (.agg (.cons (.d _) (.cons (.row rfl (frozs_to Tra.fz _)) (.cons (.row rfl (frozs_map (fun _ => rfl) _)) (.cons (.row rfl (frozs_map (fun _ => rfl) _)) (.cons (.d _) .nil))))) rfl)) (.cons (.d _) .nil)) rfl rfl (sp_heldStg (Stg.mk (((parI u).1).places) ((xmk 1 ((parI u).1)).trans) ((xmk 1 ((parI u).1)).sigs) ((xmk 1 ((parI u).1)).labs) (((parI u).1).start)) 1 (by first | assumption | exact xmk_sm hx) a94 (by first | assumption | exact xmk_h1 _ _) (by first | assumption | exact xmk_h2 _ _) (by first | assumption | exact xmk_h3 _ _)) (.skip _ _ (.skip _ _ .nil)) rfl) (Ch.s (dI ((1 + xml (Stg.mk (((parI u).1).places) ((xmk 1 ((parI u).1)).trans) ((xmk 1 ((parI u).1)).sigs) ((xmk 1 ((parI u).1)).labs) (((parI u).1).start)) : Nat) : Int)) pa (Ch.nil (Tq (Tq (Tz hc ?_)))))))
    refine Ch.s (dI ((1 + xml (Stg.mk (((parI u).1).places) ((xmk 1 ((parI u).1)).trans) ((xmk 1 ((parI u).1)).sigs) ((xmk 1 ((parI u).1)).labs) (((parI u).1).start)) : Nat) : Int)) pm (Ch.s (dB (decide (((1 + xml (Stg.mk (((parI u).1).places) ((xmk 1 ((parI u).1)).trans) ((xmk 1 ((parI u).1)).sigs) ((xmk 1 ((parI u).1)).labs) (((parI u).1).start)) : Nat) : Int) < 0))) (iX rfl rfl rfl) (Ch.nil ?_))
    refine T_condD (p := (((1 + xml (Stg.mk (((parI u).1).places) ((xmk 1 ((parI u).1)).trans) ((xmk 1 ((parI u).1)).sigs) ((xmk 1 ((parI u).1)).labs) (((parI u).1).start)) : Nat) : Int) < 0)) rfl (fun h4 => ?_) (fun h4 => ?_)
    ·
     refine Ts hc (Ch.s (dB false) pa (Ch.nil (T_ret ?_)))
     exact eR [(dB false)] [] [] (.cons (.tmp 2 rfl) .nil) eA (Exp.of (congrArg D.bool a58) (.d _))
    ·
     refine Tk (Tq (Ts hc (Ch.s (dI ((1 + xml (Stg.mk (((parI u).1).places) ((xmk 1 ((parI u).1)).trans) ((xmk 1 ((parI u).1)).sigs) ((xmk 1 ((parI u).1)).labs) (((parI u).1).start)) : Nat) : Int)) pm (Ch.s (dI ((1 + xml ((parI u).1) : Nat) : Int)) pm (Ch.s (dB (!(decide (((1 + xml (Stg.mk (((parI u).1).places) ((xmk 1 ((parI u).1)).trans) ((xmk 1 ((parI u).1)).sigs) ((xmk 1 ((parI u).1)).labs) (((parI u).1).start)) : Nat) : Int) = ((1 + xml ((parI u).1) : Nat) : Int))))) (iX rfl rfl rfl) (Ch.nil ?_))))))
     refine T_condN (b := (decide (((1 + xml (Stg.mk (((parI u).1).places) ((xmk 1 ((parI u).1)).trans) ((xmk 1 ((parI u).1)).sigs) ((xmk 1 ((parI u).1)).labs) (((parI u).1).start)) : Nat) : Int) = ((1 + xml ((parI u).1) : Nat) : Int)))) rfl (fun h5 => ?_) (fun h5 => ?_)
     ·
      replace h5 := odf h5
      refine Ts hc (Ch.s (dB false) pa (Ch.nil (T_ret ?_)))
      exact eR [(dB false)] [] [] (.cons (.tmp 2 rfl) .nil) eA (Exp.of (congrArg D.bool a58) (.d _))
     ·
      replace h5 := odt h5
      refine Tk (Ts hc (Ch.s (dS u) pm ?_))
      refine Ch.step (v := (.tup [(.agg [(dI (((parI u).1).places)), (.row 46000), (.row 46001), (.row 46002), (dS (((parI u).1).start))]), (dB ((parI u).2))])) rfl (.callG (ms := [900001]) 46000 5 _ _ _ en5 rfl (.inl rfl) (.cons (.d _) .nil) rfl (sol a78 rfl) (sp_impl_ParseArcs u a7) ⟨rfl, trivial⟩ (.skip _ _ .nil) rfl) rfl rfl ?_
      refine Ch.s (.tup [(.agg [(dI (((parI u).1).places)), (.row 46000), (.row 46001), (.row 46002), (dS (((parI u).1).start))]), (dB ((parI u).2))]) pm (Ch.s (.agg [(dI (((parI u).1).places)), (.row 46000), (.row 46001), (.row 46002), (dS (((parI u).1).start))]) (xT rfl rfl) (Ch.s (dB ((parI u).2)) (xT rfl rfl) (Ch.s (.ptr 9000 0) (.alloc 9000 _ rfl zer28) (Ch.s .junk (.storePtr _ _ _ rfl rfl rfl (.agg _ rfl) sz28 (lb rfl)) (Ch.s (dB ((parI u).2)) pa (Ch.nil (Tq ?_)))))))
      refine Ts hc (Ch.s (.agg [(dI (((parI u).1).places)), (.row 46000), (.row 46001), (.row 46002), (dS (((parI u).1).start))]) (lA ag28 sz28 rfl rfl (lb rfl) rfl) (Ch.s (.agg [(dI (((parS u).1).places)), (.row 16000), (.row 16001), (.row 16002), (dS (((parS u).1).start))]) (lA ag28 sz28 rfl rfl (lb rfl) rfl) (Ch.s (dB (decide (((parI u).1) = ((parS u).1)))) (.call 51000 6 _ _ _ en6 rfl (.inl rfl) (.cons (.lend (.agg (.cons (.d _) (.cons (.row rfl (frozs_to Tra.fz _)) (.cons (.row rfl (frozs_map (fun _ => rfl) _)) (.cons (.row rfl (frozs_map (fun _ => rfl) _)) (.cons (.d _) .nil))))) rfl)) (.cons (.lend (.agg (.cons (.d _) (.cons (.row rfl (frozs_to Tra.fz _)) (.cons (.row rfl (frozs_map (fun _ => rfl) _)) (.cons (.row rfl (frozs_map (fun _ => rfl) _)) (.cons (.d _) .nil))))) rfl)) .nil)) rfl rfl (sp_eqStg ((parI u).1) ((parS u).1) (by assumption) (by assumption) (by assumption)) (.skip _ _ (.skip _ _ .nil)) rfl) (Ch.s (dB (!(decide (((parI u).1) = ((parS u).1))))) (nT rfl) (Ch.s (dB (!(decide (((parI u).1) = ((parS u).1))))) pm ?_)))))
      cases h6 : (decide (((parI u).1) = ((parS u).1))) with
      | true =>
       replace h6 := odt h6
       refine Ch.s (dB ((parI u).2)) pm (Ch.s (dB ((parS u).2)) pm (Ch.s (dB (!(decide (((parI u).2) = ((parS u).2))))) (.pure (.neB _ _ _ _ rfl Tryz.underlying4 rfl rfl)) (Ch.s (dB (!(decide (((parI u).2) = ((parS u).2))))) (pF rfl) (Ch.nil ?_))))
       refine T_condN (b := (decide (((parI u).2) = ((parS u).2)))) rfl (fun h7 => ?_) (fun h7 => ?_)
       ·
        replace h7 := odf h7
        refine Ts hc (Ch.s (dB false) pa (Ch.nil (T_ret ?_)))
        exact eR [(dB false)] [] [] (.cons (.tmp 2 rfl) .nil) eA (Exp.of (congrArg D.bool a58) (.d _))
       ·
        replace h7 := odt h7
        refine Tk (Ts hc (Ch.s (dI 1) pa (Ch.nil (Ts hc (Ch.s (.agg [(dI (((parI u).1).places)), (.row 21000), (.row 21001), (.row 21002), (dS (((parI u).1).start))]) (lA ag28 sz28 rfl rfl (lb rfl) rfl) ?_)))))
        refine Ch.s (dI 1) pm (Ch.s (dI ((1 + xml (Stg.mk (((parI u).1).places) ((xmk 1 ((parI u).1)).trans) ((xmk 1 ((parI u).1)).sigs) ((xmk 1 ((parI u).1)).labs) (((parI u).1).start)) : Nat) : Int)) (.call 60000 8 _ _ _ en8 rfl (.inl rfl) (.cons (.lend (.agg (.cons (.d _) (.cons (.row rfl (frozs_to Tra.fz _)) (.cons (.row rfl (frozs_map (fun _ => rfl) _)) (.cons (.row rfl (frozs_map (fun _ => rfl) _)) (.cons (.d _) .nil))))) rfl)) (.cons (.d _) .nil)) rfl rfl (sp_heldStg (Stg.mk (((parI u).1).places) ((xmk 1 ((parI u).1)).trans) ((xmk 1 ((parI u).1)).sigs) ((xmk 1 ((parI u).1)).labs) (((parI u).1).start)) 1 (by first | assumption | exact xmk_sm hx) a94 (by first | assumption | exact xmk_h1 _ _) (by first | assumption | exact xmk_h2 _ _) (by first | assumption | exact xmk_h3 _ _)) (.skip _ _ (.skip _ _ .nil)) rfl) (Ch.s (dI ((1 + xml (Stg.mk (((parI u).1).places) ((xmk 1 ((parI u).1)).trans) ((xmk 1 ((parI u).1)).sigs) ((xmk 1 ((parI u).1)).labs) (((parI u).1).start)) : Nat) : Int)) pa (Ch.nil (Tq (Ts hc (Ch.s (dI ((1 + xml (Stg.mk (((parI u).1).places) ((xmk 1 ((parI u).1)).trans) ((xmk 1 ((parI u).1)).sigs) ((xmk 1 ((parI u).1)).labs) (((parI u).1).start)) : Nat) : Int)) pm ?_))))))
        refine Ch.s (dB (decide (((1 + xml (Stg.mk (((parI u).1).places) ((xmk 1 ((parI u).1)).trans) ((xmk 1 ((parI u).1)).sigs) ((xmk 1 ((parI u).1)).labs) (((parI u).1).start)) : Nat) : Int) < 0))) (iX rfl rfl rfl) (Ch.nil ?_)
        refine T_condD (p := (((1 + xml (Stg.mk (((parI u).1).places) ((xmk 1 ((parI u).1)).trans) ((xmk 1 ((parI u).1)).sigs) ((xmk 1 ((parI u).1)).labs) (((parI u).1).start)) : Nat) : Int) < 0)) rfl (fun h8 => ?_) (fun h8 => ?_)
        ·
         refine Ts hc (Ch.s (dB false) pa (Ch.nil (T_ret ?_)))
         exact eR [(dB false)] [] [] (.cons (.tmp 2 rfl) .nil) eA (Exp.of (congrArg D.bool a58) (.d _))
        ·
         refine Tk (Tq (Ts hc (Ch.s (dI ((1 + xml (Stg.mk (((parI u).1).places) ((xmk 1 ((parI u).1)).trans) ((xmk 1 ((parI u).1)).sigs) ((xmk 1 ((parI u).1)).labs) (((parI u).1).start)) : Nat) : Int)) pm (Ch.s (dI ((1 + xml ((parI u).1) : Nat) : Int)) pm (Ch.s (dB (!(decide (((1 + xml (Stg.mk (((parI u).1).places) ((xmk 1 ((parI u).1)).trans) ((xmk 1 ((parI u).1)).sigs) ((xmk 1 ((parI u).1)).labs) (((parI u).1).start)) : Nat) : Int) = ((1 + xml ((parI u).1) : Nat) : Int))))) (iX rfl rfl rfl) (Ch.nil ?_))))))
         refine T_condN (b := (decide (((1 + xml (Stg.mk (((parI u).1).places) ((xmk 1 ((parI u).1)).trans) ((xmk 1 ((parI u).1)).sigs) ((xmk 1 ((parI u).1)).labs) (((parI u).1).start)) : Nat) : Int) = ((1 + xml ((parI u).1) : Nat) : Int)))) rfl (fun h9 => ?_) (fun h9 => ?_)
         ·
          replace h9 := odf h9
          refine Ts hc (Ch.s (dB false) pa (Ch.nil (T_ret ?_)))
          exact eR [(dB false)] [] [] (.cons (.tmp 2 rfl) .nil) eA (Exp.of (congrArg D.bool a58) (.d _))
         ·
          replace h9 := odt h9
          refine Tk (Ts hc (Ch.s (dB true) pa (Ch.nil (T_ret ?_))))
          exact eR [(dB true)] [] [] (.cons (.tmp 2 rfl) .nil) eA (.d _)
      | false =>
       replace h6 := odf h6
       refine Ck (Ck (Ck (Ch.s (dB true) (pT rfl) (Ch.nil ?_))))
       refine T_cond (b := true) rfl (fun _ => ?_) (fun h => nomatch h)
       refine Ts hc (Ch.s (dB false) pa (Ch.nil (T_ret ?_)))
       exact eR [(dB false)] [] [] (.cons (.tmp 2 rfl) .nil) eA (Exp.of (congrArg D.bool a58) (.d _))
  | false =>
   replace h2 := odf h2
   refine Ck (Ck (Ck (Ch.s (dB true) (pT rfl) (Ch.nil ?_))))
   refine T_cond (b := true) rfl (fun _ => ?_) (fun h => nomatch h)
   refine Ts hc (Ch.s (dB false) pa (Ch.nil (T_ret ?_)))
   exact eR [(dB false)] [] [] (.cons (.tmp 2 rfl) .nil) eA (Exp.of (congrArg D.bool a58) (.d _))

def wch (c : UInt8) : Bool := letB c || digB c

theorem name_ch {u : List UInt8} (h : nameB u = true) : ∀ c ∈ u, wch c = true := by
  intro c hc
  unfold nameB at h
  simp only [Bool.and_eq_true] at h
  obtain ⟨j, hj, rfl⟩ := List.mem_iff_getElem.1 hc
  have := allB_true.1 h.1 j hj
  unfold nameCh at this
  simp only [List.getD_eq_getElem?_getD, List.getElem?_eq_getElem hj, Option.getD_some, Bool.or_eq_true, Bool.and_eq_true] at this
  unfold wch
  rcases this with h1 | h1
  · rw [h1]; rfl
  · rw [h1.1]; simp

theorem splB_app {a v : List UInt8} {b : UInt8} (h : b ∉ a) : splB (a ++ b :: v) b = a :: splB v b := by
 induction a with
 | nil => simp [splB]
 | cons x a ih =>
  have hx : ¬ x = b := fun e => h (by simp [e])
  rw [List.cons_append, splB, if_neg hx, ih (fun hm => h (by simp [hm]))]; rfl

theorem splB_one {a : List UInt8} {b : UInt8} (h : b ∉ a) : splB a b = [a] := count0_spl (List.count_eq_zero.2 h)

theorem numS_ch (n : Nat) (h : n < 100) : ∀ c ∈ numS n, digB c = true := by
 have : ∀ n, n < 100 → (numS n).all digB = true := by decide +kernel
 exact List.all_eq_true.1 (this n h)

theorem edgT_ch {x : Stg} (hv : StgV x) {l : Lab} (hl : l.sig.toNat < x.sigs.length) : 10 ∉ edgT x.sigs l ∧ 32 ∉ edgT x.sigs l ∧ 47 ∉ edgT x.sigs l := by
  have hn := name_ch (hv.nam _ (getD_mem (l := x.sigs) (d := default) hl)).1
  have g : ∀ c, wch c = false → c ∉ (x.sigs.getD l.sig.toNat default).name := fun c hc hm => by have := hn c hm; rw [hc] at this; cases this
  have g1 := g 10 (by decide); have g2 := g 32 (by decide); have g3 := g 47 (by decide)
  unfold edgT
  split
  · decide
  · split <;> (simp only [List.mem_append, List.mem_cons, List.not_mem_nil, or_false, not_or]; exact ⟨⟨g1, by decide⟩, ⟨g2, by decide⟩, ⟨g3, by decide⟩⟩)

theorem digB_ne {c : UInt8} (h : digB c = true) : c ≠ 10 ∧ c ≠ 32 ∧ c ≠ 47 := by
  refine ⟨?_, ?_, ?_⟩ <;> (intro e; subst e; revert h; decide)

theorem trnT_ch {x : Stg} (hv : StgV x) {t : Nat} (ht : t < x.trans.length) : 10 ∉ trnT x.sigs x.labs t ∧ 32 ∉ trnT x.sigs x.labs t := by
  have hl := (hv.edg _ (getD_mem (l := x.labs) (j := t) (d := default) (by rw [hv.lab]; exact ht))).2
  obtain ⟨e1, e2, _⟩ := edgT_ch hv hl
  have hc := cntL_le x.labs (x.labs.getD t default) t
  have h24 := hv.t24
  have hd := numS_ch (cntL x.labs (x.labs.getD t default) t + 1) (by omega)
  have d1 : 10 ∉ numS (cntL x.labs (x.labs.getD t default) t + 1) := fun hm => (digB_ne (hd _ hm)).1 rfl
  have d2 : 32 ∉ numS (cntL x.labs (x.labs.getD t default) t + 1) := fun hm => (digB_ne (hd _ hm)).2.1 rfl
  unfold trnT
  split
  · simp only [List.mem_append, List.mem_cons, List.not_mem_nil, or_false, not_or]
    exact ⟨⟨e1, by decide, d1⟩, ⟨e2, by decide, d2⟩⟩
  · rw [List.append_nil]; exact ⟨e1, e2⟩

theorem trnT_cut {x : Stg} (hv : StgV x) {t : Nat} (ht : t < x.trans.length) : cutS (trnT x.sigs x.labs t) 47 = edgT x.sigs (x.labs.getD t default) := by
  have hl := (hv.edg _ (getD_mem (l := x.labs) (j := t) (d := default) (by rw [hv.lab]; exact ht))).2
  obtain ⟨_, _, e3⟩ := edgT_ch hv hl
  unfold cutS trnT
  split
  · rw [List.singleton_append, splB_app e3]; rfl
  · rw [List.append_nil, splB_one e3]; rfl

theorem name_pos {u : List UInt8} (h : nameB u = true) : 1 ≤ u.length := by
 unfold nameB at h
 simp only [Bool.and_eq_true] at h
 have := h.2; unfold withinB at this
 simp only [Bool.and_eq_true, decide_eq_true_iff] at this; omega

theorem ixF_has {τ : Type} {p : τ → Bool} {l : List τ} (h : ∃ y ∈ l, p y = true) : 0 ≤ ixF p l := by
 unfold ixF; rw [if_pos (List.any_eq_true.2 h)]; omega

theorem lab_both {x : Stg} (hv : StgV x) {l : Lab} (hl : l.sig.toNat < x.sigs.length) {sg : List Sgn} (hs : ∀ y ∈ x.sigs, ∃ z ∈ sg, z.name = y.name) : labO sg (edgT x.sigs l) = (labS sg (edgT x.sigs l), true) ∧ badS sg (edgT x.sigs l) = false := by
  have hm := getD_mem (l := x.sigs) (d := default) hl
  have hp := name_pos (hv.nam _ hm).1
  obtain ⟨z, hz, hz2⟩ := hs _ hm
  by_cases h0 : l.sig < 0
  · have e : edgT x.sigs l = [126] := by unfold edgT; rw [if_pos h0]
    rw [e]
    exact ⟨by rw [labO_t rfl, labS_t rfl], bad_3 rfl⟩
  · obtain ⟨c, hc, e⟩ : ∃ c : UInt8, (c = 43 ∨ c = 45) ∧ edgT x.sigs l = (x.sigs.getD l.sig.toNat default).name ++ [c] := by
      unfold edgT; rw [if_neg h0]
      split
      · exact ⟨43, .inl rfl, rfl⟩
      · exact ⟨45, .inr rfl, rfl⟩
    have h1 : ¬ (x.sigs.getD l.sig.toNat default).name ++ [c] = [126] := fun h => by
      have := congrArg List.length h; simp only [List.length_append, List.length_cons, List.length_nil] at this; omega
    have h2 : ((x.sigs.getD l.sig.toNat default).name ++ [c]).length - 1 = (x.sigs.getD l.sig.toNat default).name.length := by simp
    have h3 : ((x.sigs.getD l.sig.toNat default).name ++ [c]).getD (((x.sigs.getD l.sig.toNat default).name ++ [c]).length - 1) 0 = c := by rw [h2]; simp
    have h4 : ((x.sigs.getD l.sig.toNat default).name ++ [c]).take (((x.sigs.getD l.sig.toNat default).name ++ [c]).length - 1) = (x.sigs.getD l.sig.toNat default).name := by rw [h2]; simp
    have h5 : 0 ≤ ixF (fun y : Sgn => decide (y.name = (x.sigs.getD l.sig.toNat default).name)) sg := ixF_has ⟨z, hz, decide_eq_true hz2⟩
    rw [e]
    refine ⟨?_, bad_4 a59 (by rw [h4]; omega)⟩
    rw [labO_y h1 a59 (by rw [h3]; exact hc), labS_n h1, h4, decide_eq_true h5]

theorem trn_same {r : Rdr} {q : Rds} (hst : q.st = r.st) (hw : q.words = r.words) {u : List UInt8} (hl : labO r.st.sigs (cutS u 47) = (labS r.st.sigs (cutS u 47), true)) (hb : badS r.st.sigs (cutS u 47) = false) :
    (trnS q u).1.st = (trnI r u).1.st ∧ (trnS q u).1.words = (trnI r u).1.words ∧ (trnS q u).1.kind = q.kind ∧ (trnS q u).2 = (trnI r u).2.1 ∧ (trnI r u).2.2 = true := by
  unfold trnS trnI
  rw [hst, hw, cutS_get, hb]
  split
  · exact ⟨hst, hw, rfl, rfl, rfl⟩
  · simp [trnM, trnN, hst, hw, hl]
    rw [← cutS_get]; simp

def nK (sg : List Sgn) (k : Nat) : List (List UInt8) := (sg.filter fun y => decide (y.kind = (k : Int))).map Sgn.name

def sp32 (ns : List (List UInt8)) : List UInt8 := ns.flatMap fun u => 32 :: u

def nl10 (ls : List (List UInt8)) : List UInt8 := ls.flatMap fun l => l ++ [10]

def lnK (sg : List Sgn) (k : Nat) : List UInt8 := kwL.getD k default ++ sp32 (nK sg k)

def lnsK (sg : List Sgn) (k : Nat) : List (List UInt8) := if nK sg k = [] then [] else [lnK sg k]

def aL (x : Stg) (p : Nat) : List UInt8 := trnT x.sigs x.labs (hdN (usrN x.trans Tra.post p x.trans.length)) ++ [32] ++ trnT x.sigs x.labs (hdN (usrN x.trans Tra.pre p x.trans.length)) ++ (if x.start.getD p 0 = 49 then [32, 42] else [])

def aLs (x : Stg) : List (List UInt8) := (List.range x.places.toNat).map (aL x)

def lnsA (x : Stg) : List (List UInt8) := lnsK x.sigs 1 ++ (lnsK x.sigs 2 ++ (lnsK x.sigs 3 ++ aLs x))

theorem splB_lines : ∀ {ls : List (List UInt8)}, ls ≠ [] → (∀ l ∈ ls, (10 : UInt8) ∉ l) → splB ((nl10 ls).take ((nl10 ls).length - 1)) 10 = ls := by
  intro ls
  induction ls with
  | nil => intro h; exact absurd rfl h
  | cons a t ih =>
    intro _ h
    have ha := h a (List.mem_cons_self ..)
    rw [← List.dropLast_eq_take]
    by_cases ht : t = []
    · subst ht
      have e : nl10 [a] = a ++ [10] := by simp [nl10]
      rw [e, List.dropLast_concat, splB_one ha]
    · have hn : nl10 t ≠ [] := by
        obtain ⟨b, s, rfl⟩ := List.exists_cons_of_ne_nil ht
        simp [nl10]
      have e : nl10 (a :: t) = (a ++ [10]) ++ nl10 t := by simp [nl10]
      have := ih ht fun l hl => h l (List.mem_cons_of_mem _ hl)
      rw [← List.dropLast_eq_take] at this
      rw [e, List.dropLast_append_of_ne_nil hn, List.append_assoc, List.singleton_append, splB_app ha, this]

theorem nl10_app (a b : List (List UInt8)) : nl10 (a ++ b) = nl10 a ++ nl10 b := by simp [nl10]

theorem sgLn_nK (sg : List Sgn) (k : Nat) : sgLn sg k sg.length = sp32 (nK sg k) := by
 unfold sgLn sp32 nK; rw [List.take_of_length_le (Nat.le_refl _), List.flatMap_map]

theorem sp32_nil {ns : List (List UInt8)} : sp32 ns = [] ↔ ns = [] := by
  cases ns <;> simp [sp32]

theorem sgK_lns (sg : List Sgn) (k : Nat) : sgK sg k = nl10 (lnsK sg k) := by
  unfold sgK lnsK
  rw [sgLn_nK]
  by_cases h : nK sg k = []
  · rw [if_pos (sp32_nil.2 h), if_pos h]; rfl
  · rw [if_neg (fun e => h (sp32_nil.1 e)), if_neg h]; simp [nl10, lnK]

theorem arcs_lines (x : Stg) : arcsT x = nl10 (lnsA x) := by
 have e1 : sgT x.sigs = nl10 (lnsK x.sigs 1) ++ (nl10 (lnsK x.sigs 2) ++ nl10 (lnsK x.sigs 3)) := by
  unfold sgT
  rw [sgTo_succ, sgTo_succ, sgTo_succ, sgK_lns, sgK_lns, sgK_lns]
  simp [sgTo]
 have e2 : (List.range x.places.toNat).flatMap (arcL x) = nl10 (aLs x) := by
  unfold nl10 aLs; rw [List.flatMap_map]; rfl
 unfold arcsT arcTo lnsA
 rw [e1, e2, nl10_app, nl10_app, nl10_app]; simp

theorem splB_sp : ∀ (ns : List (List UInt8)) (a : List UInt8), (32 : UInt8) ∉ a → (∀ n ∈ ns, (32 : UInt8) ∉ n) → splB (a ++ sp32 ns) 32 = a :: ns := by
 intro ns
 induction ns with
 | nil => intro a ha _; simp only [sp32, List.flatMap_nil, List.append_nil]; exact splB_one ha
 | cons n t ih =>
  intro a ha h
  have e : sp32 (n :: t) = 32 :: (n ++ sp32 t) := by simp [sp32]
  rw [e, splB_app ha, ih n (h n (List.mem_cons_self ..)) fun m hm => h m (List.mem_cons_of_mem _ hm)]

theorem kw_ch : ∀ k, k < 4 → (10 : UInt8) ∉ kwL.getD k default ∧ (32 : UInt8) ∉ kwL.getD k default ∧ (43 : UInt8) ∉ kwL.getD k default ∧ (45 : UInt8) ∉ kwL.getD k default ∧ (126 : UInt8) ∉ kwL.getD k default := by decide +kernel

theorem kw_inj : ∀ i, i < 4 → ∀ j, j < 4 → kwL.getD i default = kwL.getD j default → i = j := by decide +kernel

theorem preB_app (p v : List UInt8) : preB (p ++ v) p = true := by unfold preB; simp

theorem cutP_app (p v : List UInt8) : cutP (p ++ v) p = v := by rw [cutP, if_pos (preB_app p v)]; simp

theorem preB_cut {v : List UInt8} {k : Nat} (hk : k < 4) (h : preB v (pfx k) = true) : cutS v 32 = kwL.getD k default := by
 have h1 : v.take (pfx k).length = pfx k := by unfold preB at h; exact of_decide_eq_true h
 have e : v = kwL.getD k default ++ 32 :: v.drop (pfx k).length := by
  have := List.take_append_drop (pfx k).length v
  rw [h1] at this
  rw [← this]; simp [pfx]
 unfold cutS
 rw [e, splB_app (kw_ch k hk).2.1]; rfl

theorem preB_not {v : List UInt8} {k : Nat} (hk : k < 4) (h : cutS v 32 ≠ kwL.getD k default) : preB v (pfx k) = false := by
  cases hb : preB v (pfx k)
  · rfl
  · exact absurd (preB_cut hk hb) h

def NmOk (sg : List Sgn) : Prop := ∀ y ∈ sg, (10 : UInt8) ∉ y.name ∧ (32 : UInt8) ∉ y.name

theorem nK_ch {sg : List Sgn} (h : NmOk sg) {k : Nat} : ∀ n ∈ nK sg k, (10 : UInt8) ∉ n ∧ (32 : UInt8) ∉ n := by
 intro n hn
 unfold nK at hn
 obtain ⟨y, hy, rfl⟩ := List.mem_map.1 hn
 exact h y (List.mem_filter.1 hy).1

theorem lnK_spl {sg : List Sgn} (h : NmOk sg) {k : Nat} (hk : k < 4) : splB (lnK sg k) 32 = kwL.getD k default :: nK sg k :=
 splB_sp _ _ (kw_ch k hk).2.1 fun n hn => (nK_ch h n hn).2

theorem lnsK_mem {sg : List Sgn} {k : Nat} {v : List UInt8} (h : v ∈ lnsK sg k) : v = lnK sg k ∧ nK sg k ≠ [] := by
  unfold lnsK at h
  split at h
  · cases h
  · rename_i h2; exact ⟨by simpa using h, h2⟩

theorem lnsK_pre {sg : List Sgn} (h : NmOk sg) {j k : Nat} (hj : j < 4) (hk : k < 4) (hjk : j ≠ k) : ∀ v ∈ lnsK sg j, preB v (pfx k) = false := by
 intro v hv
 obtain ⟨rfl, _⟩ := lnsK_mem hv
 refine preB_not hk ?_
 unfold cutS; rw [lnK_spl h hj]
 exact fun e => hjk (kw_inj j hj k hk e)

theorem rdK_line {sg : List Sgn} (h : NmOk sg) {k : Nat} (hk : k < 4) {S : List Sgn} {rest : List (List UInt8)} (hr : ∀ v ∈ rest, preB v (pfx k) = false) : rdK k (S, lnsK sg k ++ rest) = (S ++ mkS k (nK sg k), rest) := by
  unfold lnsK
  by_cases h0 : nK sg k = []
  · rw [if_pos h0, h0]
    have e : rdK k (S, rest) = (S, rest) := by
      rw [rdK, if_neg]
      rintro ⟨h1, h2⟩
      have := hr _ (getD_mem (l := rest) (j := 0) (d := default) h1)
      rw [show rest.getD 0 default = (S, rest).2.getD 0 default from rfl, h2] at this
      cases this
    simpa [mkS] using e
  · rw [if_neg h0]
    obtain ⟨n, t, e⟩ := List.exists_cons_of_ne_nil h0
    have e2 : lnK sg k = pfx k ++ (n ++ sp32 t) := by unfold lnK pfx; rw [e]; simp [sp32]
    have hc := nK_ch h (k := k)
    have e3 : splB (cutP (lnK sg k) (pfx k)) 32 = nK sg k := by
      rw [e2, cutP_app, splB_sp t n, e]
      · exact (hc n (by rw [e]; exact List.mem_cons_self ..)).2
      · exact fun m hm => (hc m (by rw [e]; exact List.mem_cons_of_mem _ hm)).2
    have hp : preB (lnK sg k) (pfx k) = true := by rw [e2]; exact preB_app _ _
    have e4 : (([lnK sg k] ++ rest).getD 0 default : List UInt8) = lnK sg k := rfl
    rw [rdK, if_pos ⟨by simp, by dsimp only; rw [e4]; exact hp⟩]
    dsimp only
    rw [e4, e3]; rfl

def sgA (sg : List Sgn) : List Sgn := mkS 1 (nK sg 1) ++ (mkS 2 (nK sg 2) ++ mkS 3 (nK sg 3))

theorem rd_all {x : Stg} (h : NmOk x.sigs) (ha : ∀ k, k < 4 → ∀ v ∈ aLs x, preB v (pfx k) = false) : rdTo (lnsA x) 3 = (sgA x.sigs, aLs x) := by
 have g : ∀ {a b : List (List UInt8)} {k : Nat}, (∀ v ∈ a, preB v (pfx k) = false) → (∀ v ∈ b, preB v (pfx k) = false) → ∀ v ∈ a ++ b, preB v (pfx k) = false := fun h1 h2 v hv => (List.mem_append.1 hv).elim (h1 v) (h2 v)
 rw [rdTo_succ, rdTo_succ, rdTo_succ]
 have e0 : rdTo (lnsA x) 0 = ([], lnsA x) := rfl
 rw [e0, lnsA]
 rw [rdK_line h (by decide) (g (lnsK_pre h (by decide) (by decide) (by decide)) (g (lnsK_pre h (by decide) (by decide) (by decide)) (ha 1 (by decide))))]
 rw [rdK_line h (by decide) (g (lnsK_pre h (by decide) (by decide) (by decide)) (ha 2 (by decide)))]
 rw [rdK_line h (by decide) (ha 3 (by decide))]
 simp [sgA]

def ranI : Rdr → List (List UInt8) → Prop
 | _, [] => True
 | r, l :: ls => (arcI r l).2 = true ∧ ranI (arcI r l).1 ls

def endI (r : Rdr) (ls : List (List UInt8)) : Rdr := ls.foldl (fun r l => (arcI r l).1) r

def ranS : Rds → List (List UInt8) → Prop
 | _, [] => True
 | r, l :: ls => (lineS r (splB l 32)).2 = true ∧ ranS (lineS r (splB l 32)).1 ls

def endS (r : Rds) (ls : List (List UInt8)) : Rds := ls.foldl (fun r l => (lineS r (splB l 32)).1) r

theorem iterI_all (r : Rdr) (ls : List (List UInt8)) : iterI r ls ls.length = endI r ls := by unfold iterI endI; rw [List.take_length]

theorem iterS_all (r : Rds) (ls : List (List UInt8)) : iterS r ls ls.length = endS r ls := by unfold iterS endS; rw [List.take_length]

theorem ranI_at : ∀ {ls : List (List UInt8)} {r : Rdr}, ranI r ls → ∀ j, j < ls.length → (arcI (iterI r ls j) (ls.getD j default)).2 = true := by
 intro ls
 induction ls with
 | nil => intro r _ j hj; exact absurd hj (Nat.not_lt_zero _)
 | cons l ls ih =>
  intro r h j hj
  cases j with
  | zero => exact h.1
  | succ j =>
   have := ih h.2 j (by simpa using hj)
   simpa [iterI] using this

theorem ranS_at : ∀ {ls : List (List UInt8)} {r : Rds}, ranS r ls → ∀ j, j < ls.length → (lineS (iterS r ls j) (splB (ls.getD j default) 32)).2 = true := by
 intro ls
 induction ls with
 | nil => intro r _ j hj; exact absurd hj (Nat.not_lt_zero _)
 | cons l ls ih =>
  intro r h j hj
  cases j with
  | zero => exact h.1
  | succ j =>
   have := ih h.2 j (by simpa using hj)
   simpa [iterS] using this

theorem ranS_app : ∀ {a b : List (List UInt8)} {r : Rds}, ranS r a → ranS (endS r a) b → ranS r (a ++ b) := by
 intro a
 induction a with
 | nil => intro b r _ h; exact h
 | cons l a ih => intro b r h h2; exact ⟨h.1, ih h.2 h2⟩

theorem endS_app (r : Rds) (a b : List (List UInt8)) : endS r (a ++ b) = endS (endS r a) b := by unfold endS; rw [List.foldl_append]

/-- A line of signals. -/
theorem run_kind {sg : List Sgn} (h : NmOk sg) {k : Nat} (hk : k < 4) (h1 : 1 ≤ k) {q : Rds} (hq : q.kind < (k : Int)) : ranS q (lnsK sg k) ∧ (endS q (lnsK sg k)).st = ⟨q.st.places, q.st.trans, q.st.sigs ++ mkS k (nK sg k), q.st.labs, q.st.start⟩ ∧ (endS q (lnsK sg k)).words = q.words ∧ (endS q (lnsK sg k)).kind ≤ (k : Int) := by
  unfold lnsK
  by_cases h0 : nK sg k = []
  · rw [if_pos h0, h0]
    refine ⟨trivial, ?_, rfl, ?_⟩
    · simp [endS, mkS]
    · simp only [endS, List.foldl_nil]; omega
  · rw [if_neg h0]
    have hl : 1 ≤ (nK sg k).length := by
      obtain ⟨n, t, e⟩ := List.exists_cons_of_ne_nil h0
      rw [e]; simp
    have hw : wordS q (splB (lnK sg k) 32) = (wNew q (splB (lnK sg k) 32) k, true) := by
      rw [lnK_spl h hk]
      refine wordS_yes hk (fun j hj => ?_) ?_
      · unfold wAt
        rw [decide_eq_false (p := kwL.getD j default = _)]
        · simp
        · exact fun e => absurd (kw_inj j (by omega) k hk e) (by omega)
      · unfold wAt
        rw [decide_eq_false (by omega), decide_eq_true (p := kwL.getD k default = _) (by rfl), decide_eq_true hq, decide_eq_true (by simp only [List.length_cons]; omega)]; rfl
    have hs : lineS q (splB (lnK sg k) 32) = (wNew q (splB (lnK sg k) 32) k, true) := by rw [line_w (by rw [hw]), hw]
    refine ⟨⟨by rw [hs], trivial⟩, ?_, ?_, ?_⟩
    · simp only [endS, List.foldl_cons, List.foldl_nil]; rw [hs, lnK_spl h hk]; rfl
    · simp only [endS, List.foldl_cons, List.foldl_nil]; rw [hs]; rfl
    · simp only [endS, List.foldl_cons, List.foldl_nil]; rw [hs]; exact Int.le_refl _

theorem run_kinds {sg : List Sgn} (h : NmOk sg) : ranS rs0 (lnsK sg 1 ++ (lnsK sg 2 ++ lnsK sg 3)) ∧ (endS rs0 (lnsK sg 1 ++ (lnsK sg 2 ++ lnsK sg 3))).st = ⟨0, [], sgA sg, [], []⟩ ∧ (endS rs0 (lnsK sg 1 ++ (lnsK sg 2 ++ lnsK sg 3))).words = [] := by
  obtain ⟨a1, a2, a3, a4⟩ := run_kind h (k := 1) (by decide) (by decide) (q := rs0) (by decide)
  obtain ⟨b1, b2, b3, b4⟩ := run_kind h (k := 2) (by decide) (by decide) (q := endS rs0 (lnsK sg 1)) (by omega)
  obtain ⟨c1, c2, c3, c4⟩ := run_kind h (k := 3) (by decide) (by decide) (q := endS (endS rs0 (lnsK sg 1)) (lnsK sg 2)) (by omega)
  rw [endS_app, endS_app]
  refine ⟨ranS_app a1 (ranS_app b1 c1), ?_, ?_⟩
  · rw [c2, b2, a2]; simp [rs0, stg0, sgA]
  · rw [c3, b3, a3]; rfl

theorem trnI_0 (r : Rdr) (u : List UInt8) : 0 ≤ (trnI r u).2.1 ∧ (trnI r u).1.st.sigs = r.st.sigs := by
  unfold trnI; split
  · rename_i h; exact ⟨h, rfl⟩
  · exact ⟨by dsimp only; omega, rfl⟩

theorem trnT_sgn {x : Stg} (hv : StgV x) {t : Nat} (ht : t < x.trans.length) : (43 : UInt8) ∈ trnT x.sigs x.labs t ∨ (45 : UInt8) ∈ trnT x.sigs x.labs t ∨ (126 : UInt8) ∈ trnT x.sigs x.labs t := by
  unfold trnT edgT
  split
  · exact .inr (.inr (by simp))
  · split
    · exact .inl (by simp)
    · exact .inr (.inl (by simp))

theorem trnT_kw {x : Stg} (hv : StgV x) {t : Nat} (ht : t < x.trans.length) {k : Nat} (hk : k < 4) : kwL.getD k default ≠ trnT x.sigs x.labs t := by
  intro e
  obtain ⟨_, _, h1, h2, h3⟩ := kw_ch k hk
  rw [e] at h1 h2 h3
  rcases trnT_sgn hv ht with h | h | h
  · exact h1 h
  · exact h2 h
  · exact h3 h

theorem aL_spl {x : Stg} (hv : StgV x) (hm : mrkB x = true) {p : Nat} (hp : p < x.places.toNat) : splB (aL x p) 32 = trnT x.sigs x.labs (hdN (usrN x.trans Tra.post p x.trans.length)) :: trnT x.sigs x.labs (hdN (usrN x.trans Tra.pre p x.trans.length)) :: (if x.start.getD p 0 = 49 then [[42]] else []) := by
  have h := mrk_one hm hp
  have c1 := (trnT_ch hv (hd_lt h.2)).2
  have c2 := (trnT_ch hv (hd_lt h.1)).2
  unfold aL
  split
  · rw [List.append_assoc, List.append_assoc, List.singleton_append, splB_app c1]
    rw [show ([32, 42] : List UInt8) = 32 :: [42] from rfl, splB_app c2]; rfl
  · rw [List.append_nil, List.append_assoc, List.singleton_append, splB_app c1, splB_one c2]

theorem aL_ch {x : Stg} (hv : StgV x) (hm : mrkB x = true) {p : Nat} (hp : p < x.places.toNat) : (10 : UInt8) ∉ aL x p := by
  have h := mrk_one hm hp
  have c1 := (trnT_ch hv (hd_lt h.2)).1
  have c2 := (trnT_ch hv (hd_lt h.1)).1
  unfold aL
  split
  · simp only [List.mem_append, not_or]; exact ⟨⟨⟨c1, by decide⟩, c2⟩, by decide⟩
  · simp only [List.mem_append, not_or]; exact ⟨⟨⟨c1, by decide⟩, c2⟩, by simp⟩

structure Twin (sg : List Sgn) (r : Rdr) (q : Rds) : Prop where
 st : q.st = r.st
 words : q.words = r.words
 sigs : r.st.sigs = sg

theorem arc_step {x : Stg} (hv : StgV x) (hm : mrkB x = true) {p : Nat} (hp : p < x.places.toNat) {sg : List Sgn} (hs : ∀ y ∈ x.sigs, ∃ z ∈ sg, z.name = y.name) {r : Rdr} {q : Rds} (h : Twin sg r q) :
    (arcI r (aL x p)).2 = true ∧ (lineS q (splB (aL x p) 32)).2 = true ∧ Twin sg (arcI r (aL x p)).1 (lineS q (splB (aL x p) 32)).1 := by
  obtain ⟨o1, o2⟩ := mrk_one hm hp
  have t1 := hd_lt o2; have t2 := hd_lt o1
  have e := aL_spl hv hm hp
  generalize hn1 : hdN (usrN x.trans Tra.post p x.trans.length) = n1 at *
  generalize hn2 : hdN (usrN x.trans Tra.pre p x.trans.length) = n2 at *
  have lb : ∀ n, n < x.trans.length → labO sg (cutS (trnT x.sigs x.labs n) 47) = (labS sg (cutS (trnT x.sigs x.labs n) 47), true) ∧ badS sg (cutS (trnT x.sigs x.labs n) 47) = false := by
    intro n hn
    rw [trnT_cut hv hn]
    exact lab_both hv (hv.edg _ (getD_mem (l := x.labs) (j := n) (d := default) (by rw [hv.lab]; exact hn))).2 hs
  have g1 := trnI_0 r (trnT x.sigs x.labs n1)
  obtain ⟨a1, a2, a3, a4, a5⟩ := trn_same (u := trnT x.sigs x.labs n1) h.st h.words (by rw [h.sigs]; exact (lb n1 t1).1) (by rw [h.sigs]; exact (lb n1 t1).2)
  have g2 := trnI_0 (trnI r (trnT x.sigs x.labs n1)).1 (trnT x.sigs x.labs n2)
  have hsg : (trnI r (trnT x.sigs x.labs n1)).1.st.sigs = sg := by rw [g1.2, h.sigs]
  obtain ⟨b1, b2, b3, b4, b5⟩ := trn_same (u := trnT x.sigs x.labs n2) a1 a2 (by rw [hsg]; exact (lb n2 t2).1) (by rw [hsg]; exact (lb n2 t2).2)
  generalize hz : (if x.start.getD p 0 = 49 then [[42]] else [] : List (List UInt8)) = z at e
  have hz2 : z = [] ∨ z = [[42]] := by rw [← hz]; split <;> simp
  have d0 : (splB (aL x p) 32).getD 0 default = trnT x.sigs x.labs n1 := by rw [e]; rfl
  have d1 : (splB (aL x p) 32).getD 1 default = trnT x.sigs x.labs n2 := by rw [e]; rfl
  have dl : (splB (aL x p) 32).length = 2 ∨ (splB (aL x p) 32).length = 3 := by
    rw [e]; rcases hz2 with rfl | rfl
    · exact .inl rfl
    · exact .inr rfl
  have hwi : withinB ((splB (aL x p) 32).length : Int) 2 3 = true := by
    rcases dl with h | h <;> rw [h] <;> decide
  have hok : okL (splB (aL x p) 32) = true := by
    rcases hz2 with rfl | rfl
    · exact okL_3 hwi (by rw [e]; simp only [List.length_cons, List.length_nil]; omega)
    · exact okL_4 hwi (by rw [e]; rfl)
  have hw : wordS q (splB (aL x p) 32) = (q, false) := by
    refine wordS_no fun j hj => ?_
    unfold wAt
    rw [d0, decide_eq_false (trnT_kw hv t1 hj)]; simp
  have hI := arcI_yes (r := r) hwi
  rw [d0, d1] at hI
  have hS := line_y (r := q) (l := splB (aL x p) 32) (by rw [hw]) hok (by rw [hw, d0, a4]; exact g1.1) (by rw [hw, d0, d1, b4]; have := g2.1; omega)
  rw [hw, d0, d1] at hS
  dsimp only at hS
  rw [hI, hS]
  refine ⟨by dsimp only; rw [a5, b5]; rfl, rfl, ⟨?_, ?_, ?_⟩⟩
  · dsimp only [arcM, arcN]
    rw [b1, a4, b4]
    have hb : ∀ n, n = 2 ∨ n = 3 → numS (n - 2) = [bitC n] := by rintro n (rfl | rfl) <;> decide
    rw [hb _ dl]
  · dsimp only [arcM, arcN]; exact b2
  · dsimp only [arcN]; rw [g2.2, hsg]

theorem arc_run {x : Stg} (hv : StgV x) (hm : mrkB x = true) {sg : List Sgn} (hs : ∀ y ∈ x.sigs, ∃ z ∈ sg, z.name = y.name) : ∀ (ps : List Nat), (∀ p ∈ ps, p < x.places.toNat) → ∀ (r : Rdr) (q : Rds), Twin sg r q →
  ranI r (ps.map (aL x)) ∧ ranS q (ps.map (aL x)) ∧ Twin sg (endI r (ps.map (aL x))) (endS q (ps.map (aL x))) := by
 intro ps
 induction ps with
 | nil => intro _ r q h; exact ⟨trivial, trivial, h⟩
 | cons p ps ih =>
  intro hp r q h
  obtain ⟨s1, s2, s3⟩ := arc_step hv hm (hp p (List.mem_cons_self ..)) hs h
  obtain ⟨i1, i2, i3⟩ := ih (fun a ha => hp a (List.mem_cons_of_mem _ ha)) _ _ s3
  exact ⟨⟨s1, i1⟩, ⟨s2, i2⟩, i3⟩

theorem mkS_kind {k : Nat} {l : List (List UInt8)} {y : Sgn} (h : y ∈ mkS k l) : y.kind = (k : Int) := by
 unfold mkS at h; obtain ⟨u, _, rfl⟩ := List.mem_map.1 h; rfl

theorem mkS_pw (k : Nat) (l : List (List UInt8)) : (mkS k l).Pairwise fun a b => a.kind ≤ b.kind := by
 rw [List.pairwise_iff_forall_sublist]
 intro a b h
 have ha := h.subset (List.mem_cons_self ..)
 have hb := h.subset (List.mem_cons_of_mem _ (List.mem_cons_self ..))
 rw [mkS_kind ha, mkS_kind hb]; exact Int.le_refl _

theorem sgA_pw (sg : List Sgn) : (sgA sg).Pairwise fun a b => a.kind ≤ b.kind := by
  unfold sgA
  refine List.pairwise_append.2 ⟨mkS_pw _ _, List.pairwise_append.2 ⟨mkS_pw _ _, mkS_pw _ _, fun a ha b hb => ?_⟩, fun a ha b hb => ?_⟩
  · rw [mkS_kind ha, mkS_kind hb]; decide
  · rw [mkS_kind ha]
    rcases List.mem_append.1 hb with hb | hb <;> rw [mkS_kind hb] <;> decide

theorem pw_kndB {l : List Sgn} (h : l.Pairwise fun a b => a.kind ≤ b.kind) : kndB l = true := by
  unfold kndB
  refine allB_true.2 fun i hi => ?_
  by_cases h0 : i = 0
  · subst h0; rfl
  · have := List.pairwise_iff_getElem.1 h (i - 1) i (by omega) hi (by omega)
    have e1 : l.getD i default = l[i] := by simp [hi]
    have e2 : l.getD (i - 1) default = l[i - 1] := by rw [List.getD_eq_getElem?_getD, List.getElem?_eq_getElem (by omega)]; rfl
    rw [e1, e2, decide_eq_false (p := (l[i]).kind < (l[i - 1]).kind) (by omega), Bool.and_false]; rfl

theorem sgA_has {sg : List Sgn} (h : ∀ y ∈ sg, 1 ≤ y.kind ∧ y.kind ≤ 3) : ∀ y ∈ sg, ∃ z ∈ sgA sg, z.name = y.name := by
  intro y hy
  have h1 := h y hy
  have g : ∀ k : Nat, y.kind = (k : Int) → Sgn.mk y.name (k : Int) ∈ mkS k (nK sg k) := by
    intro k hk
    unfold mkS nK
    exact List.mem_map.2 ⟨y.name, List.mem_map.2 ⟨y, List.mem_filter.2 ⟨hy, decide_eq_true hk⟩, rfl⟩, rfl⟩
  unfold sgA
  have : y.kind = ((1 : Nat) : Int) ∨ y.kind = ((2 : Nat) : Int) ∨ y.kind = ((3 : Nat) : Int) := by omega
  rcases this with e | e | e
  · exact ⟨_, List.mem_append_left _ (g 1 e), rfl⟩
  · exact ⟨_, List.mem_append_right _ (List.mem_append_left _ (g 2 e)), rfl⟩
  · exact ⟨_, List.mem_append_right _ (List.mem_append_right _ (g 3 e)), rfl⟩

theorem nm_ok {x : Stg} (hv : StgV x) : NmOk x.sigs := by
 intro y hy
 have hn := name_ch (hv.nam y hy).1
 have g : ∀ c, wch c = false → c ∉ y.name := fun c hc hm => by have := hn c hm; rw [hc] at this; cases this
 exact ⟨g 10 (by decide), g 32 (by decide)⟩

theorem lnsA_ch {x : Stg} (hv : StgV x) (hm : mrkB x = true) : ∀ l ∈ lnsA x, (10 : UInt8) ∉ l := by
  have hk : ∀ k, k < 4 → ∀ l ∈ lnsK x.sigs k, (10 : UInt8) ∉ l := by
    intro k hk l hl
    obtain ⟨rfl, _⟩ := lnsK_mem hl
    unfold lnK sp32
    intro hc
    rcases List.mem_append.1 hc with hc | hc
    · exact (kw_ch k hk).1 hc
    · obtain ⟨n, hn, hc⟩ := List.mem_flatMap.1 hc
      rcases List.mem_cons.1 hc with hc | hc
      · exact absurd hc (by decide)
      · exact (nK_ch (nm_ok hv) n hn).1 hc
  intro l hl
  unfold lnsA at hl
  rcases List.mem_append.1 hl with hl | hl
  · exact hk 1 (by decide) l hl
  rcases List.mem_append.1 hl with hl | hl
  · exact hk 2 (by decide) l hl
  rcases List.mem_append.1 hl with hl | hl
  · exact hk 3 (by decide) l hl
  unfold aLs at hl
  obtain ⟨p, hp, rfl⟩ := List.mem_map.1 hl
  exact aL_ch hv hm (List.mem_range.1 hp)

theorem aLs_pre {x : Stg} (hv : StgV x) (hm : mrkB x = true) : ∀ k, k < 4 → ∀ v ∈ aLs x, preB v (pfx k) = false := by
 intro k hk v hv2
 unfold aLs at hv2
 obtain ⟨p, hp, rfl⟩ := List.mem_map.1 hv2
 have hp := List.mem_range.1 hp
 refine preB_not hk ?_
 unfold cutS
 rw [aL_spl hv hm hp]
 exact fun e => trnT_kw hv (hd_lt (mrk_one hm hp).2) hk e.symm

/-- Both readers run over the text of a valid graph to one end. -/
theorem both_run {x : Stg} (hv : StgV x) (hm : mrkB x = true) : ranI (rd0 (sgA x.sigs)) (aLs x) ∧ ranS rs0 (lnsA x) ∧ Twin (sgA x.sigs) (endI (rd0 (sgA x.sigs)) (aLs x)) (endS rs0 (lnsA x)) := by
 obtain ⟨k1, k2, k3⟩ := run_kinds (nm_ok hv)
 have hT : Twin (sgA x.sigs) (rd0 (sgA x.sigs)) (endS rs0 (lnsK x.sigs 1 ++ (lnsK x.sigs 2 ++ lnsK x.sigs 3))) := ⟨by rw [k2]; rfl, by rw [k3]; rfl, rfl⟩
 obtain ⟨r1, r2, r3⟩ := arc_run hv hm (sgA_has fun y hy => (hv.nam y hy).2.2) (List.range x.places.toNat) (fun p hp => List.mem_range.1 hp) _ _ hT
 have e : lnsA x = (lnsK x.sigs 1 ++ (lnsK x.sigs 2 ++ lnsK x.sigs 3)) ++ aLs x := by unfold lnsA; simp
 rw [e, endS_app]
 exact ⟨r1, ranS_app k1 r2, r3⟩

theorem lns_of {x : Stg} (hv : StgV x) (hm : mrkB x = true) {u : List UInt8} (hu : arcsT x = u) : splB (u.take (u.length - 1)) 10 = lnsA x ∧ rdTo (lnsA x) 3 = (sgA x.sigs, aLs x) := by
 refine ⟨?_, rd_all (nm_ok hv) (aLs_pre hv hm)⟩
 rw [← hu, arcs_lines]
 refine splB_lines ?_ (lnsA_ch hv hm)
 have h1 := hv.p1
 intro e
 have := congrArg List.length e
 unfold lnsA aLs at this
 simp only [List.length_append, List.length_map, List.length_range, List.length_nil] at this
 omega

theorem endL_of {u : List UInt8} (h0 : ¬ u = []) : endL u = decide (u.getD (u.length - 1) 0 = 10) := by
 have hl : 1 ≤ u.length := by
  cases u with
  | nil => exact absurd rfl h0
  | cons a t => simp
 have e : u.drop (u.length - 1) = [u.getD (u.length - 1) 0] := by
  rw [List.drop_eq_getElem_cons (by omega), List.drop_of_length_le (by omega)]
  simp [List.getD_eq_getElem?_getD, List.getElem?_eq_getElem (show u.length - 1 < u.length by omega)]
 unfold endL
 rw [decide_eq_true hl, e]; simp

/-- The program's reader and the reference's agree. -/
theorem par_same (u : List UInt8) : parI u = parS u := by
  have key : ∀ x : Stg, stgB x = true → mrkB x = true → arcsT x = u → (endR' u).st = (iterS rs0 (splB (u.take (u.length - 1)) 10) (splB (u.take (u.length - 1)) 10).length).st ∧ kndB (endR' u).st.sigs = true ∧
      allB (rdTo (splB (u.take (u.length - 1)) 10) 3).2.length (okAt (rd0 (rdTo (splB (u.take (u.length - 1)) 10) 3).1) (rdTo (splB (u.take (u.length - 1)) 10) 3).2) = true ∧ allB (splB (u.take (u.length - 1)) 10).length (okSt (splB (u.take (u.length - 1)) 10)) = true := by
    intro x h1 h2 h3
    have hv := stg_v h1
    obtain ⟨e1, e2⟩ := lns_of hv h2 h3
    obtain ⟨b1, b2, b3⟩ := both_run hv h2
    unfold endR'
    rw [e1, e2]
    dsimp only
    rw [iterI_all, iterS_all]
    exact ⟨b3.st.symm, by rw [b3.sigs]; exact pw_kndB (sgA_pw _), allB_true.2 fun j hj => ranI_at b1 j hj, allB_true.2 fun j hj => ranS_at b2 j hj⟩
  by_cases hI : accI u = true
  · have h := hI
    unfold accI at h
    simp only [Bool.and_eq_true, decide_eq_true_iff] at h
    obtain ⟨h1, h2, h3, h4, h5⟩ := h
    unfold frmB at h4
    simp only [Bool.and_eq_true] at h4
    obtain ⟨k1, k2, k3, k4⟩ := key _ h4.1 h4.2.1 h5
    have h0 : ¬ u = [] := by
      intro e; subst e; exact absurd (endL_pos h2) (by decide)
    rw [endL_of h0] at h2
    have hS : accS u = true := by
      unfold accS
      rw [decide_eq_false h0, decide_eq_true h1, h2, k4, ← k1, h4.1, h4.2.1, decide_eq_true h5]; rfl
    rw [parI, parS, hI, hS, if_pos rfl, if_pos rfl, k1]
  · by_cases hS : accS u = true
    · have h := hS
      unfold accS at h
      simp only [Bool.and_eq_true, decide_eq_true_iff, Bool.not_eq_true', decide_eq_false_iff_not] at h
      obtain ⟨h0, h1, h2, h3, h4, h5, h6⟩ := h
      obtain ⟨k1, k2, k3, k4⟩ := key _ h4 h5 h6
      exfalso
      apply hI
      unfold accI frmB
      rw [decide_eq_true h1, endL_of h0, decide_eq_true h2, k3, k2, k1, h4, h5, decide_eq_true h6]; rfl
    · have e1 : accI u = false := by simpa using hI
      have e2 : accS u = false := by simpa using hS
      rw [parI, parS, e1, e2]; rfl

theorem sp_laws_FnExactParseArcs (u : List UInt8) : SpQ (fun S w _ => DRs S w [(.ref (.agg (kwL.map D.str)))] [(.pointer (some ⟨0, 0, none⟩))] []) Tryz.prog 3 [(.str u)] [.any] (.bool true) :=
 sp_lawsH_FnExactParseArcs u (par_same u)

end Go.AM
