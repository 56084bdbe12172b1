/-
  The contracts that the law FnExactMonotonousCovers needs.
-/
import Derived.Test.YtnmlcebejnlikaaGreatZMonotonousCovers2
import Derived.Test.YtnmlcebejnlikaaGreatSh
namespace Go.AM
open Go.Proofs
set_option linter.unusedVariables false
set_option linter.unusedSimpArgs false

theorem sp_impl_labelOfArc (a : Arc) : Sp Tryz.prog 161 [(.agg [(.int .i64 a.src), (.int .i64 a.sig), (.bool (a.up)), (.int .i64 a.dst)])] [.any] (.agg [(.int .i64 ((Lab.mk a.sig a.up).sig)), (.bool ((Lab.mk a.sig a.up).up))]) := by
 refine Sp_intro (lend := true) Tryz.func161 rfl rfl rfl (fun _ => rfl) (fun c hc hX => ?_)
 refine T_seq (T_region hc (Ch.s (.ptr 1000 0) (.box 1000 _ _ rfl (.aggD _)) (Ch.s (.ptr 2000 0) (.alloc 2000 _ rfl zer107) (Ch.nil (T_seq (T_region hc (Ch.s (.ptr 1000 1) (.pure (.fldPtr _ _ _ rfl fld125_1 rfl)) ?_)))))))
 refine Ch.s (.d (.int .i64 a.sig)) (.pure (.loadPtr1 _ _ rfl ag3 rfl rfl rfl)) (Ch.s (.ptr 1000 2) (.pure (.fldPtr _ _ _ rfl fld125_2 rfl)) (Ch.s (.d (.bool (a.up))) (.pure (.loadPtr1 _ _ rfl ag4 rfl rfl rfl)) (Ch.s (.agg [(.d (.int .i64 a.sig)), (.d (.bool (a.up)))]) (.build _ _ rfl stru107 (.cons (.one _ rfl) (.cons (.one _ rfl) .nil)) rfl) (Ch.s .junk (.storePtr _ _ _ rfl rfl rfl (.agg _ rfl) sz107 (lb rfl)) (Ch.nil (T_ret ?_))))))
 exact endR [(.agg [(.d (.int .i64 a.sig)), (.d (.bool (a.up)))])] [] [] (.cons (.cellA _ _ rfl rfl ag107 sz107) .nil) (.cons (.any _) .nil) (.agg (.cons (Exp.of (congrArg (D.int .i64) (by rfl)) (.d _)) (.cons (Exp.of (congrArg D.bool (by rfl)) (.d _)) .nil)) rfl) rfl rfl

theorem sp_impl_excited (x : Sgr) (l : Lab) (hb : x.bulk ≤ 1048576) (hx : SgOk x) : Sp Tryz.prog 156 [(.agg [(.slice false 2 (x.sigs.map Sgn.d)), (.slice false 1 (x.codes.map D.str)), (.slice false 4 (x.arcs.map Arc.d))]), (.agg [(.int .i64 l.sig), (.bool (l.up))])] [.any, .any] (.slice true 1 ((excS x l.sig l.up).map (fun n : Int => D.int .i64 n))) := by
 refine Sp_intro (lend := true) Tryz.func156 rfl rfl rfl (fun _ => rfl) (fun c hc hX => ?_)
 obtain ⟨hp0, hp1, hp2⟩ := Sgr.parts hb
 have hn0 := bulkF_len hp0
 have hn1 := bulk_len hp1
 have hx1 := bulk_mem hp1
 have hn2 := bulkF_len hp2; have hxl := hx.len; have hxf := hx.few; have hen := hx.ends
 refine T_seq (T_region hc (Ch.s (.ptr 2000 0) (.box 2000 _ _ rfl (.aggD _)) (Ch.s (.ptr 3000 0) (.box 3000 _ _ rfl (.aggD _)) (Ch.s (.c (.slice none 0 0)) pa (Ch.nil (T_seq (T_region hc ?_)))))))
 refine Ch.s (.row 8000) (.slice 8000 _ 3 _ rfl sty55 (xs := []) rfl rfl .nil rfl rfl (by decide)) (Ch.s (.row 8000) pa (Ch.nil (T_seq (T_seq (T_region hc (Ch.s (.ptr 2000 2) (.pure (.fldPtr _ _ _ rfl fld35_2 rfl)) (Ch.s (.d (.slice false 4 (x.arcs.map Arc.d))) (.pure (.loadPtr1 _ _ rfl ag33 rfl rfl rfl)) ?_)))))))
 refine Ch.s (.d (.int .i64 (x.arcs.length : Int))) (.pure (.len _ _ 125 rfl Tryz.underlying33 (.sh _ _) (by simp))) (Ch.s (.d (.int .i64 0)) pm (Ch.nil (T_block ?_)))
 refine T_loop (ι := Nat) (fun k => { n := 28, sl := [(3, (.ptr 3000 0)), (5, (.row 5)), (10, (.d (.slice false 4 (x.arcs.map Arc.d)))), (11, (.d (.int .i64 (x.arcs.length : Int)))), (12, (.d (.int .i64 (k : Int))))], hp := [(5, (some (.row 1 ((edK Arc.src x l k).map (fun n : Int => D.int .i64 n))))), (3000, (some (.box [(.d (.int .i64 l.sig)), (.d (.bool (l.up)))])))], pin := [] }) (fun k => k ≤ x.arcs.length) (fun k => x.arcs.length - k) ⟨0, (by omega), (Wk.ren [(5, 8000)] rfl rfl rfl rfl (ai rfl (ai rfl (ai rfl (ai rfl (ai (vI a114) trivial))))) (ai (oR a13) (ai rfl trivial)))⟩ (fun k hp0 => ?_)
 have hq := edK_le Arc.src x l k
 refine T_seq (T_region hc (Ch.s (.d (.bool (decide ((k : Int) < (x.arcs.length : Int))))) (iX rfl rfl rfl) (Ch.nil (T_seq ?_))))
 refine T_condD (p := ((k : Int) < (x.arcs.length : Int))) rfl (fun h1 => ?_) (fun h1 => ?_)
 ·
  refine T_skip (T_seq (T_block (T_seq (T_region hc (Ch.s (.d (.ref (.agg [(.int .i64 ((x.arcs.getD k default).src)), (.int .i64 ((x.arcs.getD k default).sig)), (.bool ((x.arcs.getD k default).up)), (.int .i64 ((x.arcs.getD k default).dst))]))) (.pure (.idx _ _ _ 125 (k) rfl Tryz.underlying33 sz125 rfl rfl rfl get_mapA)) (Ch.s (.d (.agg [(.int .i64 ((x.arcs.getD k default).src)), (.int .i64 ((x.arcs.getD k default).sig)), (.bool ((x.arcs.getD k default).up)), (.int .i64 ((x.arcs.getD k default).dst))])) (.pure (.loadRefA _ _ rfl ag125 sz125 rfl)) (Ch.s (.ptr 7000 0) (.alloc 7000 _ rfl zer125) ?_)))))))
  refine Ch.s .junk (.storePtr _ _ _ rfl rfl rfl (.aggD _) sz125 (lb rfl)) (Ch.nil (T_seq ?_))
  refine T_regionD hc (by kernel_rfl) ?_
  refine ChD.s (.agg [(.d (.int .i64 ((x.arcs.getD k default).src))), (.d (.int .i64 ((x.arcs.getD k default).sig))), (.d (.bool ((x.arcs.getD k default).up))), (.d (.int .i64 ((x.arcs.getD k default).dst)))]) [7000] (.pure (.loadPtrA _ _ rfl ag125 sz125 rfl rfl (lb rfl) rfl)) (ChD.s (.d (.agg [(.int .i64 ((Lab.mk (x.arcs.getD k default).sig (x.arcs.getD k default).up).sig)), (.bool ((Lab.mk (x.arcs.getD k default).sig (x.arcs.getD k default).up).up))])) [] (.call 17000 161 _ _ _ en161 rfl (.inl rfl) (.cons (.lend (.agg (.cons (.d _) (.cons (.d _) (.cons (.d _) (.cons (.d _) .nil)))) rfl)) .nil) rfl rfl (sp_impl_labelOfArc (x.arcs.getD k default)) (.skip _ _ .nil) rfl) (ChD.s (.agg [(.d (.int .i64 l.sig)), (.d (.bool (l.up)))]) [3000] (.pure (.loadPtrA _ _ rfl ag107 sz107 rfl rfl (lb rfl) rfl)) (ChD.s (.d (.bool (decide ((Lab.mk (x.arcs.getD k default).sig (x.arcs.getD k default).up) = l)))) [] (.pure (.eqA _ _ _ _ rfl (eqa107 _ _ _ _) (.d _) (.v [(.int .i64 l.sig), (.bool (l.up))]) (Lab.eqv (Lab.mk (x.arcs.getD k default).sig (x.arcs.getD k default).up) l))) ?_)))
  refine ChD.nil (And.intro ?_ (by kernel_rfl))
  refine T_condD (p := ((Lab.mk (x.arcs.getD k default).sig (x.arcs.getD k default).up) = l)) rfl (fun h2 => ?_) (fun h2 => ?_)
  ·
   refine T_region hc (Ch.s (.row 5) pm (Ch.s (.ptr 7000 0) (.pure (.fldPtr _ _ _ rfl fld125_0 rfl)) (Ch.s (.d (.int .i64 ((x.arcs.getD k default).src))) (.pure (.loadPtr1 _ _ rfl ag3 rfl rfl rfl)) (Ch.s (.row 23000) (.slice 23000 _ 3 _ rfl sty55 (xs := [.tmp 22]) rfl rfl (.cons (.d _) .nil) rfl rfl (by decide)) ?_))))
   refine Ch.step (v := (.row 24000)) rfl (.append 24000 _ _ _ 3 rfl sty55 (by decide) (.rowK rfl) (.inr ⟨_, rfl, rfl⟩) (.row rfl rfl) rfl a56) rfl rfl ?_
   refine Ch.s (.row 24000) pa (Ch.nil (T_region hc (Ch.s (.d (.int .i64 ((k : Int) + 1))) (iX rfl rfl intV_addA) (Ch.s (.d (.int .i64 ((k : Int) + 1))) pm (Ch.nil ?_)))))
   exact nx (k + 1) (by omega) (Wk.ren [(5, 24000)] rfl rfl rfl rfl (ai rfl (ai rfl (ai rfl (ai rfl (ai (vI a114) trivial))))) (ai (oR a13) (ai rfl trivial)))
  ·
   refine T_skip (T_region hc (Ch.s (.d (.int .i64 ((k : Int) + 1))) (iX rfl rfl intV_addA) (Ch.s (.d (.int .i64 ((k : Int) + 1))) pm (Ch.nil ?_))))
   exact nx (k + 1) (by omega) (Wk.of rfl rfl (ai rfl (ai rfl (ai rfl (ai rfl (ai (vI a114) trivial))))) (ai (oR a13) (ai rfl trivial)))
 ·
  refine T_exit (T_seq (T_region hc (Ch.s (.row 5) pm ?_)))
  refine Ch.step (v := (.row 27000)) rfl (.call 27000 123 _ _ _ en123 rfl (.inl rfl) (.cons (.row rfl) .nil) rfl (sol (solid_row (fun _ => rfl) _) rfl) (sp_impl_tidy (edK Arc.src x l k) a39) (.skip _ _ .nil) rfl) rfl rfl ?_
  refine Ch.s (.row 27000) pa (Ch.nil (T_ret ?_))
  exact endR [(.row 27000)] [] [27000] (.cons (.tmp 4 rfl) .nil) (.cons (.any _) (.cons (.any _) .nil)) (Exp.of (congrArg (D.slice true 1) (by rw [show k = x.arcs.length by omega, ed_src hen l])) (.row rfl)) rfl rfl

theorem sp_impl_nextArcs (x : Sgr) (hb : x.bulk ≤ 1048576) (hx : SgOk x) : Sp Tryz.prog 297 [(.agg [(.slice false 2 (x.sigs.map Sgn.d)), (.slice false 1 (x.codes.map D.str)), (.slice false 4 (x.arcs.map Arc.d))])] [.any] (.slice true 1 ((nxTo x x.arcs.length).map intsU)) := by
 refine Sp_intro (lend := true) Tryz.func297 rfl rfl rfl (fun _ => rfl) (fun c hc hX => ?_)
 obtain ⟨hp0, hp1, hp2⟩ := Sgr.parts hb
 have hn0 := bulkF_len hp0
 have hn1 := bulk_len hp1
 have hx1 := bulk_mem hp1
 have hn2 := bulkF_len hp2; have hxl := hx.len; have hxf := hx.few; have hen := hx.ends
 refine T_seq (T_region hc (Ch.s (.ptr 1000 0) (.box 1000 _ _ rfl (.aggD _)) (Ch.s (.c (.slice none 0 0)) pa (Ch.nil (T_seq (T_region hc (Ch.s (.ptr 1000 1) (.pure (.fldPtr _ _ _ rfl fld35_1 rfl)) ?_)))))))
 refine Ch.s (.d (.slice false 1 (x.codes.map D.str))) (.pure (.loadPtr1 _ _ rfl ag23 rfl rfl rfl)) (Ch.s (.d (.int .i64 (x.codes.length : Int))) (.pure (.len _ _ 9 rfl Tryz.underlying23 (.sh _ _) (by simp))) (Ch.s (.row 9000) (.make 9000 _ 55 _ _ (x.codes.length) (x.codes.length) rfl sty49 rfl rfl rfl rfl a43 a43 a43 (zeroD_mk (zd := (.slice true 1 [])) zr55 a121 rfl)) (Ch.s (.row 9000) pa (Ch.nil (T_seq (T_seq (T_region hc ?_)))))))
 refine Ch.s (.ptr 1000 2) (.pure (.fldPtr _ _ _ rfl fld35_2 rfl)) (Ch.s (.d (.slice false 4 (x.arcs.map Arc.d))) (.pure (.loadPtr1 _ _ rfl ag33 rfl rfl rfl)) (Ch.s (.d (.int .i64 (x.arcs.length : Int))) (.pure (.len _ _ 125 rfl Tryz.underlying33 (.sh _ _) (by simp))) (Ch.s (.d (.int .i64 0)) pm (Ch.nil (T_block ?_)))))
 refine T_loop (ι := Nat) (fun k => { n := 32, sl := [(3, (.row 3)), (11, (.d (.slice false 4 (x.arcs.map Arc.d)))), (12, (.d (.int .i64 (x.arcs.length : Int)))), (13, (.d (.int .i64 (k : Int))))], hp := [(3, (some (.row 1 ((nxTo x k).map intsU))))], pin := [] }) (fun k => k ≤ x.arcs.length) (fun k => x.arcs.length - k) ⟨0, (by omega), (Wk.ren [(3, 9000)] rfl rfl rfl rfl (ai rfl (ai rfl (ai rfl (ai (vI a114) trivial)))) (ai (oR a90) trivial))⟩ (fun k hp0 => ?_)
 have hnl := nxTo_len x k; have hnx := nx_le x k hp0 (x.arcs.getD k default).src.toNat
 refine T_seq (T_region hc (Ch.s (.d (.bool (decide ((k : Int) < (x.arcs.length : Int))))) (iX rfl rfl rfl) (Ch.nil (T_seq ?_))))
 refine T_condD (p := ((k : Int) < (x.arcs.length : Int))) rfl (fun h1 => ?_) (fun h1 => ?_)
 ·
  try have hek := hen _ (getD_mem (l := x.arcs) (j := k) (d := default) (by omega))
  refine T_skip (T_seq (T_block (T_seq (T_region hc (Ch.s (.d (.int .i64 (k : Int))) pm (Ch.s (.d (.ref (.agg [(.int .i64 ((x.arcs.getD k default).src)), (.int .i64 ((x.arcs.getD k default).sig)), (.bool ((x.arcs.getD k default).up)), (.int .i64 ((x.arcs.getD k default).dst))]))) (.pure (.idx _ _ _ 125 (k) rfl Tryz.underlying33 sz125 rfl rfl rfl get_mapA)) (Ch.s (.d (.agg [(.int .i64 ((x.arcs.getD k default).src)), (.int .i64 ((x.arcs.getD k default).sig)), (.bool ((x.arcs.getD k default).up)), (.int .i64 ((x.arcs.getD k default).dst))])) (.pure (.loadRefA _ _ rfl ag125 sz125 rfl)) ?_)))))))
  refine Ch.s (.ptr 5000 0) (.alloc 5000 _ rfl zer125) (Ch.s (.d (.int .i64 (k : Int))) pa (Ch.s .junk (.storePtr _ _ _ rfl rfl rfl (.aggD _) sz125 (lb rfl)) (Ch.nil ?_)))
  refine T_take 3 ((((x.arcs.getD k default).src)).toNat) 7000002 7000003 rfl get_mapA rfl rfl (fun u1 => ?_)
  refine T_regionD hc (by kernel_rfl) ?_
  refine ChD.s (.row 3) [] pm (ChD.s (.ptr 5000 0) [] (.pure (.fldPtr _ _ _ rfl fld125_0 rfl)) (ChD.s (.d (.int .i64 ((x.arcs.getD k default).src))) [5000] (.pure (.loadPtr1 _ _ rfl ag3 rfl rfl rfl)) (ChD.s (.row 3) [] pm (ChD.s (.ptr 5000 0) [] (.pure (.fldPtr _ _ _ rfl fld125_0 rfl)) (ChD.s (.d (.int .i64 ((x.arcs.getD k default).src))) [5000] (.pure (.loadPtr1 _ _ rfl ag3 rfl rfl rfl)) (ChD.s (.el 3 1 ((((x.arcs.getD k default).src)).toNat) 0) [3, 7000002, 7000003] (.pure (.idxRow _ _ _ 55 ((((x.arcs.getD k default).src)).toNat) rfl Tryz.underlying49 sz55 rfl rfl rfl (by omega) a86)) (ChD.s (.row 7000002) [3, 7000002, 7000003] (.pure (.loadHole (n := 7000002) (m := 7000003) (u := u1) _ _ rfl ag55 rfl rfl (get_set a86) rfl rfl)) ?_)))))))
  refine ChD.s (.d (.int .i64 (k : Int))) [] pm (ChD.s (.row 27000) [] (.slice 27000 _ 3 _ rfl sty55 (xs := [.tmp 26]) rfl rfl (.cons (.d _) .nil) rfl rfl (by decide)) (ChD.s (.row 28000) [27000, 7000002] (.append 28000 _ _ _ 3 rfl sty55 (by decide) (.rowK rfl) (.inr ⟨_, rfl, rfl⟩) (.row rfl rfl) rfl a56) (ChD.s (.el 3 1 ((((x.arcs.getD k default).src)).toNat) 0) [3, 7000002, 7000003] (.pure (.idxRow _ _ _ 55 ((((x.arcs.getD k default).src)).toNat) rfl Tryz.underlying49 sz55 rfl rfl rfl (by omega) a86)) (ChD.s .junk [3, 28000, 7000002, 7000003] (.storeElK (y' := (.slice true 1 ((((nxTo x k).getD ((((x.arcs.getD k default).src)).toNat) default).map (fun n : Int => D.int .i64 n)) ++ [(.int .i64 (k : Int))]))) _ _ _ rfl rfl rfl (.row rfl) rfl rfl rfl sz55 rfl (get_set a86) rfl rfl) ?_))))
  refine ChD.nil (And.intro ?_ (by kernel_rfl))
  refine T_region hc (Ch.s (.d (.int .i64 ((k : Int) + 1))) (iX rfl rfl intV_addA) (Ch.s (.d (.int .i64 ((k : Int) + 1))) pm (Ch.nil ?_)))
  exact nx (k + 1) (by omega) (Wk.of rfl rfl (ai rfl (ai rfl (ai rfl (ai (vI a114) trivial)))) (ai (oR a90) trivial))
 ·
  try have hek := hen _ (getD_mem (l := x.arcs) (j := k) (d := default) (by omega))
  refine T_exit (T_seq (T_region hc (Ch.s (.row 3) pm (Ch.s (.row 3) pa (Ch.nil (T_ret ?_))))))
  exact endR [(.row 3)] [] [3] (.cons (.tmp 2 rfl) .nil) (.cons (.any _) .nil) (Exp.of (congrArg (D.slice true 1) (by rw [show x.arcs.length = k by omega])) (.row rfl)) rfl rfl

theorem en93 : Enters Tryz.prog 93 := ⟨_, Tryz.func93, by kernel_rfl, rfl⟩

theorem en141 : Enters Tryz.prog 141 := ⟨_, Tryz.func141, by kernel_rfl, rfl⟩

theorem en158 : Enters Tryz.prog 158 := ⟨_, Tryz.func158, by kernel_rfl, rfl⟩

theorem en31 : Enters Tryz.prog 31 := ⟨_, Tryz.func31, by kernel_rfl, rfl⟩

theorem ag26 : AggIs Tryz.prog 26 true := by unfold AggIs; kernel_rfl

theorem sz26 : SizeIs Tryz.prog 26 3 := by unfold SizeIs; kernel_rfl

theorem en16 : Enters Tryz.prog 16 := ⟨_, Tryz.func16, by kernel_rfl, rfl⟩

theorem en18 : Enters Tryz.prog 18 := ⟨_, Tryz.func18, by kernel_rfl, rfl⟩

theorem en21 : Enters Tryz.prog 21 := ⟨_, Tryz.func21, by kernel_rfl, rfl⟩

theorem en22 : Enters Tryz.prog 22 := ⟨_, Tryz.func22, by kernel_rfl, rfl⟩

theorem code_bit {x : Sgr} {m : Nat} {sig : Int} (hx : SgOk x) (hm : m < x.codes.length) (hs : 0 ≤ sig ∧ sig.toNat < x.sigs.length) : (x.codes.getD m default).getD sig.toNat 0 = 48 ∨ (x.codes.getD m default).getD sig.toNat 0 = 49 := by
 obtain ⟨h1, h2⟩ := codes_at hx.codes (m : Int) (by omega) (by omega)
 unfold codeN at h1
 have h3 := allB_true.1 (Bool.and_eq_true_iff.1 h1).1 sig.toNat (by omega)
 unfold codeCh at h3
 have h4 : codeAt x (m : Int) = x.codes.getD m default := rfl
 rw [h4] at h3
 simpa using h3

theorem sp_heldq (xs : List (List UInt8)) (k : Nat) (hn : xs.length ≤ 1048576) (hk : k ≤ 3145728) (hq : heldR xs k = ((k + xs.length : Nat) : Int)) : Sp Tryz.prog 31 [.slice false 1 (xs.map D.str), .int .i64 (k : Int)] [.any, .any] (.int .i64 ((k + xs.length : Nat) : Int)) := by
 have h := sp_laws_heldStringS xs k hn hk
 rw [hq] at h
 exact h

theorem heldq_marks (k n : Nat) : heldR (marks k n) k = ((k + (marks k n).length : Nat) : Int) := by
 have h := held_marks k n
 rw [marks_length]
 omega

theorem en203 : Enters Tryz.prog 203 := ⟨_, Tryz.func203, by kernel_rfl, rfl⟩

theorem sty175 : SlotTy Tryz.prog 175 216 3 24 := slotTy_mk (by kernel_rfl)

theorem en297 : Enters Tryz.prog 297 := ⟨_, Tryz.func297, by kernel_rfl, rfl⟩

theorem en298 : Enters Tryz.prog 298 := ⟨_, Tryz.func298, by kernel_rfl, rfl⟩

theorem stru216 : StructIs Tryz.prog 216 [.int .i64 0, .int .i64 0, .int .i64 0] [(0, 1), (1, 1), (2, 1)] := structIs_mk (by kernel_rfl) Tryz.underlying216 (by kernel_rfl)

theorem en221 : Enters Tryz.prog 221 := ⟨_, Tryz.func221, by kernel_rfl, rfl⟩

theorem en131 : Enters Tryz.prog 131 := ⟨_, Tryz.func131, by kernel_rfl, rfl⟩

theorem en281 : Enters Tryz.prog 281 := ⟨_, Tryz.func281, by kernel_rfl, rfl⟩

theorem en282 : Enters Tryz.prog 282 := ⟨_, Tryz.func282, by kernel_rfl, rfl⟩

theorem en283 : Enters Tryz.prog 283 := ⟨_, Tryz.func283, by kernel_rfl, rfl⟩

theorem en284 : Enters Tryz.prog 284 := ⟨_, Tryz.func284, by kernel_rfl, rfl⟩

theorem en166 : Enters Tryz.prog 166 := ⟨_, Tryz.func166, by kernel_rfl, rfl⟩

theorem en167 : Enters Tryz.prog 167 := ⟨_, Tryz.func167, by kernel_rfl, rfl⟩

theorem en168 : Enters Tryz.prog 168 := ⟨_, Tryz.func168, by kernel_rfl, rfl⟩

theorem en169 : Enters Tryz.prog 169 := ⟨_, Tryz.func169, by kernel_rfl, rfl⟩

theorem en258 : Enters Tryz.prog 258 := ⟨_, Tryz.func258, by kernel_rfl, rfl⟩

theorem en222 : Enters Tryz.prog 222 := ⟨_, Tryz.func222, by kernel_rfl, rfl⟩

theorem en171 : Enters Tryz.prog 171 := ⟨_, Tryz.func171, by kernel_rfl, rfl⟩

def inputB (x : Sgr) (sig : Int) : Bool := decide (0 ≤ sig) && decide ((x.sigs.getD sig.toNat default).kind = 1)

theorem inputB_lt {x : Sgr} {sig : Int} (h : ¬ 0 ≤ sig) : inputB x sig = false := by rw [inputB, decide_eq_false h]; rfl

theorem inputB_no {x : Sgr} {sig : Int} (h : ¬ (x.sigs.getD sig.toNat default).kind = 1) : inputB x sig = false := by rw [inputB, decide_eq_false h, Bool.and_false]

theorem inputB_yes {x : Sgr} {sig : Int} (h0 : 0 ≤ sig) (h : (x.sigs.getD sig.toNat default).kind = 1) : inputB x sig = true := by rw [inputB, decide_eq_true h0, decide_eq_true h]; rfl

theorem prTo_leA (P : Nat → Nat → Bool) {n : Nat} (hn : n ≤ 4000) : ∀ k, (prTo P n k).length ≤ k * 4000
 | 0 => Nat.le_refl 0
 | k + 1 => by
  have h1 := prTo_leA P hn k
  have h2 := prIn_le P k n
  have e : (prTo P n (k + 1)).length = (prTo P n k).length + (prIn P k n).length := by
   unfold prTo
   rw [List.range_succ, List.flatMap_append, List.length_append]; simp
  omega

theorem prM_leA (P : Nat → Nat → Bool) {n k m : Nat} (hn : n ≤ 4000) (hk : k ≤ 4000) (hm : m ≤ 4001) : (prM P n k m).length ≤ 17000000 := by
 have h1 := prTo_leA P hn k
 have h2 := prIn_le P k m
 rw [prM, List.length_append]
 omega

def hidB (x : Sgr) : Bool := x.arcs.any fun a => decide (a.sig = -1)

def twP (x : Sgr) (i k : Nat) : Bool := decide (0 ≤ (x.arcs.getD i default).sig ∧ (x.arcs.getD i default).src = (x.arcs.getD k default).src ∧ (x.arcs.getD i default).sig = (x.arcs.getD k default).sig ∧ ¬ (x.arcs.getD i default).dst = (x.arcs.getD k default).dst)

def twL (x : Sgr) : List (List Int) := prTo (twP x) x.arcs.length x.arcs.length

def pvQ (x : Sgr) (s n : Nat) : Bool := !decide ((x.arcs.getD n default).sig = (s : Int)) && (!excB x (x.arcs.getD n default).dst (s : Int) && !(inputB x (s : Int) && inputB x (x.arcs.getD n default).sig))

def pvP (x : Sgr) (k s n : Nat) : Bool := decide ((x.arcs.getD n default).src = (k : Int)) && pvQ x s n

def pvF (k s n : Nat) : Pvi := Pvi.mk (k : Int) (s : Int) (n : Int)

def pvI (x : Sgr) (k s m : Nat) : List Pvi := selTo m (pvP x k s) (pvF k s)

def pvS (x : Sgr) (k s : Nat) : List Pvi := if excB x (k : Int) (s : Int) then pvI x k s x.arcs.length else []

def pvK (x : Sgr) (k s : Nat) : List Pvi := (List.range s).flatMap (pvS x k)

def pvTo (x : Sgr) (k : Nat) : List Pvi := (List.range k).flatMap fun k => pvK x k x.sigs.length

def pvA (x : Sgr) (k s : Nat) : List Pvi := pvTo x k ++ pvK x k s

def pvC (x : Sgr) (k s m : Nat) : List Pvi := pvA x k s ++ pvI x k s m

def pvN (x : Sgr) (k s : Nat) (T : List Int) (m : Nat) : List Pvi := ((T.take m).filter fun i => pvQ x s i.toNat).map fun i => pvF k s i.toNat

def pvB (x : Sgr) (k s : Nat) (T : List Int) (m : Nat) : List Pvi := pvA x k s ++ pvN x k s T m

def pvL (x : Sgr) : List Pvi := pvTo x x.codes.length

theorem pvI_le (x : Sgr) (k s m : Nat) : (pvI x k s m).length ≤ m := selTo_le _ _ _

theorem pvK_le {x : Sgr} (hx : x.arcs.length ≤ 4000) (k : Nat) : ∀ s, (pvK x k s).length ≤ s * 4000
  | 0 => Nat.le_refl 0
  | s + 1 => by
    have h1 := pvK_le hx k s
    have e : (pvK x k (s + 1)).length = (pvK x k s).length + (pvS x k s).length := by
      unfold pvK; rw [List.range_succ, List.flatMap_append, List.length_append]; simp
    have h2 : (pvS x k s).length ≤ 4000 := by
      unfold pvS; split
      · exact Nat.le_trans (pvI_le _ _ _ _) hx
      · exact Nat.zero_le _
    omega

theorem pvTo_next (x : Sgr) (k : Nat) : pvTo x k ++ pvK x k x.sigs.length = pvTo x (k + 1) := by
 unfold pvTo; rw [List.range_succ, List.flatMap_append]; simp

theorem pvTo_le {x : Sgr} (hx : x.arcs.length ≤ 4000) (h8 : x.sigs.length ≤ 8) : ∀ k, (pvTo x k).length ≤ k * 32000
 | 0 => Nat.le_refl 0
 | k + 1 => by
  have h1 := pvTo_le hx h8 k
  have h2 := pvK_le hx k x.sigs.length
  rw [← pvTo_next, List.length_append]; omega

theorem pvA_le {x : Sgr} (hx : x.arcs.length ≤ 4000) (h8 : x.sigs.length ≤ 8) {k s : Nat} (hk : k ≤ 300) (hs : s ≤ 8) : (pvA x k s).length ≤ 10000000 := by
 have h1 := pvTo_le hx h8 k
 have h2 := pvK_le hx k s
 rw [pvA, List.length_append]; omega

theorem pvC_le {x : Sgr} (hx : x.arcs.length ≤ 4000) (h8 : x.sigs.length ≤ 8) {k s m : Nat} (hk : k ≤ 300) (hs : s ≤ 8) (hm : m ≤ 4000) : (pvC x k s m).length ≤ 11000000 := by
 have h1 := pvA_le hx h8 hk hs
 have h2 := pvI_le x k s m
 rw [pvC, List.length_append]; omega

theorem pvB_le {x : Sgr} (hx : x.arcs.length ≤ 4000) (h8 : x.sigs.length ≤ 8) {k s m : Nat} (hk : k ≤ 300) (hs : s ≤ 8) {T : List Int} (hm : T.length ≤ 4000) : (pvB x k s T m).length ≤ 11000000 := by
 have h1 := pvA_le hx h8 hk hs
 have h2 : (pvN x k s T m).length ≤ T.length := by
  unfold pvN
  rw [List.length_map]
  refine Nat.le_trans (List.length_filter_le _ _) ?_
  rw [List.length_take]; omega
 rw [pvB, List.length_append]; omega

theorem pvA_zero (x : Sgr) (k : Nat) : pvTo x k = pvA x k 0 := (List.append_nil _).symm

theorem pvA_end {x : Sgr} {k s : Nat} (h : s = x.sigs.length) : pvA x k s = pvTo x (k + 1) := by rw [h, ← pvTo_next]; rfl

theorem pvK_next (x : Sgr) (k s : Nat) : pvK x k s ++ pvS x k s = pvK x k (s + 1) := by
 unfold pvK; rw [List.range_succ, List.flatMap_append]; simp

theorem pvA_no {x : Sgr} {k s : Nat} (h : excB x (k : Int) (s : Int) = false) : pvA x k s = pvA x k (s + 1) := by
 rw [pvA, pvA, ← pvK_next, pvS, h]; simp

theorem pvA_yes {x : Sgr} {k s : Nat} (h : excB x (k : Int) (s : Int) = true) : pvC x k s x.arcs.length = pvA x k (s + 1) := by
 rw [pvC, pvA, pvA, ← pvK_next, pvS, h, if_pos rfl, List.append_assoc]

theorem pvC_zero (x : Sgr) (k s : Nat) : pvA x k s = pvC x k s 0 := (List.append_nil _).symm

theorem pvC_end {x : Sgr} {k s m : Nat} (h : excB x (k : Int) (s : Int) = true) (hm : m = x.arcs.length) : pvC x k s m = pvA x k (s + 1) := by rw [hm, pvA_yes h]

theorem pvC_yes {x : Sgr} {k s m : Nat} (h : pvP x k s m = true) : pvC x k s m ++ [Pvi.mk (k : Int) (s : Int) (m : Int)] = pvC x k s (m + 1) := by
 rw [pvC, pvC, List.append_assoc]
 congr 1
 exact selTo_yes (f := pvF k s) h

theorem pvC_no {x : Sgr} {k s m : Nat} (h : pvP x k s m = false) : pvC x k s m = pvC x k s (m + 1) := by
 rw [pvC, pvC]
 congr 1
 exact selTo_no h

theorem pvB_zero (x : Sgr) (k s : Nat) (T : List Int) : pvA x k s = pvB x k s T 0 := (List.append_nil _).symm

theorem pvB_yes {x : Sgr} {k s m : Nat} {T : List Int} (hm : m < T.length) (h0 : 0 ≤ T.getD m default) (h : pvQ x s (T.getD m default).toNat = true) : pvB x k s T m ++ [Pvi.mk (k : Int) (s : Int) (T.getD m default)] = pvB x k s T (m + 1) := by
 have hg : T.getD m default = T[m] := by simp [hm]
 rw [hg] at h h0 ⊢
 rw [pvB, pvB, List.append_assoc]
 congr 1
 unfold pvN
 rw [List.take_succ_eq_append_getElem hm, List.filter_append, List.map_append]
 congr 1
 rw [List.filter_cons, h]
 show _ = [pvF k s T[m].toNat]
 unfold pvF
 rw [show (T[m].toNat : Int) = T[m] by omega]

theorem pvB_no {x : Sgr} {k s m : Nat} {T : List Int} (hm : m < T.length) (h : pvQ x s (T.getD m default).toNat = false) : pvB x k s T m = pvB x k s T (m + 1) := by
 have hg : T.getD m default = T[m] := by simp [hm]
 rw [hg] at h
 rw [pvB, pvB]
 congr 1
 unfold pvN
 rw [List.take_succ_eq_append_getElem hm, List.filter_append, List.map_append, List.filter_cons, h]
 simp

theorem nx_eq {x : Sgr} (hen : ends x.codes.length x.arcs) {j : Nat} (hj : j < x.codes.length) : ∀ m, m ≤ x.arcs.length → (nxTo x m).getD j default = selTo m (fun i => decide ((x.arcs.getD i default).src = (j : Int))) (fun i => (i : Int))
  | 0, _ => by
    unfold nxTo selTo
    simp [hj]
  | m + 1, hm => by
    have he := hen _ (getD_mem (l := x.arcs) (j := m) (d := default) (by omega))
    rw [nxTo, getD_set, nxTo_len]
    by_cases h : (x.arcs.getD m default).src = (j : Int)
    · rw [if_pos ⟨by omega, he.1.2⟩, ← selTo_yes (f := fun i : Nat => (i : Int)) (decide_eq_true h), show (x.arcs.getD m default).src.toNat = j by omega, nx_eq hen hj m (by omega)]
    · rw [if_neg (fun e => h (by omega)), ← selTo_no (decide_eq_false h), nx_eq hen hj m (by omega)]

theorem pvN_end {x : Sgr} (hx : SgOk x) {k s m : Nat} (hk : k < x.codes.length) {T : List Int} (hT : T = (nxTo x x.arcs.length).getD k default) (hm : T.length ≤ m) : pvN x k s T m = pvI x k s x.arcs.length := by
 unfold pvN
 rw [List.take_of_length_le hm, hT, nx_eq hx.ends hk _ (Nat.le_refl _), selTo_filter, pvI]
 unfold selTo
 rw [List.map_map]
 rfl

theorem pvB_end {x : Sgr} (hx : SgOk x) {k s m : Nat} (hk : k < x.codes.length) (h : excB x (k : Int) (s : Int) = true) (hm : ((nxTo x x.arcs.length).getD k default).length ≤ m) : pvB x k s ((nxTo x x.arcs.length).getD k default) m = pvA x k (s + 1) := by
 rw [pvB, pvN_end hx hk rfl hm, ← pvA_yes h]; rfl

theorem two_nat {x : Sgr} (hx : SgOk x) {k s : Nat} (hk : k < x.codes.length) : decide (((two ((masksL x).getD k default) (2 * (s : Int)).toNat : Nat) : Int) = 0) = !excB x (k : Int) (s : Int) := two_exc (k := (k : Int)) (s := (s : Int)) hx (by omega) ⟨by omega, hk⟩

theorem two_n0 {x : Sgr} (hx : SgOk x) {k s : Nat} (hk : k < x.codes.length) (h : ((two ((masksL x).getD k default) (2 * (s : Int)).toNat : Nat) : Int) = 0) : excB x (k : Int) (s : Int) = false := by
  have := two_nat hx (s := s) hk
  rw [decide_eq_true h] at this
  cases he : excB x (k : Int) (s : Int)
  · rfl
  · rw [he] at this; cases this

theorem two_n1 {x : Sgr} (hx : SgOk x) {k s : Nat} (hk : k < x.codes.length) (h : ¬ ((two ((masksL x).getD k default) (2 * (s : Int)).toNat : Nat) : Int) = 0) : excB x (k : Int) (s : Int) = true := by
  have := two_nat hx (s := s) hk
  rw [decide_eq_false h] at this
  cases he : excB x (k : Int) (s : Int)
  · rw [he] at this; cases this
  · rfl

theorem two_i0 {x : Sgr} (hx : SgOk x) {k : Int} {s : Nat} (hk : 0 ≤ k ∧ k.toNat < x.codes.length) (h : ((two ((masksL x).getD k.toNat default) (2 * (s : Int)).toNat : Nat) : Int) = 0) : excB x k (s : Int) = false := by
 have := two_n0 hx (s := s) hk.2 h
 rwa [show (k.toNat : Int) = k by omega] at this

theorem two_i1 {x : Sgr} (hx : SgOk x) {k : Int} {s : Nat} (hk : 0 ≤ k ∧ k.toNat < x.codes.length) (h : ¬ ((two ((masksL x).getD k.toNat default) (2 * (s : Int)).toNat : Nat) : Int) = 0) : excB x k (s : Int) = true := by
 have := two_n1 hx (s := s) hk.2 h
 rwa [show (k.toNat : Int) = k by omega] at this

theorem pvQ_yes {x : Sgr} {s n : Nat} (h1 : ¬ (x.arcs.getD n default).sig = (s : Int)) (h2 : excB x (x.arcs.getD n default).dst (s : Int) = false) (h3 : inputB x (s : Int) = false ∨ inputB x (x.arcs.getD n default).sig = false) : pvQ x s n = true := by
  unfold pvQ
  rw [decide_eq_false h1, h2]
  rcases h3 with h3 | h3 <;> rw [h3] <;> simp

theorem pvQ_no1 {x : Sgr} {s n : Nat} (h1 : (x.arcs.getD n default).sig = (s : Int)) : pvQ x s n = false := by rw [pvQ, decide_eq_true h1]; rfl

theorem pvQ_no2 {x : Sgr} {s n : Nat} (h2 : excB x (x.arcs.getD n default).dst (s : Int) = true) : pvQ x s n = false := by rw [pvQ, h2]; simp

theorem pvQ_no3 {x : Sgr} {s n : Nat} (h3 : inputB x (s : Int) = true) (h4 : inputB x (x.arcs.getD n default).sig = true) : pvQ x s n = false := by rw [pvQ, h3, h4]; simp

theorem pvP_no {x : Sgr} {k s n : Nat} (h : ¬ (x.arcs.getD n default).src = (k : Int)) : pvP x k s n = false := by rw [pvP, decide_eq_false h]; rfl

theorem pvP_of {x : Sgr} {k s n : Nat} {b : Bool} (h : (x.arcs.getD n default).src = (k : Int)) (h2 : pvQ x s n = b) : pvP x k s n = b := by rw [pvP, decide_eq_true h, h2]; rfl

def unB (x : Sgr) (pr : List Int) : Bool := (outsL x.sigs).any fun s => !decide (excB x (pr.getD 0 default) s = excB x (pr.getD 1 default) s)

def unM (x : Sgr) (pr : List Int) (m : Nat) : Bool := ((outsL x.sigs).take m).any fun s => !decide (excB x (pr.getD 0 default) s = excB x (pr.getD 1 default) s)

theorem unM_succ {x : Sgr} {pr : List Int} {m : Nat} (hm : m < (outsL x.sigs).length) : unM x pr (m + 1) = (unM x pr m || !decide (excB x (pr.getD 0 default) ((outsL x.sigs).getD m default) = excB x (pr.getD 1 default) ((outsL x.sigs).getD m default))) := by
 have hg : (outsL x.sigs).getD m default = (outsL x.sigs)[m] := by simp [hm]
 unfold unM
 rw [hg, List.take_succ_eq_append_getElem hm, List.any_append]
 simp

theorem unM_all {x : Sgr} {pr : List Int} {m : Nat} (hm : (outsL x.sigs).length ≤ m) : unM x pr m = unB x pr := by rw [unM, List.take_of_length_le hm]; rfl

def prA (x : Sgr) : List (List Int) := prTo (eqP x) x.codes.length x.codes.length

def unK (x : Sgr) (k : Nat) : List (List Int) := ((prA x).take k).filter (unB x)

theorem unK_yes {x : Sgr} {k : Nat} (hk : k < (prA x).length) (h : unB x ((prA x).getD k default) = true) : unK x k ++ [(prA x).getD k default] = unK x (k + 1) := by
 have hg : (prA x).getD k default = (prA x)[k] := by simp [hk]
 rw [hg] at h ⊢
 rw [unK, unK, List.take_succ_eq_append_getElem hk, List.filter_append, List.filter_cons, h]; simp

theorem unK_no {x : Sgr} {k : Nat} (hk : k < (prA x).length) (h : unB x ((prA x).getD k default) = false) : unK x k = unK x (k + 1) := by
 have hg : (prA x).getD k default = (prA x)[k] := by simp [hk]
 rw [hg] at h
 rw [unK, unK, List.take_succ_eq_append_getElem hk, List.filter_append, List.filter_cons, h]; simp

theorem unK_le (x : Sgr) (k : Nat) : (unK x k).length ≤ k := by
 unfold unK
 refine Nat.le_trans (List.length_filter_le _ _) ?_
 rw [List.length_take]; omega

theorem unB_eq (x : Sgr) (u : List Int) : unB x u = (!(fun pr => !(outsL x.sigs).any (cfS x pr)) u) := by
  dsimp only
  rw [Bool.not_not]
  unfold unB
  congr 1
  funext s
  unfold cfS
  cases excB x (u.getD 0 default) s <;> cases excB x (u.getD 1 default) s <;> rfl

theorem unK_all {x : Sgr} {k : Nat} (hk : (prA x).length ≤ k) : unK x k = cfL x := by
 rw [unK, List.take_of_length_le hk, ← cf_filter]
 apply List.filter_congr
 intro u _
 exact unB_eq x u

def whyW (x : Sgr) : List UInt8 := if hidB x then [104, 105, 100, 100, 101, 110] else if 0 < (twL x).length then [116, 119, 111, 32, 119, 97, 121, 115] else if 0 < (pvL x).length then [98, 114, 101, 97, 107] else if 0 < (cfL x).length then [99, 111, 110, 102, 108, 105, 99, 116] else [109, 97, 100, 101]

def madeB (x : Sgr) : Bool := sgB x && decide (whyW x = [109, 97, 100, 101])

theorem why_hid {x : Sgr} (h : hidB x = true) : whyW x = [104, 105, 100, 100, 101, 110] := by rw [whyW, if_pos h]

theorem why_two {x : Sgr} (h : hidB x = false) (h1 : (0 : Int) < ((twL x).length : Int)) : whyW x = [116, 119, 111, 32, 119, 97, 121, 115] := by rw [whyW, if_neg (by rw [h]; decide), if_pos (by omega)]

theorem why_brk {x : Sgr} (h : hidB x = false) (h1 : ¬ (0 : Int) < ((twL x).length : Int)) (h2 : (0 : Int) < ((pvL x).length : Int)) : whyW x = [98, 114, 101, 97, 107] := by rw [whyW, if_neg (by rw [h]; decide), if_neg (by omega), if_pos (by omega)]

theorem why_cf {x : Sgr} (h : hidB x = false) (h1 : ¬ (0 : Int) < ((twL x).length : Int)) (h2 : ¬ (0 : Int) < ((pvL x).length : Int)) (h3 : (0 : Int) < ((cfL x).length : Int)) : whyW x = [99, 111, 110, 102, 108, 105, 99, 116] := by rw [whyW, if_neg (by rw [h]; decide), if_neg (by omega), if_neg (by omega), if_pos (by omega)]

theorem why_made {x : Sgr} (h : hidB x = false) (h1 : ¬ (0 : Int) < ((twL x).length : Int)) (h2 : ¬ (0 : Int) < ((pvL x).length : Int)) (h3 : ¬ (0 : Int) < ((cfL x).length : Int)) : whyW x = [109, 97, 100, 101] := by rw [whyW, if_neg (by rw [h]; decide), if_neg (by omega), if_neg (by omega), if_neg (by omega)]

theorem sp_impl_isInput (x : Sgr) (sig : Int) (hb : x.bulk ≤ 1048576) (hs : sig < x.sigs.length) : Sp Tryz.prog 298 [(.agg [(.slice false 2 (x.sigs.map Sgn.d)), (.slice false 1 (x.codes.map D.str)), (.slice false 4 (x.arcs.map Arc.d))]), (.int .i64 sig)] [.any, .any] (.bool (inputB x sig)) := by
 refine Sp_intro (lend := true) Tryz.func298 rfl rfl rfl (fun _ => rfl) (fun c hc hX => ?_)
 obtain ⟨hp0, hp1, hp2⟩ := Sgr.parts hb
 have hn0 := bulkF_len hp0
 have hn1 := bulk_len hp1
 have hx1 := bulk_mem hp1
 have hn2 := bulkF_len hp2
 refine T_seq (T_region hc (Ch.s (.ptr 2000 0) (.box 2000 _ _ rfl (.aggD _)) (Ch.s (.d (.bool false)) pa (Ch.nil (T_seq (T_region hc (Ch.s (.d (.int .i64 sig)) pm ?_)))))))
 refine Ch.s (.d (.bool (decide (0 ≤ sig)))) (iX rfl rfl rfl) (Ch.s (.d (.bool (decide (0 ≤ sig)))) pm ?_)
 cases h1 : (decide (0 ≤ sig)) with
 | true =>
  replace h1 := of_decide_eq_true h1
  refine Ch.s (.ptr 2000 0) (.pure (.fldPtr _ _ _ rfl fld35_0 rfl)) (Ch.s (.d (.slice false 2 (x.sigs.map Sgn.d))) (.pure (.loadPtr1 _ _ rfl ag32 rfl rfl rfl)) (Ch.s (.d (.int .i64 sig)) pm (Ch.s (.d (.ref (.agg [(.str ((x.sigs.getD ((sig).toNat) default).name)), (.int .i64 ((x.sigs.getD ((sig).toNat) default).kind))]))) (.pure (.idx _ _ _ 154 ((sig).toNat) rfl Tryz.underlying32 sz154 rfl rfl (by omega) get_mapA)) (Ch.s (.d (.ref (.int .i64 ((x.sigs.getD ((sig).toNat) default).kind)))) (.pure (.fldRef _ _ _ rfl fld154_1 rfl rfl rfl)) (Ch.s (.d (.int .i64 ((x.sigs.getD ((sig).toNat) default).kind))) (.pure (.loadRef1 _ _ rfl ag3 rfl rfl)) (Ch.s (.d (.bool (decide (((x.sigs.getD ((sig).toNat) default).kind) = 1)))) (iX rfl rfl rfl) (Ch.s (.d (.bool (decide (((x.sigs.getD ((sig).toNat) default).kind) = 1)))) (.pure (.pickT _ _ _ rfl rfl rfl)) ?_)))))))
  refine Ch.s (.d (.bool (decide (((x.sigs.getD ((sig).toNat) default).kind) = 1)))) pa (Ch.nil (T_ret ?_))
  exact endR [(.d (.bool (decide (((x.sigs.getD ((sig).toNat) default).kind) = 1))))] [] [] (.cons (.tmp 4 rfl) .nil) (.cons (.any _) (.cons (.any _) .nil)) (Exp.of (congrArg D.bool a85) (.d _)) rfl rfl
 | false =>
  replace h1 := of_decide_eq_false h1
  refine Ch.skip rfl rfl (Ch.skip rfl rfl (Ch.skip rfl rfl (Ch.skip rfl rfl (Ch.skip rfl rfl (Ch.skip rfl rfl (Ch.skip rfl rfl (Ch.s (.d (.bool false)) (.pure (.pickF _ _ _ rfl rfl rfl)) ?_)))))))
  refine Ch.s (.d (.bool false)) pa (Ch.nil (T_ret ?_))
  exact endR [(.d (.bool false))] [] [] (.cons (.tmp 4 rfl) .nil) (.cons (.any _) (.cons (.any _) .nil)) (Exp.of (congrArg D.bool a85) (.d _)) rfl rfl

set_option maxHeartbeats 1000000 in
theorem sp_impl_twoWays (x : Sgr) (hb : x.bulk ≤ 1048576) (hx : SgOk x) : Sp Tryz.prog 282 [(.agg [(.slice false 2 (x.sigs.map Sgn.d)), (.slice false 1 (x.codes.map D.str)), (.slice false 4 (x.arcs.map Arc.d))])] [.any] (.slice true 1 ((twL x).map intsU)) := by
 refine Sp_intro (lend := true) Tryz.func282 rfl rfl rfl (fun _ => rfl) (fun c hc hX => ?_)
 obtain ⟨hp0, hp1, hp2⟩ := Sgr.parts hb
 have hn0 := bulkF_len hp0
 have hn1 := bulk_len hp1
 have hx1 := bulk_mem hp1
 have hn2 := bulkF_len hp2; have hx8 := hx.eight; have hxl := hx.len; have hxf := hx.few; have hen := hx.ends
 refine T_seq (T_region hc (Ch.s (.ptr 1000 0) (.box 1000 _ _ rfl (.aggD _)) (Ch.s (.c (.slice none 0 0)) pa (Ch.nil (T_seq (T_region hc (Ch.s (.row 8000) (.slice 8000 _ 55 _ rfl sty49 (xs := []) rfl rfl .nil rfl rfl (by decide)) ?_)))))))
 refine Ch.s (.row 8000) pa (Ch.nil (T_seq (T_seq (T_region hc (Ch.s (.ptr 1000 2) (.pure (.fldPtr _ _ _ rfl fld35_2 rfl)) (Ch.s (.d (.slice false 4 (x.arcs.map Arc.d))) (.pure (.loadPtr1 _ _ rfl ag33 rfl rfl rfl)) (Ch.s (.d (.int .i64 (x.arcs.length : Int))) (.pure (.len _ _ 125 rfl Tryz.underlying33 (.sh _ _) (by simp))) ?_)))))))
 refine Ch.s (.d (.int .i64 0)) pm (Ch.nil (T_block ?_))
 refine T_loop (ι := Nat) (fun k => { n := 63, sl := [(1, (.ptr 1000 0)), (3, (.row 3)), (10, (.d (.slice false 4 (x.arcs.map Arc.d)))), (11, (.d (.int .i64 (x.arcs.length : Int)))), (12, (.d (.int .i64 (k : Int))))], hp := [(3, (some (.row 1 ((prTo (twP x) x.arcs.length k).map intsU)))), (1000, (some (.box (vX x))))], pin := [] }) (fun k => k ≤ x.arcs.length) (fun k => x.arcs.length - k) ⟨0, (by omega), (Wk.ren [(3, 8000)] rfl rfl rfl rfl (ai rfl (ai rfl (ai rfl (ai rfl (ai (vI a114) trivial))))) (ai (oR a109) (ai rfl trivial)))⟩ (fun k hp0 => ?_)
 refine T_seq (T_region hc (Ch.s (.d (.bool (decide ((k : Int) < (x.arcs.length : Int))))) (iX rfl rfl rfl) (Ch.nil (T_seq ?_))))
 refine T_condD (p := ((k : Int) < (x.arcs.length : Int))) rfl (fun h1 => ?_) (fun h1 => ?_)
 ·
  try have hsk := (hx.sig _ (getD_mem (l := x.arcs) (j := k) (d := default) (by omega))).2
  refine T_skip (T_seq (T_block (T_seq (T_region hc (Ch.s (.d (.int .i64 (k : Int))) pm (Ch.s (.d (.ref (.agg [(.int .i64 ((x.arcs.getD k default).src)), (.int .i64 ((x.arcs.getD k default).sig)), (.bool ((x.arcs.getD k default).up)), (.int .i64 ((x.arcs.getD k default).dst))]))) (.pure (.idx _ _ _ 125 (k) rfl Tryz.underlying33 sz125 rfl rfl rfl get_mapA)) (Ch.s (.d (.agg [(.int .i64 ((x.arcs.getD k default).src)), (.int .i64 ((x.arcs.getD k default).sig)), (.bool ((x.arcs.getD k default).up)), (.int .i64 ((x.arcs.getD k default).dst))])) (.pure (.loadRefA _ _ rfl ag125 sz125 rfl)) ?_)))))))
  refine Ch.s (.ptr 5000 0) (.alloc 5000 _ rfl zer125) (Ch.s (.d (.int .i64 (k : Int))) pa (Ch.s .junk (.storePtr _ _ _ rfl rfl rfl (.aggD _) sz125 (lb rfl)) (Ch.nil (T_seq (T_region hc (Ch.s (.d (.int .i64 (k : Int))) pm (Ch.s (.d (.int .i64 ((k : Int) + 1))) (iX rfl rfl intV_addA) ?_)))))))
  refine Ch.s (.d (.int .i64 ((k : Int) + 1))) pa (Ch.nil (T_block ?_))
  refine T_loop (ι := Nat) (fun m => { n := 63, sl := [(1, (.ptr 1000 0)), (3, (.row 3)), (4, (.d (.int .i64 (k : Int)))), (5, (.ptr 5000 0)), (6, (.d (.int .i64 (m : Int)))), (10, (.d (.slice false 4 (x.arcs.map Arc.d)))), (11, (.d (.int .i64 (x.arcs.length : Int)))), (12, (.d (.int .i64 (k : Int))))], hp := [(3, (some (.row 1 ((prM (twP x) x.arcs.length k m).map intsU)))), (1000, (some (.box (vX x)))), (5000, (some (.box [(.d (.int .i64 ((x.arcs.getD k default).src))), (.d (.int .i64 ((x.arcs.getD k default).sig))), (.d (.bool ((x.arcs.getD k default).up))), (.d (.int .i64 ((x.arcs.getD k default).dst)))])))], pin := [] }) (fun m => k < m ∧ m ≤ x.arcs.length) (fun m => x.arcs.length - m) ⟨k + 1, ⟨by omega, by omega⟩, (Wk.of rfl rfl (ai rfl (ai rfl (ai rfl (ai rfl (ai (vI a114) (ai rfl (ai rfl (ai rfl trivial)))))))) (ai (oR a36) (ai rfl (ai rfl trivial))))⟩ (fun m hp1 => ?_)
  have hq := prM_leA (twP x) (n := x.arcs.length) (k := k) (m := m) (by omega) (by omega) (by omega)
  refine T_seq (T_seq (T_region hc (Ch.s (.d (.int .i64 (m : Int))) pm (Ch.s (.ptr 1000 2) (.pure (.fldPtr _ _ _ rfl fld35_2 rfl)) (Ch.s (.d (.slice false 4 (x.arcs.map Arc.d))) (.pure (.loadPtr1 _ _ rfl ag33 rfl rfl rfl)) (Ch.s (.d (.int .i64 (x.arcs.length : Int))) (.pure (.len _ _ 125 rfl Tryz.underlying33 (.sh _ _) (by simp))) (Ch.s (.d (.bool (decide ((m : Int) < (x.arcs.length : Int))))) (iX rfl rfl rfl) ?_)))))))
  refine Ch.nil ?_
  refine T_condD (p := ((m : Int) < (x.arcs.length : Int))) rfl (fun h2 => ?_) (fun h2 => ?_)
  ·
   refine T_skip (T_seq (T_block (T_seq (T_region hc (Ch.s (.ptr 1000 2) (.pure (.fldPtr _ _ _ rfl fld35_2 rfl)) (Ch.s (.d (.slice false 4 (x.arcs.map Arc.d))) (.pure (.loadPtr1 _ _ rfl ag33 rfl rfl rfl)) (Ch.s (.d (.int .i64 (m : Int))) pm ?_)))))))
   refine Ch.s (.d (.ref (.agg [(.int .i64 ((x.arcs.getD m default).src)), (.int .i64 ((x.arcs.getD m default).sig)), (.bool ((x.arcs.getD m default).up)), (.int .i64 ((x.arcs.getD m default).dst))]))) (.pure (.idx _ _ _ 125 (m) rfl Tryz.underlying33 sz125 rfl rfl rfl get_mapA)) (Ch.s (.d (.agg [(.int .i64 ((x.arcs.getD m default).src)), (.int .i64 ((x.arcs.getD m default).sig)), (.bool ((x.arcs.getD m default).up)), (.int .i64 ((x.arcs.getD m default).dst))])) (.pure (.loadRefA _ _ rfl ag125 sz125 rfl)) (Ch.s (.ptr 7000 0) (.alloc 7000 _ rfl zer125) (Ch.s .junk (.storePtr _ _ _ rfl rfl rfl (.aggD _) sz125 (lb rfl)) (Ch.nil (T_seq (T_region hc (Ch.s (.ptr 5000 1) (.pure (.fldPtr _ _ _ rfl fld125_1 rfl)) ?_)))))))
   refine Ch.s (.d (.int .i64 ((x.arcs.getD k default).sig))) (.pure (.loadPtr1 _ _ rfl ag3 rfl rfl rfl)) (Ch.s (.d (.bool (!(decide (((x.arcs.getD k default).sig) = (-1)))))) (iX rfl rfl rfl) (Ch.s (.d (.bool (!(decide (((x.arcs.getD k default).sig) = (-1)))))) pm ?_))
   cases h3 : (decide (((x.arcs.getD k default).sig) = (-1))) with
   | true =>
    replace h3 := of_decide_eq_true h3
    refine Ch.skip rfl rfl (Ch.skip rfl rfl (Ch.skip rfl rfl (Ch.skip rfl rfl (Ch.skip rfl rfl (Ch.s (.d (.bool false)) (.pure (.pickF _ _ _ rfl rfl rfl)) (Ch.s (.d (.bool false)) pm (Ch.skip rfl rfl ?_)))))))
    refine Ch.skip rfl rfl (Ch.skip rfl rfl (Ch.skip rfl rfl (Ch.skip rfl rfl (Ch.s (.d (.bool false)) (.pure (.pickF _ _ _ rfl rfl rfl)) (Ch.s (.d (.bool false)) pm (Ch.skip rfl rfl (Ch.skip rfl rfl ?_)))))))
    refine Ch.skip rfl rfl (Ch.skip rfl rfl (Ch.skip rfl rfl (Ch.s (.d (.bool false)) (.pure (.pickF _ _ _ rfl rfl rfl)) (Ch.nil ?_))))
    refine T_cond (b := false) rfl (fun h => nomatch h) (fun _ => ?_)
    refine T_skip (T_region hc (Ch.s (.d (.int .i64 (m : Int))) pm (Ch.s (.d (.int .i64 ((m : Int) + 1))) (iX rfl rfl intV_addA) (Ch.s (.d (.int .i64 ((m : Int) + 1))) pa (Ch.nil ?_)))))
    exact nx (m + 1) ⟨by omega, by omega⟩ (Wk.of rfl rfl (ai rfl (ai rfl (ai rfl (ai rfl (ai (vI a114) (ai rfl (ai rfl (ai rfl trivial)))))))) (ai (oR a36) (ai rfl (ai rfl trivial))))
   | false =>
    replace h3 := of_decide_eq_false h3
    refine Ch.s (.ptr 7000 0) (.pure (.fldPtr _ _ _ rfl fld125_0 rfl)) (Ch.s (.d (.int .i64 ((x.arcs.getD m default).src))) (.pure (.loadPtr1 _ _ rfl ag3 rfl rfl rfl)) (Ch.s (.ptr 5000 0) (.pure (.fldPtr _ _ _ rfl fld125_0 rfl)) (Ch.s (.d (.int .i64 ((x.arcs.getD k default).src))) (.pure (.loadPtr1 _ _ rfl ag3 rfl rfl rfl)) (Ch.s (.d (.bool (decide (((x.arcs.getD m default).src) = ((x.arcs.getD k default).src))))) (iX rfl rfl rfl) (Ch.s (.d (.bool (decide (((x.arcs.getD m default).src) = ((x.arcs.getD k default).src))))) (.pure (.pickT _ _ _ rfl rfl rfl)) (Ch.s (.d (.bool (decide (((x.arcs.getD m default).src) = ((x.arcs.getD k default).src))))) pm ?_))))))
    cases h4 : (decide (((x.arcs.getD m default).src) = ((x.arcs.getD k default).src))) with
    | true =>
     replace h4 := of_decide_eq_true h4
     refine Ch.s (.ptr 7000 1) (.pure (.fldPtr _ _ _ rfl fld125_1 rfl)) (Ch.s (.d (.int .i64 ((x.arcs.getD m default).sig))) (.pure (.loadPtr1 _ _ rfl ag3 rfl rfl rfl)) (Ch.s (.ptr 5000 1) (.pure (.fldPtr _ _ _ rfl fld125_1 rfl)) (Ch.s (.d (.int .i64 ((x.arcs.getD k default).sig))) (.pure (.loadPtr1 _ _ rfl ag3 rfl rfl rfl)) (Ch.s (.d (.bool (decide (((x.arcs.getD m default).sig) = ((x.arcs.getD k default).sig))))) (iX rfl rfl rfl) (Ch.s (.d (.bool (decide (((x.arcs.getD m default).sig) = ((x.arcs.getD k default).sig))))) (.pure (.pickT _ _ _ rfl rfl rfl)) (Ch.s (.d (.bool (decide (((x.arcs.getD m default).sig) = ((x.arcs.getD k default).sig))))) pm ?_))))))
     cases h5 : (decide (((x.arcs.getD m default).sig) = ((x.arcs.getD k default).sig))) with
     | true =>
      replace h5 := of_decide_eq_true h5
      refine Ch.s (.ptr 7000 3) (.pure (.fldPtr _ _ _ rfl fld125_3 rfl)) (Ch.s (.d (.int .i64 ((x.arcs.getD m default).dst))) (.pure (.loadPtr1 _ _ rfl ag3 rfl rfl rfl)) (Ch.s (.ptr 5000 3) (.pure (.fldPtr _ _ _ rfl fld125_3 rfl)) (Ch.s (.d (.int .i64 ((x.arcs.getD k default).dst))) (.pure (.loadPtr1 _ _ rfl ag3 rfl rfl rfl)) (Ch.s (.d (.bool (!(decide (((x.arcs.getD m default).dst) = ((x.arcs.getD k default).dst)))))) (iX rfl rfl rfl) (Ch.s (.d (.bool (!(decide (((x.arcs.getD m default).dst) = ((x.arcs.getD k default).dst)))))) (.pure (.pickT _ _ _ rfl rfl rfl)) (Ch.nil ?_))))))
      refine T_condN (b := (decide (((x.arcs.getD m default).dst) = ((x.arcs.getD k default).dst)))) rfl (fun h6 => ?_) (fun h6 => ?_)
      ·
       replace h6 := of_decide_eq_false h6
       refine T_region hc (Ch.s (.row 3) pm (Ch.s (.d (.int .i64 (k : Int))) pm (Ch.s (.d (.int .i64 (m : Int))) pm (Ch.s (.row 58000) (.slice 58000 _ 3 _ rfl sty55 (xs := [.tmp 56, .tmp 57]) rfl rfl (.cons (.d _) (.cons (.d _) .nil)) rfl rfl (by decide)) (Ch.s (.row 59000) (.slice 59000 _ 55 _ rfl sty49 (xs := [.tmp 58]) rfl rfl (.cons (.row rfl) .nil) rfl rfl (by decide)) ?_)))))
       refine Ch.step (v := (.row 60000)) rfl (.append 60000 _ _ _ 55 rfl sty49 (by decide) (.rowK rfl) (.inr ⟨_, rfl, rfl⟩) (.rowK rfl) rfl a56) rfl rfl ?_
       refine Ch.s (.row 60000) pa (Ch.nil (T_region hc (Ch.s (.d (.int .i64 (m : Int))) pm (Ch.s (.d (.int .i64 ((m : Int) + 1))) (iX rfl rfl intV_addA) (Ch.s (.d (.int .i64 ((m : Int) + 1))) pa (Ch.nil ?_))))))
       exact nx (m + 1) ⟨by omega, by omega⟩ (Wk.ren [(3, 60000)] rfl rfl rfl rfl (ai rfl (ai rfl (ai rfl (ai rfl (ai (vI a114) (ai rfl (ai rfl (ai rfl trivial)))))))) (ai (oR a36) (ai rfl (ai rfl trivial))))
      ·
       replace h6 := of_decide_eq_true h6
       refine T_skip (T_region hc (Ch.s (.d (.int .i64 (m : Int))) pm (Ch.s (.d (.int .i64 ((m : Int) + 1))) (iX rfl rfl intV_addA) (Ch.s (.d (.int .i64 ((m : Int) + 1))) pa (Ch.nil ?_)))))
       exact nx (m + 1) ⟨by omega, by omega⟩ (Wk.of rfl rfl (ai rfl (ai rfl (ai rfl (ai rfl (ai (vI a114) (ai rfl (ai rfl (ai rfl trivial)))))))) (ai (oR a36) (ai rfl (ai rfl trivial))))
     | false =>
      replace h5 := of_decide_eq_false h5
      refine Ch.skip rfl rfl (Ch.skip rfl rfl (Ch.skip rfl rfl (Ch.skip rfl rfl (Ch.skip rfl rfl (Ch.s (.d (.bool false)) (.pure (.pickF _ _ _ rfl rfl rfl)) (Ch.nil ?_))))))
      refine T_cond (b := false) rfl (fun h => nomatch h) (fun _ => ?_)
      refine T_skip (T_region hc (Ch.s (.d (.int .i64 (m : Int))) pm (Ch.s (.d (.int .i64 ((m : Int) + 1))) (iX rfl rfl intV_addA) (Ch.s (.d (.int .i64 ((m : Int) + 1))) pa (Ch.nil ?_)))))
      exact nx (m + 1) ⟨by omega, by omega⟩ (Wk.of rfl rfl (ai rfl (ai rfl (ai rfl (ai rfl (ai (vI a114) (ai rfl (ai rfl (ai rfl trivial)))))))) (ai (oR a36) (ai rfl (ai rfl trivial))))
    | false =>
     replace h4 := of_decide_eq_false h4
     refine Ch.skip rfl rfl (Ch.skip rfl rfl (Ch.skip rfl rfl (Ch.skip rfl rfl (Ch.skip rfl rfl (Ch.s (.d (.bool false)) (.pure (.pickF _ _ _ rfl rfl rfl)) (Ch.s (.d (.bool false)) pm (Ch.skip rfl rfl ?_)))))))
     refine Ch.skip rfl rfl (Ch.skip rfl rfl (Ch.skip rfl rfl (Ch.skip rfl rfl (Ch.s (.d (.bool false)) (.pure (.pickF _ _ _ rfl rfl rfl)) (Ch.nil ?_)))))
     refine T_cond (b := false) rfl (fun h => nomatch h) (fun _ => ?_)
     refine T_skip (T_region hc (Ch.s (.d (.int .i64 (m : Int))) pm (Ch.s (.d (.int .i64 ((m : Int) + 1))) (iX rfl rfl intV_addA) (Ch.s (.d (.int .i64 ((m : Int) + 1))) pa (Ch.nil ?_)))))
     exact nx (m + 1) ⟨by omega, by omega⟩ (Wk.of rfl rfl (ai rfl (ai rfl (ai rfl (ai rfl (ai (vI a114) (ai rfl (ai rfl (ai rfl trivial)))))))) (ai (oR a36) (ai rfl (ai rfl trivial))))
  ·
   refine T_exit (T_region hc (Ch.s (.d (.int .i64 ((k : Int) + 1))) (iX rfl rfl intV_addA) (Ch.s (.d (.int .i64 ((k : Int) + 1))) pm (Ch.nil ?_))))
   exact nx (k + 1) (by omega) (Wk.of rfl rfl (ai rfl (ai rfl (ai rfl (ai rfl (ai (vI a114) trivial))))) (ai (oR a109) (ai rfl trivial)))
 ·
  try have hsk := (hx.sig _ (getD_mem (l := x.arcs) (j := k) (d := default) (by omega))).2
  refine T_exit (T_seq (T_region hc (Ch.s (.row 3) pm (Ch.s (.row 3) pa (Ch.nil (T_ret ?_))))))
  exact endR [(.row 3)] [] [3] (.cons (.tmp 2 rfl) .nil) (.cons (.any _) .nil) (Exp.of (congrArg (D.slice true 1) (by rw [twL, show x.arcs.length = k by omega])) (.row rfl)) rfl rfl

set_option maxHeartbeats 1000000 in
theorem sp_spec_l6Ways (x : Sgr) (hb : x.bulk ≤ 1048576) (hx : SgOk x) : Sp Tryz.prog 167 [(.agg [(.slice false 2 (x.sigs.map Sgn.d)), (.slice false 1 (x.codes.map D.str)), (.slice false 4 (x.arcs.map Arc.d))])] [.any] (.slice true 1 ((twL x).map intsU)) := by
 refine Sp_intro (lend := true) Tryz.func167 rfl rfl rfl (fun _ => rfl) (fun c hc hX => ?_)
 obtain ⟨hp0, hp1, hp2⟩ := Sgr.parts hb
 have hn0 := bulkF_len hp0
 have hn1 := bulk_len hp1
 have hx1 := bulk_mem hp1
 have hn2 := bulkF_len hp2; have hx8 := hx.eight; have hxl := hx.len; have hxf := hx.few; have hen := hx.ends
 refine T_seq (T_region hc (Ch.s (.ptr 1000 0) (.box 1000 _ _ rfl (.aggD _)) (Ch.s (.c (.slice none 0 0)) pa (Ch.nil (T_seq (T_region hc (Ch.s (.c (.slice none 0 0)) pa ?_)))))))
 refine Ch.nil (T_seq (T_seq (T_region hc (Ch.s (.ptr 1000 2) (.pure (.fldPtr _ _ _ rfl fld35_2 rfl)) (Ch.s (.d (.slice false 4 (x.arcs.map Arc.d))) (.pure (.loadPtr1 _ _ rfl ag33 rfl rfl rfl)) (Ch.s (.d (.int .i64 (x.arcs.length : Int))) (.pure (.len _ _ 125 rfl Tryz.underlying33 (.sh _ _) (by simp))) (Ch.s (.d (.int .i64 0)) pm ?_)))))))
 refine Ch.nil (T_block ?_)
 refine T_loop (ι := Nat) (fun k => { n := 62, sl := [(1, (.ptr 1000 0)), (3, (.row 3)), (9, (.d (.slice false 4 (x.arcs.map Arc.d)))), (10, (.d (.int .i64 (x.arcs.length : Int)))), (11, (.d (.int .i64 (k : Int))))], hp := [(3, (some (.row 1 ((prTo (twP x) x.arcs.length k).map intsU)))), (1000, (some (.box (vX x))))], pin := [] }) (fun k => k ≤ x.arcs.length) (fun k => x.arcs.length - k) ⟨0, (by omega), (Wk.trans (Wk.nilrow 3 900003 1 rfl rfl rfl) (Wk.ren [(3, 900003)] rfl rfl rfl rfl (ai rfl (ai rfl (ai rfl (ai rfl (ai (vI a114) trivial))))) (ai (oR a109) (ai rfl trivial))))⟩ (fun k hp0 => ?_)
 refine T_seq (T_region hc (Ch.s (.d (.bool (decide ((k : Int) < (x.arcs.length : Int))))) (iX rfl rfl rfl) (Ch.nil (T_seq ?_))))
 refine T_condD (p := ((k : Int) < (x.arcs.length : Int))) rfl (fun h1 => ?_) (fun h1 => ?_)
 ·
  try have hsk := (hx.sig _ (getD_mem (l := x.arcs) (j := k) (d := default) (by omega))).2
  refine T_skip (T_seq (T_block (T_seq (T_region hc (Ch.s (.d (.int .i64 (k : Int))) pm (Ch.s (.d (.ref (.agg [(.int .i64 ((x.arcs.getD k default).src)), (.int .i64 ((x.arcs.getD k default).sig)), (.bool ((x.arcs.getD k default).up)), (.int .i64 ((x.arcs.getD k default).dst))]))) (.pure (.idx _ _ _ 125 (k) rfl Tryz.underlying33 sz125 rfl rfl rfl get_mapA)) (Ch.s (.d (.agg [(.int .i64 ((x.arcs.getD k default).src)), (.int .i64 ((x.arcs.getD k default).sig)), (.bool ((x.arcs.getD k default).up)), (.int .i64 ((x.arcs.getD k default).dst))])) (.pure (.loadRefA _ _ rfl ag125 sz125 rfl)) ?_)))))))
  refine Ch.s (.ptr 5000 0) (.alloc 5000 _ rfl zer125) (Ch.s (.d (.int .i64 (k : Int))) pa (Ch.s .junk (.storePtr _ _ _ rfl rfl rfl (.aggD _) sz125 (lb rfl)) (Ch.nil (T_seq (T_region hc (Ch.s (.d (.int .i64 (k : Int))) pm (Ch.s (.d (.int .i64 ((k : Int) + 1))) (iX rfl rfl intV_addA) ?_)))))))
  refine Ch.s (.d (.int .i64 ((k : Int) + 1))) pa (Ch.nil (T_block ?_))
  refine T_loop (ι := Nat) (fun m => { n := 62, sl := [(1, (.ptr 1000 0)), (3, (.row 3)), (4, (.d (.int .i64 (k : Int)))), (5, (.ptr 5000 0)), (6, (.d (.int .i64 (m : Int)))), (9, (.d (.slice false 4 (x.arcs.map Arc.d)))), (10, (.d (.int .i64 (x.arcs.length : Int)))), (11, (.d (.int .i64 (k : Int))))], hp := [(3, (some (.row 1 ((prM (twP x) x.arcs.length k m).map intsU)))), (1000, (some (.box (vX x)))), (5000, (some (.box [(.d (.int .i64 ((x.arcs.getD k default).src))), (.d (.int .i64 ((x.arcs.getD k default).sig))), (.d (.bool ((x.arcs.getD k default).up))), (.d (.int .i64 ((x.arcs.getD k default).dst)))])))], pin := [] }) (fun m => k < m ∧ m ≤ x.arcs.length) (fun m => x.arcs.length - m) ⟨k + 1, ⟨by omega, by omega⟩, (Wk.of rfl rfl (ai rfl (ai rfl (ai rfl (ai rfl (ai (vI a114) (ai rfl (ai rfl (ai rfl trivial)))))))) (ai (oR a36) (ai rfl (ai rfl trivial))))⟩ (fun m hp1 => ?_)
  have hq := prM_leA (twP x) (n := x.arcs.length) (k := k) (m := m) (by omega) (by omega) (by omega)
  refine T_seq (T_seq (T_region hc (Ch.s (.d (.int .i64 (m : Int))) pm (Ch.s (.ptr 1000 2) (.pure (.fldPtr _ _ _ rfl fld35_2 rfl)) (Ch.s (.d (.slice false 4 (x.arcs.map Arc.d))) (.pure (.loadPtr1 _ _ rfl ag33 rfl rfl rfl)) (Ch.s (.d (.int .i64 (x.arcs.length : Int))) (.pure (.len _ _ 125 rfl Tryz.underlying33 (.sh _ _) (by simp))) (Ch.s (.d (.bool (decide ((m : Int) < (x.arcs.length : Int))))) (iX rfl rfl rfl) ?_)))))))
  refine Ch.nil ?_
  refine T_condD (p := ((m : Int) < (x.arcs.length : Int))) rfl (fun h2 => ?_) (fun h2 => ?_)
  ·
   refine T_skip (T_seq (T_block (T_seq (T_region hc (Ch.s (.ptr 1000 2) (.pure (.fldPtr _ _ _ rfl fld35_2 rfl)) (Ch.s (.d (.slice false 4 (x.arcs.map Arc.d))) (.pure (.loadPtr1 _ _ rfl ag33 rfl rfl rfl)) (Ch.s (.d (.int .i64 (m : Int))) pm ?_)))))))
   refine Ch.s (.d (.ref (.agg [(.int .i64 ((x.arcs.getD m default).src)), (.int .i64 ((x.arcs.getD m default).sig)), (.bool ((x.arcs.getD m default).up)), (.int .i64 ((x.arcs.getD m default).dst))]))) (.pure (.idx _ _ _ 125 (m) rfl Tryz.underlying33 sz125 rfl rfl rfl get_mapA)) (Ch.s (.d (.agg [(.int .i64 ((x.arcs.getD m default).src)), (.int .i64 ((x.arcs.getD m default).sig)), (.bool ((x.arcs.getD m default).up)), (.int .i64 ((x.arcs.getD m default).dst))])) (.pure (.loadRefA _ _ rfl ag125 sz125 rfl)) (Ch.s (.ptr 7000 0) (.alloc 7000 _ rfl zer125) (Ch.s .junk (.storePtr _ _ _ rfl rfl rfl (.aggD _) sz125 (lb rfl)) (Ch.nil (T_seq (T_region hc (Ch.s (.ptr 5000 0) (.pure (.fldPtr _ _ _ rfl fld125_0 rfl)) ?_)))))))
   refine Ch.s (.d (.int .i64 ((x.arcs.getD k default).src))) (.pure (.loadPtr1 _ _ rfl ag3 rfl rfl rfl)) (Ch.s (.ptr 7000 0) (.pure (.fldPtr _ _ _ rfl fld125_0 rfl)) (Ch.s (.d (.int .i64 ((x.arcs.getD m default).src))) (.pure (.loadPtr1 _ _ rfl ag3 rfl rfl rfl)) (Ch.s (.d (.bool (decide (((x.arcs.getD k default).src) = ((x.arcs.getD m default).src))))) (iX rfl rfl rfl) (Ch.s (.d (.bool (decide (((x.arcs.getD k default).src) = ((x.arcs.getD m default).src))))) pm ?_))))
   cases h3 : (decide (((x.arcs.getD k default).src) = ((x.arcs.getD m default).src))) with
   | true =>
    replace h3 := of_decide_eq_true h3
    refine Ch.s (.ptr 5000 1) (.pure (.fldPtr _ _ _ rfl fld125_1 rfl)) (Ch.s (.d (.int .i64 ((x.arcs.getD k default).sig))) (.pure (.loadPtr1 _ _ rfl ag3 rfl rfl rfl)) (Ch.s (.ptr 7000 1) (.pure (.fldPtr _ _ _ rfl fld125_1 rfl)) (Ch.s (.d (.int .i64 ((x.arcs.getD m default).sig))) (.pure (.loadPtr1 _ _ rfl ag3 rfl rfl rfl)) (Ch.s (.d (.bool (decide (((x.arcs.getD k default).sig) = ((x.arcs.getD m default).sig))))) (iX rfl rfl rfl) (Ch.s (.d (.bool (decide (((x.arcs.getD k default).sig) = ((x.arcs.getD m default).sig))))) (.pure (.pickT _ _ _ rfl rfl rfl)) (Ch.s (.d (.bool (decide (((x.arcs.getD k default).sig) = ((x.arcs.getD m default).sig))))) pm ?_))))))
    cases h4 : (decide (((x.arcs.getD k default).sig) = ((x.arcs.getD m default).sig))) with
    | true =>
     replace h4 := of_decide_eq_true h4
     refine Ch.s (.ptr 5000 1) (.pure (.fldPtr _ _ _ rfl fld125_1 rfl)) (Ch.s (.d (.int .i64 ((x.arcs.getD k default).sig))) (.pure (.loadPtr1 _ _ rfl ag3 rfl rfl rfl)) (Ch.s (.d (.bool (decide (0 ≤ ((x.arcs.getD k default).sig))))) (iX rfl rfl rfl) (Ch.s (.d (.bool (decide (0 ≤ ((x.arcs.getD k default).sig))))) (.pure (.pickT _ _ _ rfl rfl rfl)) (Ch.s (.d (.bool (decide (0 ≤ ((x.arcs.getD k default).sig))))) pm ?_))))
     cases h5 : (decide (0 ≤ ((x.arcs.getD k default).sig))) with
     | true =>
      replace h5 := of_decide_eq_true h5
      refine Ch.s (.ptr 5000 3) (.pure (.fldPtr _ _ _ rfl fld125_3 rfl)) (Ch.s (.d (.int .i64 ((x.arcs.getD k default).dst))) (.pure (.loadPtr1 _ _ rfl ag3 rfl rfl rfl)) (Ch.s (.ptr 7000 3) (.pure (.fldPtr _ _ _ rfl fld125_3 rfl)) (Ch.s (.d (.int .i64 ((x.arcs.getD m default).dst))) (.pure (.loadPtr1 _ _ rfl ag3 rfl rfl rfl)) (Ch.s (.d (.bool (!(decide (((x.arcs.getD k default).dst) = ((x.arcs.getD m default).dst)))))) (iX rfl rfl rfl) (Ch.s (.d (.bool (!(decide (((x.arcs.getD k default).dst) = ((x.arcs.getD m default).dst)))))) (.pure (.pickT _ _ _ rfl rfl rfl)) (Ch.nil ?_))))))
      refine T_condN (b := (decide (((x.arcs.getD k default).dst) = ((x.arcs.getD m default).dst)))) rfl (fun h6 => ?_) (fun h6 => ?_)
      ·
       replace h6 := of_decide_eq_false h6
       refine T_region hc (Ch.s (.row 3) pm (Ch.s (.d (.int .i64 (k : Int))) pm (Ch.s (.d (.int .i64 (m : Int))) pm (Ch.s (.row 57000) (.slice 57000 _ 3 _ rfl sty55 (xs := [.tmp 55, .tmp 56]) rfl rfl (.cons (.d _) (.cons (.d _) .nil)) rfl rfl (by decide)) (Ch.s (.row 58000) (.slice 58000 _ 55 _ rfl sty49 (xs := [.tmp 57]) rfl rfl (.cons (.row rfl) .nil) rfl rfl (by decide)) ?_)))))
       refine Ch.step (v := (.row 59000)) rfl (.append 59000 _ _ _ 55 rfl sty49 (by decide) (.rowK rfl) (.inr ⟨_, rfl, rfl⟩) (.rowK rfl) rfl a56) rfl rfl ?_
       refine Ch.s (.row 59000) pa (Ch.nil (T_region hc (Ch.s (.d (.int .i64 (m : Int))) pm (Ch.s (.d (.int .i64 ((m : Int) + 1))) (iX rfl rfl intV_addA) (Ch.s (.d (.int .i64 ((m : Int) + 1))) pa (Ch.nil ?_))))))
       exact nx (m + 1) ⟨by omega, by omega⟩ (Wk.ren [(3, 59000)] rfl rfl rfl rfl (ai rfl (ai rfl (ai rfl (ai rfl (ai (vI a114) (ai rfl (ai rfl (ai rfl trivial)))))))) (ai (oR a36) (ai rfl (ai rfl trivial))))
      ·
       replace h6 := of_decide_eq_true h6
       refine T_skip (T_region hc (Ch.s (.d (.int .i64 (m : Int))) pm (Ch.s (.d (.int .i64 ((m : Int) + 1))) (iX rfl rfl intV_addA) (Ch.s (.d (.int .i64 ((m : Int) + 1))) pa (Ch.nil ?_)))))
       exact nx (m + 1) ⟨by omega, by omega⟩ (Wk.of rfl rfl (ai rfl (ai rfl (ai rfl (ai rfl (ai (vI a114) (ai rfl (ai rfl (ai rfl trivial)))))))) (ai (oR a36) (ai rfl (ai rfl trivial))))
     | false =>
      replace h5 := of_decide_eq_false h5
      refine Ch.skip rfl rfl (Ch.skip rfl rfl (Ch.skip rfl rfl (Ch.skip rfl rfl (Ch.skip rfl rfl (Ch.s (.d (.bool false)) (.pure (.pickF _ _ _ rfl rfl rfl)) (Ch.nil ?_))))))
      refine T_cond (b := false) rfl (fun h => nomatch h) (fun _ => ?_)
      refine T_skip (T_region hc (Ch.s (.d (.int .i64 (m : Int))) pm (Ch.s (.d (.int .i64 ((m : Int) + 1))) (iX rfl rfl intV_addA) (Ch.s (.d (.int .i64 ((m : Int) + 1))) pa (Ch.nil ?_)))))
      exact nx (m + 1) ⟨by omega, by omega⟩ (Wk.of rfl rfl (ai rfl (ai rfl (ai rfl (ai rfl (ai (vI a114) (ai rfl (ai rfl (ai rfl trivial)))))))) (ai (oR a36) (ai rfl (ai rfl trivial))))
    | false =>
     replace h4 := of_decide_eq_false h4
     refine Ch.skip rfl rfl (Ch.skip rfl rfl (Ch.skip rfl rfl (Ch.s (.d (.bool false)) (.pure (.pickF _ _ _ rfl rfl rfl)) (Ch.s (.d (.bool false)) pm (Ch.skip rfl rfl (Ch.skip rfl rfl (Ch.skip rfl rfl ?_)))))))
     refine Ch.skip rfl rfl (Ch.skip rfl rfl (Ch.s (.d (.bool false)) (.pure (.pickF _ _ _ rfl rfl rfl)) (Ch.nil ?_)))
     refine T_cond (b := false) rfl (fun h => nomatch h) (fun _ => ?_)
     refine T_skip (T_region hc (Ch.s (.d (.int .i64 (m : Int))) pm (Ch.s (.d (.int .i64 ((m : Int) + 1))) (iX rfl rfl intV_addA) (Ch.s (.d (.int .i64 ((m : Int) + 1))) pa (Ch.nil ?_)))))
     exact nx (m + 1) ⟨by omega, by omega⟩ (Wk.of rfl rfl (ai rfl (ai rfl (ai rfl (ai rfl (ai (vI a114) (ai rfl (ai rfl (ai rfl trivial)))))))) (ai (oR a36) (ai rfl (ai rfl trivial))))
   | false =>
    replace h3 := of_decide_eq_false h3
    refine Ch.skip rfl rfl (Ch.skip rfl rfl (Ch.skip rfl rfl (Ch.skip rfl rfl (Ch.skip rfl rfl (Ch.s (.d (.bool false)) (.pure (.pickF _ _ _ rfl rfl rfl)) (Ch.s (.d (.bool false)) pm (Ch.skip rfl rfl ?_)))))))
    refine Ch.skip rfl rfl (Ch.skip rfl rfl (Ch.s (.d (.bool false)) (.pure (.pickF _ _ _ rfl rfl rfl)) (Ch.s (.d (.bool false)) pm (Ch.skip rfl rfl (Ch.skip rfl rfl (Ch.skip rfl rfl (Ch.skip rfl rfl ?_)))))))
    refine Ch.skip rfl rfl (Ch.s (.d (.bool false)) (.pure (.pickF _ _ _ rfl rfl rfl)) (Ch.nil ?_))
    refine T_cond (b := false) rfl (fun h => nomatch h) (fun _ => ?_)
    refine T_skip (T_region hc (Ch.s (.d (.int .i64 (m : Int))) pm (Ch.s (.d (.int .i64 ((m : Int) + 1))) (iX rfl rfl intV_addA) (Ch.s (.d (.int .i64 ((m : Int) + 1))) pa (Ch.nil ?_)))))
    exact nx (m + 1) ⟨by omega, by omega⟩ (Wk.of rfl rfl (ai rfl (ai rfl (ai rfl (ai rfl (ai (vI a114) (ai rfl (ai rfl (ai rfl trivial)))))))) (ai (oR a36) (ai rfl (ai rfl trivial))))
  ·
   refine T_exit (T_region hc (Ch.s (.d (.int .i64 ((k : Int) + 1))) (iX rfl rfl intV_addA) (Ch.s (.d (.int .i64 ((k : Int) + 1))) pm (Ch.nil ?_))))
   exact nx (k + 1) (by omega) (Wk.of rfl rfl (ai rfl (ai rfl (ai rfl (ai rfl (ai (vI a114) trivial))))) (ai (oR a109) (ai rfl trivial)))
 ·
  try have hsk := (hx.sig _ (getD_mem (l := x.arcs) (j := k) (d := default) (by omega))).2
  refine T_exit (T_seq (T_region hc (Ch.s (.row 3) pm (Ch.s (.row 3) pa (Ch.nil (T_ret ?_))))))
  exact endR [(.row 3)] [] [3] (.cons (.tmp 2 rfl) .nil) (.cons (.any _) .nil) (Exp.of (congrArg (D.slice true 1) (by rw [twL, show x.arcs.length = k by omega])) (.row rfl)) rfl rfl

theorem sp_spec_l6Own (x : Sgr) (sig : Int) (hb : x.bulk ≤ 1048576) (hs : sig < x.sigs.length) : Sp Tryz.prog 203 [(.agg [(.slice false 2 (x.sigs.map Sgn.d)), (.slice false 1 (x.codes.map D.str)), (.slice false 4 (x.arcs.map Arc.d))]), (.int .i64 sig)] [.any, .any] (.bool (!(inputB x sig))) := by
 refine Sp_intro (lend := true) Tryz.func203 rfl rfl rfl (fun _ => rfl) (fun c hc hX => ?_)
 obtain ⟨hp0, hp1, hp2⟩ := Sgr.parts hb
 have hn0 := bulkF_len hp0
 have hn1 := bulk_len hp1
 have hx1 := bulk_mem hp1
 have hn2 := bulkF_len hp2
 refine T_seq (T_region hc (Ch.s (.ptr 2000 0) (.box 2000 _ _ rfl (.aggD _)) (Ch.s (.d (.bool false)) pa (Ch.nil (T_seq (T_region hc (Ch.s (.d (.int .i64 sig)) pm ?_)))))))
 refine Ch.s (.d (.bool (decide (sig < 0)))) (iX rfl rfl rfl) (Ch.s (.d (.bool (decide (sig < 0)))) pm ?_)
 cases h1 : (decide (sig < 0)) with
 | true =>
  replace h1 := of_decide_eq_true h1
  refine Ch.skip rfl rfl (Ch.skip rfl rfl (Ch.skip rfl rfl (Ch.skip rfl rfl (Ch.skip rfl rfl (Ch.skip rfl rfl (Ch.skip rfl rfl (Ch.s (.d (.bool true)) (.pure (.pickT _ _ _ rfl rfl rfl)) ?_)))))))
  refine Ch.s (.d (.bool true)) pa (Ch.nil (T_ret ?_))
  exact endR [(.d (.bool true))] [] [] (.cons (.tmp 4 rfl) .nil) (.cons (.any _) (.cons (.any _) .nil)) (Exp.of (congrArg D.bool a47) (.d _)) rfl rfl
 | false =>
  replace h1 := of_decide_eq_false h1
  refine Ch.s (.ptr 2000 0) (.pure (.fldPtr _ _ _ rfl fld35_0 rfl)) (Ch.s (.d (.slice false 2 (x.sigs.map Sgn.d))) (.pure (.loadPtr1 _ _ rfl ag32 rfl rfl rfl)) (Ch.s (.d (.int .i64 sig)) pm (Ch.s (.d (.ref (.agg [(.str ((x.sigs.getD ((sig).toNat) default).name)), (.int .i64 ((x.sigs.getD ((sig).toNat) default).kind))]))) (.pure (.idx _ _ _ 154 ((sig).toNat) rfl Tryz.underlying32 sz154 rfl rfl (by omega) get_mapA)) (Ch.s (.d (.ref (.int .i64 ((x.sigs.getD ((sig).toNat) default).kind)))) (.pure (.fldRef _ _ _ rfl fld154_1 rfl rfl rfl)) (Ch.s (.d (.int .i64 ((x.sigs.getD ((sig).toNat) default).kind))) (.pure (.loadRef1 _ _ rfl ag3 rfl rfl)) (Ch.s (.d (.bool (!(decide (((x.sigs.getD ((sig).toNat) default).kind) = 1))))) (iX rfl rfl rfl) (Ch.s (.d (.bool (!(decide (((x.sigs.getD ((sig).toNat) default).kind) = 1))))) (.pure (.pickF _ _ _ rfl rfl rfl)) ?_)))))))
  refine Ch.s (.d (.bool (!(decide (((x.sigs.getD ((sig).toNat) default).kind) = 1))))) pa (Ch.nil (T_ret ?_))
  exact endR [(.d (.bool (!(decide (((x.sigs.getD ((sig).toNat) default).kind) = 1)))))] [] [] (.cons (.tmp 4 rfl) .nil) (.cons (.any _) (.cons (.any _) .nil)) (Exp.of (congrArg D.bool a47) (.d _)) rfl rfl

theorem out_in {x : Sgr} {k : Nat} (h : inputB x (k : Int) = false) : outP x.sigs k = true := by
 unfold inputB at h; rw [decide_eq_true (by omega : (0 : Int) ≤ (k : Int)), Bool.true_and] at h
 unfold outP; rw [show decide ((x.sigs.getD k default).kind = 1) = false from h]; rfl

theorem out_not {x : Sgr} {k : Nat} (h : inputB x (k : Int) = true) : outP x.sigs k = false := by
 unfold inputB at h; rw [decide_eq_true (by omega : (0 : Int) ≤ (k : Int)), Bool.true_and] at h
 unfold outP; rw [show decide ((x.sigs.getD k default).kind = 1) = true from h]; rfl

theorem sp_spec_l6Owned (x : Sgr) (hb : x.bulk ≤ 1048576) : Sp Tryz.prog 131 [(.agg [(.slice false 2 (x.sigs.map Sgn.d)), (.slice false 1 (x.codes.map D.str)), (.slice false 4 (x.arcs.map Arc.d))])] [.any] (.slice true 1 ((outsL x.sigs).map (fun n : Int => D.int .i64 n))) := by
 refine Sp_intro (lend := true) Tryz.func131 rfl rfl rfl (fun _ => rfl) (fun c hc hX => ?_)
 obtain ⟨hp0, hp1, hp2⟩ := Sgr.parts hb
 have hn0 := bulkF_len hp0
 have hn1 := bulk_len hp1
 have hx1 := bulk_mem hp1
 have hn2 := bulkF_len hp2
 refine T_seq (T_region hc (Ch.s (.ptr 1000 0) (.box 1000 _ _ rfl (.aggD _)) (Ch.s (.c (.slice none 0 0)) pa (Ch.nil (T_seq (T_region hc (Ch.s (.c (.slice none 0 0)) pa ?_)))))))
 refine Ch.nil (T_seq (T_seq (T_region hc (Ch.s (.ptr 1000 0) (.pure (.fldPtr _ _ _ rfl fld35_0 rfl)) (Ch.s (.d (.slice false 2 (x.sigs.map Sgn.d))) (.pure (.loadPtr1 _ _ rfl ag32 rfl rfl rfl)) (Ch.s (.d (.int .i64 (x.sigs.length : Int))) (.pure (.len _ _ 154 rfl Tryz.underlying32 (.sh _ _) (by simp))) (Ch.s (.d (.int .i64 0)) pm ?_)))))))
 refine Ch.nil (T_block ?_)
 refine T_loop (ι := Nat) (fun k => { n := 20, sl := [(1, (.ptr 1000 0)), (3, (.row 3)), (7, (.d (.int .i64 (x.sigs.length : Int)))), (8, (.d (.int .i64 (k : Int))))], hp := [(3, (some (.row 1 ((outK x.sigs k).map (fun n : Int => D.int .i64 n))))), (1000, (some (.box (vX x))))], pin := [] }) (fun k => k ≤ x.sigs.length) (fun k => x.sigs.length - k) ⟨0, (by omega), (Wk.trans (Wk.nilrow 3 900003 1 rfl rfl rfl) (Wk.ren [(3, 900003)] rfl rfl rfl rfl (ai rfl (ai rfl (ai rfl (ai (vI a114) trivial)))) (ai (oR a58) (ai rfl trivial))))⟩ (fun k hp0 => ?_)
 have hq := outK_le x.sigs k
 refine T_seq (T_region hc (Ch.s (.d (.bool (decide ((k : Int) < (x.sigs.length : Int))))) (iX rfl rfl rfl) (Ch.nil (T_seq ?_))))
 refine T_condD (p := ((k : Int) < (x.sigs.length : Int))) rfl (fun h1 => ?_) (fun h1 => ?_)
 ·
  refine T_skip (T_seq (T_block (T_seq (T_region hc (Ch.s (.d (.int .i64 (k : Int))) pm (Ch.s (.d (.int .i64 (k : Int))) pa (Ch.nil ?_)))))))
  refine T_seq (T_region hc (Ch.s (.agg (vX x)) (.pure (.loadPtrA _ _ rfl ag35 sz35 rfl rfl (lb rfl) rfl)) (Ch.s (.d (.int .i64 (k : Int))) pm (Ch.s (.d (.bool (!(inputB x (k : Int))))) (.call 13000 203 _ _ _ en203 rfl (.inl rfl) (.cons lX (.cons (.d _) .nil)) rfl rfl (sp_spec_l6Own x (k : Int) a39 a123) (.skip _ _ (.skip _ _ .nil)) rfl) (Ch.nil ?_)))))
  refine T_condN (b := (inputB x (k : Int))) rfl (fun h2 => ?_) (fun h2 => ?_)
  ·
   refine T_region hc (Ch.s (.row 3) pm (Ch.s (.d (.int .i64 (k : Int))) pm (Ch.s (.row 16000) (.slice 16000 _ 3 _ rfl sty55 (xs := [.tmp 15]) rfl rfl (.cons (.d _) .nil) rfl rfl (by decide)) ?_)))
   refine Ch.step (v := (.row 17000)) rfl (.append 17000 _ _ _ 3 rfl sty55 (by decide) (.rowK rfl) (.inr ⟨_, rfl, rfl⟩) (.row rfl rfl) rfl a56) rfl rfl ?_
   refine Ch.s (.row 17000) pa (Ch.nil (T_region hc (Ch.s (.d (.int .i64 ((k : Int) + 1))) (iX rfl rfl intV_addA) (Ch.s (.d (.int .i64 ((k : Int) + 1))) pm (Ch.nil ?_)))))
   exact nx (k + 1) (by omega) (Wk.ren [(3, 17000)] rfl rfl rfl rfl (ai rfl (ai rfl (ai rfl (ai (vI a114) trivial)))) (ai (oR a58) (ai rfl trivial)))
  ·
   refine T_skip (T_region hc (Ch.s (.d (.int .i64 ((k : Int) + 1))) (iX rfl rfl intV_addA) (Ch.s (.d (.int .i64 ((k : Int) + 1))) pm (Ch.nil ?_))))
   exact nx (k + 1) (by omega) (Wk.of rfl rfl (ai rfl (ai rfl (ai rfl (ai (vI a114) trivial)))) (ai (oR a58) (ai rfl trivial)))
 ·
  refine T_exit (T_seq (T_region hc (Ch.s (.row 3) pm (Ch.s (.row 3) pa (Ch.nil (T_ret ?_))))))
  exact endR [(.row 3)] [] [3] (.cons (.tmp 2 rfl) .nil) (.cons (.any _) .nil) (Exp.of (congrArg (D.slice true 1) (by rw [outsL, show x.sigs.length = k by omega])) (.row rfl)) rfl rfl

set_option maxHeartbeats 2000000 in
theorem sp_impl_violations (x : Sgr) (hb : x.bulk ≤ 1048576) (hx : SgOk x) : Sp Tryz.prog 283 [(.agg [(.slice false 2 (x.sigs.map Sgn.d)), (.slice false 1 (x.codes.map D.str)), (.slice false 4 (x.arcs.map Arc.d))])] [.any] (.slice true 3 ((pvL x).map Pvi.d)) := by
 refine Sp_intro (lend := true) Tryz.func283 rfl rfl rfl (fun _ => rfl) (fun c hc hX => ?_)
 obtain ⟨hp0, hp1, hp2⟩ := Sgr.parts hb
 have hn0 := bulkF_len hp0
 have hn1 := bulk_len hp1
 have hx1 := bulk_mem hp1
 have hn2 := bulkF_len hp2; have hx8 := hx.eight; have hxl := hx.len; have hxf := hx.few; have hen := hx.ends; have hml : (masksL x).length = x.codes.length := masksTo_len x _; have hnl := nxTo_len x x.arcs.length; have hm6 := fun j => masksTo_lt (x := x) (fun a ha => by have := hx.sig a ha; omega) x.arcs.length j
 refine T_seq (T_region hc (Ch.s (.ptr 1000 0) (.box 1000 _ _ rfl (.aggD _)) (Ch.s (.c (.slice none 0 0)) pa (Ch.nil (T_seq ?_)))))
 refine T_regionD hc (by kernel_rfl) ?_
 refine ChD.s (.row 11000) [] (.slice 11000 _ 216 _ rfl sty175 (xs := []) rfl rfl .nil rfl rfl (by decide)) (ChD.s (.agg (vX x)) [1000] (.pure (.loadPtrA _ _ rfl ag35 sz35 rfl rfl (lb rfl) rfl)) (ChD.s (.row 13000) [] (.call 13000 296 _ _ _ en296 rfl (.inl rfl) (.cons lX .nil) rfl (sol (solid_row (fun _ => rfl) _) rfl) (sp_impl_labelMasks x a39 (by assumption)) (.skip _ _ .nil) rfl) (ChD.s (.agg (vX x)) [1000] (.pure (.loadPtrA _ _ rfl ag35 sz35 rfl rfl (lb rfl) rfl)) (ChD.s (.row 15000) [] (.call 15000 297 _ _ _ en297 rfl (.inl rfl) (.cons lX .nil) rfl (sol (solid_row intsU_sol _) rfl) (sp_impl_nextArcs x a39 (by assumption)) (.skip _ _ .nil) rfl) (ChD.s (.row 11000) [] pa (ChD.s (.row 13000) [] pa (ChD.s (.row 15000) [] pa ?_)))))))
 refine ChD.nil (And.intro ?_ (by kernel_rfl))
 refine T_seq (T_seq (T_region hc (Ch.s (.ptr 1000 1) (.pure (.fldPtr _ _ _ rfl fld35_1 rfl)) (Ch.s (.d (.slice false 1 (x.codes.map D.str))) (.pure (.loadPtr1 _ _ rfl ag23 rfl rfl rfl)) (Ch.s (.d (.int .i64 (x.codes.length : Int))) (.pure (.len _ _ 9 rfl Tryz.underlying23 (.sh _ _) (by simp))) (Ch.s (.d (.int .i64 0)) pm (Ch.nil ?_)))))))
 refine T_block ?_
 refine T_loop (ι := Nat) (fun k => { n := 90, sl := [(1, (.ptr 1000 0)), (3, (.row 3)), (4, (.row 13000)), (5, (.row 15000)), (18, (.d (.int .i64 (x.codes.length : Int)))), (19, (.d (.int .i64 (k : Int))))], hp := [(3, (some (.row 3 ((pvTo x k).map Pvi.d)))), (1000, (some (.box (vX x)))), (13000, (some (.row 1 ((masksL x).map (fun n : Nat => D.int .i64 (n : Int)))))), (15000, (some (.row 1 ((nxTo x x.arcs.length).map intsU))))], pin := [] }) (fun k => k ≤ x.codes.length) (fun k => x.codes.length - k) ⟨0, (by omega), (Wk.ren [(3, 11000)] rfl rfl rfl rfl (ai rfl (ai rfl (ai rfl (ai rfl (ai rfl (ai (vI a114) trivial)))))) (ai (oR a102) (ai rfl (ai rfl (ai rfl trivial)))))⟩ (fun k hp0 => ?_)
 refine T_seq (T_region hc (Ch.s (.d (.bool (decide ((k : Int) < (x.codes.length : Int))))) (iX rfl rfl rfl) (Ch.nil (T_seq ?_))))
 refine T_condD (p := ((k : Int) < (x.codes.length : Int))) rfl (fun h1 => ?_) (fun h1 => ?_)
 ·
  refine T_skip (T_seq (T_block (T_seq (T_region hc (Ch.s (.d (.int .i64 (k : Int))) pm (Ch.s (.d (.int .i64 (k : Int))) pa (Ch.nil ?_)))))))
  refine T_seq (T_region hc (Ch.s (.ptr 1000 0) (.pure (.fldPtr _ _ _ rfl fld35_0 rfl)) (Ch.s (.d (.slice false 2 (x.sigs.map Sgn.d))) (.pure (.loadPtr1 _ _ rfl ag32 rfl rfl rfl)) (Ch.s (.d (.int .i64 (x.sigs.length : Int))) (.pure (.len _ _ 154 rfl Tryz.underlying32 (.sh _ _) (by simp))) (Ch.s (.d (.int .i64 0)) pm (Ch.nil (T_block ?_)))))))
  refine T_loop (ι := Nat) (fun s => { n := 90, sl := [(1, (.ptr 1000 0)), (3, (.row 3)), (4, (.row 13000)), (5, (.row 15000)), (6, (.d (.int .i64 (k : Int)))), (18, (.d (.int .i64 (x.codes.length : Int)))), (19, (.d (.int .i64 (k : Int)))), (24, (.d (.int .i64 (x.sigs.length : Int)))), (25, (.d (.int .i64 (s : Int))))], hp := [(3, (some (.row 3 ((pvA x k s).map Pvi.d)))), (1000, (some (.box (vX x)))), (13000, (some (.row 1 ((masksL x).map (fun n : Nat => D.int .i64 (n : Int)))))), (15000, (some (.row 1 ((nxTo x x.arcs.length).map intsU))))], pin := [] }) (fun s => s ≤ x.sigs.length) (fun s => x.sigs.length - s) ⟨0, (by omega), (Wk.of rfl rfl (ai rfl (ai rfl (ai rfl (ai rfl (ai rfl (ai rfl (ai rfl (ai rfl (ai (vI a114) trivial))))))))) (ai (oR a16) (ai rfl (ai rfl (ai rfl trivial)))))⟩ (fun s hp1 => ?_)
  refine T_seq (T_region hc (Ch.s (.d (.bool (decide ((s : Int) < (x.sigs.length : Int))))) (iX rfl rfl rfl) (Ch.nil (T_seq ?_))))
  refine T_condD (p := ((s : Int) < (x.sigs.length : Int))) rfl (fun h2 => ?_) (fun h2 => ?_)
  ·
   try have hmk := hm6 k
   refine T_skip (T_seq (T_block (T_seq (T_region hc (Ch.s (.d (.int .i64 (s : Int))) pm (Ch.s (.d (.int .i64 (s : Int))) pa (Ch.nil ?_)))))))
   refine T_seq (T_seq (T_region hc (Ch.s (.row 13000) pm (Ch.s (.d (.int .i64 (k : Int))) pm (Ch.s (.el 13000 1 k 0) (.pure (.idxRow _ _ _ 3 (k) rfl Tryz.underlying55 sz3 rfl rfl rfl rfl a86)) (Ch.s (.d (.int .i64 (((masksL x).getD k default) : Int))) (.pure (.loadEl1 _ _ rfl ag3 rfl rfl get_mapA rfl rfl rfl)) (Ch.s (.d (.int .i64 (s : Int))) pm ?_)))))))
   refine Ch.s (.d (.int .i64 (2 * (s : Int)))) (iX rfl rfl (intV_mul a43 a43)) (Ch.s (.d (.int .i64 ((((masksL x).getD k default) >>> (((2 * (s : Int))).toNat) : Nat) : Int))) (.pure (.shift _ _ _ _ _ rfl rfl rfl (i64_shr (m := ((masksL x).getD k default)) (n := ((2 * (s : Int))).toNat) (by omega) a43))) (Ch.s (.d (.int .i64 ((two ((masksL x).getD k default) (((2 * (s : Int))).toNat) : Nat) : Int))) (iX rfl rfl (i64_and3 (((masksL x).getD k default) >>> (((2 * (s : Int))).toNat)))) (Ch.s (.d (.bool (decide (((two ((masksL x).getD k default) (((2 * (s : Int))).toNat) : Nat) : Int) = 0)))) (iX rfl rfl rfl) (Ch.nil ?_))))
   refine T_condD (p := (((two ((masksL x).getD k default) (((2 * (s : Int))).toNat) : Nat) : Int) = 0)) rfl (fun h3 => ?_) (fun h3 => ?_)
   ·
    refine T_exit (T_region hc (Ch.s (.d (.int .i64 ((s : Int) + 1))) (iX rfl rfl intV_addA) (Ch.s (.d (.int .i64 ((s : Int) + 1))) pm (Ch.nil ?_))))
    exact nx (s + 1) (by omega) (Wk.of rfl rfl (ai rfl (ai rfl (ai rfl (ai rfl (ai rfl (ai rfl (ai rfl (ai rfl (ai (vI a114) trivial))))))))) (ai (oR a16) (ai rfl (ai rfl (ai rfl trivial)))))
   ·
    refine T_skip (T_seq ?_)
    refine T_take 15000 k 7000002 7000003 rfl get_mapA rfl rfl (fun u1 => ?_)
    refine T_region hc (Ch.s (.row 15000) pm (Ch.s (.d (.int .i64 (k : Int))) pm (Ch.s (.el 15000 1 k 0) (.pure (.idxRow _ _ _ 55 (k) rfl Tryz.underlying49 sz55 rfl rfl rfl rfl a86)) (Ch.s (.row 7000002) (.pure (.loadHole (n := 7000002) (m := 7000003) (u := u1) _ _ rfl ag55 rfl rfl (get_set a86) rfl rfl)) (Ch.s (.d (.int .i64 (((nxTo x x.arcs.length).getD k default).length : Int))) (.pure (.len _ _ 3 rfl Tryz.underlying55 (.row rfl) (by simp))) (Ch.s (.d (.int .i64 0)) pm (Ch.nil ?_)))))))
    refine T_block ?_
    refine T_loop (ι := Nat) (fun m => { n := 90, sl := [(1, (.ptr 1000 0)), (3, (.row 3)), (4, (.row 13000)), (5, (.row 15000)), (6, (.d (.int .i64 (k : Int)))), (7, (.d (.int .i64 (s : Int)))), (18, (.d (.int .i64 (x.codes.length : Int)))), (19, (.d (.int .i64 (k : Int)))), (24, (.d (.int .i64 (x.sigs.length : Int)))), (25, (.d (.int .i64 (s : Int)))), (40, (.row 7000002)), (41, (.d (.int .i64 (((nxTo x x.arcs.length).getD k default).length : Int)))), (42, (.d (.int .i64 (m : Int))))], hp := [(3, (some (.row 3 ((pvB x k s ((nxTo x x.arcs.length).getD k default) m).map Pvi.d)))), (1000, (some (.box (vX x)))), (13000, (some (.row 1 ((masksL x).map (fun n : Nat => D.int .i64 (n : Int)))))), (15000, (some (.row 1 ((((nxTo x x.arcs.length).map intsU)).set k (.hole u1))))), (7000002, (some (.row 1 (((nxTo x x.arcs.length).getD k default).map (fun n : Int => D.int .i64 n))))), (7000003, (some (.head 7000002 u1)))], pin := [] }) (fun m => m ≤ ((nxTo x x.arcs.length).getD k default).length) (fun m => ((nxTo x x.arcs.length).getD k default).length - m) ⟨0, (by omega), (Wk.of rfl rfl (ai rfl (ai rfl (ai rfl (ai rfl (ai rfl (ai rfl (ai rfl (ai rfl (ai rfl (ai rfl (ai rfl (ai rfl (ai (vI a114) trivial))))))))))))) (ai (oR a6) (ai rfl (ai rfl (ai rfl (ai rfl (ai rfl trivial)))))))⟩ (fun m hp2 => ?_)
    have hTl := nx_le x _ (Nat.le_refl _) k; have hq := pvB_le hxf hx8.2 (k := k) (s := s) (m := m) (by omega) (by omega) (T := ((nxTo x x.arcs.length).getD k default)) (Nat.le_trans (nx_le x _ (Nat.le_refl _) k) hxf)
    refine T_seq (T_region hc (Ch.s (.d (.bool (decide ((m : Int) < (((nxTo x x.arcs.length).getD k default).length : Int))))) (iX rfl rfl rfl) (Ch.nil (T_seq ?_))))
    refine T_condD (p := ((m : Int) < (((nxTo x x.arcs.length).getD k default).length : Int))) rfl (fun h4 => ?_) (fun h4 => ?_)
    ·
     try have hnt := (nx_mem hen (j := k) (i := ((nxTo x x.arcs.length).getD k default).getD m default) x.arcs.length (Nat.le_refl _)).1 (getD_mem (by omega))
     try have hek := hen _ (getD_mem (l := x.arcs) (j := (((nxTo x x.arcs.length).getD k default).getD m default).toNat) (d := default) (by omega))
     try have hsk := (hx.sig _ (getD_mem (l := x.arcs) (j := (((nxTo x x.arcs.length).getD k default).getD m default).toNat) (d := default) (by omega))).1
     try have hm7 := hm6 (x.arcs.getD (((nxTo x x.arcs.length).getD k default).getD m default).toNat default).dst.toNat
     refine T_skip (T_seq (T_block (T_seq (T_region hc (Ch.s (.el 7000002 1 m 0) (.pure (.idxRow _ _ _ 3 (m) rfl Tryz.underlying55 sz3 rfl rfl rfl rfl a86)) (Ch.s (.d (.int .i64 (((nxTo x x.arcs.length).getD k default).getD m default))) (.pure (.loadEl1 _ _ rfl ag3 rfl rfl get_mapA rfl rfl rfl)) (Ch.s (.d (.int .i64 (((nxTo x x.arcs.length).getD k default).getD m default))) pa ?_)))))))
     refine Ch.nil (T_seq (T_region hc (Ch.s (.ptr 1000 2) (.pure (.fldPtr _ _ _ rfl fld35_2 rfl)) (Ch.s (.d (.slice false 4 (x.arcs.map Arc.d))) (.pure (.loadPtr1 _ _ rfl ag33 rfl rfl rfl)) (Ch.s (.d (.int .i64 (((nxTo x x.arcs.length).getD k default).getD m default))) pm (Ch.s (.d (.ref (.agg [(.int .i64 ((x.arcs.getD (((((nxTo x x.arcs.length).getD k default).getD m default)).toNat) default).src)), (.int .i64 ((x.arcs.getD (((((nxTo x x.arcs.length).getD k default).getD m default)).toNat) default).sig)), (.bool ((x.arcs.getD (((((nxTo x x.arcs.length).getD k default).getD m default)).toNat) default).up)), (.int .i64 ((x.arcs.getD (((((nxTo x x.arcs.length).getD k default).getD m default)).toNat) default).dst))]))) (.pure (.idx _ _ _ 125 (((((nxTo x x.arcs.length).getD k default).getD m default)).toNat) rfl Tryz.underlying33 sz125 rfl rfl (by omega) get_mapA)) (Ch.s (.d (.agg [(.int .i64 ((x.arcs.getD (((((nxTo x x.arcs.length).getD k default).getD m default)).toNat) default).src)), (.int .i64 ((x.arcs.getD (((((nxTo x x.arcs.length).getD k default).getD m default)).toNat) default).sig)), (.bool ((x.arcs.getD (((((nxTo x x.arcs.length).getD k default).getD m default)).toNat) default).up)), (.int .i64 ((x.arcs.getD (((((nxTo x x.arcs.length).getD k default).getD m default)).toNat) default).dst))])) (.pure (.loadRefA _ _ rfl ag125 sz125 rfl)) ?_)))))))
     refine Ch.s (.ptr 10000 0) (.alloc 10000 _ rfl zer125) (Ch.s .junk (.storePtr _ _ _ rfl rfl rfl (.aggD _) sz125 (lb rfl)) (Ch.nil (T_seq (T_region hc (Ch.s (.ptr 10000 1) (.pure (.fldPtr _ _ _ rfl fld125_1 rfl)) (Ch.s (.d (.int .i64 ((x.arcs.getD (((((nxTo x x.arcs.length).getD k default).getD m default)).toNat) default).sig))) (.pure (.loadPtr1 _ _ rfl ag3 rfl rfl rfl)) (Ch.s (.d (.int .i64 (s : Int))) pm ?_)))))))
     refine Ch.s (.d (.bool (!(decide (((x.arcs.getD (((((nxTo x x.arcs.length).getD k default).getD m default)).toNat) default).sig) = (s : Int)))))) (iX rfl rfl rfl) (Ch.s (.d (.bool (!(decide (((x.arcs.getD (((((nxTo x x.arcs.length).getD k default).getD m default)).toNat) default).sig) = (s : Int)))))) pm ?_)
     cases h5 : (decide (((x.arcs.getD (((((nxTo x x.arcs.length).getD k default).getD m default)).toNat) default).sig) = (s : Int))) with
     | true =>
      replace h5 := of_decide_eq_true h5
      refine Ch.skip rfl rfl (Ch.skip rfl rfl (Ch.skip rfl rfl (Ch.skip rfl rfl (Ch.skip rfl rfl (Ch.skip rfl rfl (Ch.skip rfl rfl (Ch.skip rfl rfl ?_)))))))
      refine Ch.skip rfl rfl (Ch.skip rfl rfl (Ch.s (.d (.bool false)) (.pure (.pickF _ _ _ rfl rfl rfl)) (Ch.s (.d (.bool false)) pm (Ch.skip rfl rfl (Ch.skip rfl rfl (Ch.skip rfl rfl (Ch.skip rfl rfl ?_)))))))
      refine Ch.skip rfl rfl (Ch.skip rfl rfl (Ch.skip rfl rfl (Ch.skip rfl rfl (Ch.skip rfl rfl (Ch.skip rfl rfl (Ch.s (.d (.bool false)) (.pure (.pickF _ _ _ rfl rfl rfl)) (Ch.nil ?_)))))))
      refine T_cond (b := false) rfl (fun h => nomatch h) (fun _ => ?_)
      refine T_skip (T_region hc (Ch.s (.d (.int .i64 ((m : Int) + 1))) (iX rfl rfl intV_addA) (Ch.s (.d (.int .i64 ((m : Int) + 1))) pm (Ch.nil ?_))))
      exact nx (m + 1) (by omega) (Wk.of rfl rfl (ai rfl (ai rfl (ai rfl (ai rfl (ai rfl (ai rfl (ai rfl (ai rfl (ai rfl (ai rfl (ai rfl (ai rfl (ai (vI a114) trivial))))))))))))) (ai (oR a6) (ai rfl (ai rfl (ai rfl (ai rfl (ai rfl trivial)))))))
     | false =>
      replace h5 := of_decide_eq_false h5
      refine Ch.s (.row 13000) pm (Ch.s (.ptr 10000 3) (.pure (.fldPtr _ _ _ rfl fld125_3 rfl)) (Ch.s (.d (.int .i64 ((x.arcs.getD (((((nxTo x x.arcs.length).getD k default).getD m default)).toNat) default).dst))) (.pure (.loadPtr1 _ _ rfl ag3 rfl rfl rfl)) (Ch.s (.el 13000 1 ((((x.arcs.getD (((((nxTo x x.arcs.length).getD k default).getD m default)).toNat) default).dst)).toNat) 0) (.pure (.idxRow _ _ _ 3 ((((x.arcs.getD (((((nxTo x x.arcs.length).getD k default).getD m default)).toNat) default).dst)).toNat) rfl Tryz.underlying55 sz3 rfl rfl rfl (by omega) a86)) (Ch.s (.d (.int .i64 (((masksL x).getD ((((x.arcs.getD (((((nxTo x x.arcs.length).getD k default).getD m default)).toNat) default).dst)).toNat) default) : Int))) (.pure (.loadEl1 _ _ rfl ag3 rfl rfl get_mapA rfl rfl rfl)) (Ch.s (.d (.int .i64 (s : Int))) pm (Ch.s (.d (.int .i64 (2 * (s : Int)))) (iX rfl rfl (intV_mul a43 a43)) (Ch.s (.d (.int .i64 ((((masksL x).getD ((((x.arcs.getD (((((nxTo x x.arcs.length).getD k default).getD m default)).toNat) default).dst)).toNat) default) >>> (((2 * (s : Int))).toNat) : Nat) : Int))) (.pure (.shift _ _ _ _ _ rfl rfl rfl (i64_shr (m := ((masksL x).getD ((((x.arcs.getD (((((nxTo x x.arcs.length).getD k default).getD m default)).toNat) default).dst)).toNat) default)) (n := ((2 * (s : Int))).toNat) (by omega) a43))) ?_)))))))
      refine Ch.s (.d (.int .i64 ((two ((masksL x).getD ((((x.arcs.getD (((((nxTo x x.arcs.length).getD k default).getD m default)).toNat) default).dst)).toNat) default) (((2 * (s : Int))).toNat) : Nat) : Int))) (iX rfl rfl (i64_and3 (((masksL x).getD ((((x.arcs.getD (((((nxTo x x.arcs.length).getD k default).getD m default)).toNat) default).dst)).toNat) default) >>> (((2 * (s : Int))).toNat)))) (Ch.s (.d (.bool (decide (((two ((masksL x).getD ((((x.arcs.getD (((((nxTo x x.arcs.length).getD k default).getD m default)).toNat) default).dst)).toNat) default) (((2 * (s : Int))).toNat) : Nat) : Int) = 0)))) (iX rfl rfl rfl) (Ch.s (.d (.bool (decide (((two ((masksL x).getD ((((x.arcs.getD (((((nxTo x x.arcs.length).getD k default).getD m default)).toNat) default).dst)).toNat) default) (((2 * (s : Int))).toNat) : Nat) : Int) = 0)))) (.pure (.pickT _ _ _ rfl rfl rfl)) (Ch.s (.d (.bool (decide (((two ((masksL x).getD ((((x.arcs.getD (((((nxTo x x.arcs.length).getD k default).getD m default)).toNat) default).dst)).toNat) default) (((2 * (s : Int))).toNat) : Nat) : Int) = 0)))) pm ?_)))
      cases h6 : (decide (((two ((masksL x).getD ((((x.arcs.getD (((((nxTo x x.arcs.length).getD k default).getD m default)).toNat) default).dst)).toNat) default) (((2 * (s : Int))).toNat) : Nat) : Int) = 0)) with
      | true =>
       replace h6 := of_decide_eq_true h6
       refine Ch.s (.agg (vX x)) (.pure (.loadPtrA _ _ rfl ag35 sz35 rfl rfl (lb rfl) rfl)) (Ch.s (.d (.int .i64 (s : Int))) pm (Ch.s (.d (.bool (inputB x (s : Int)))) (.call 70000 298 _ _ _ en298 rfl (.inl rfl) (.cons lX (.cons (.d _) .nil)) rfl rfl (sp_impl_isInput x (s : Int) a39 a123) (.skip _ _ (.skip _ _ .nil)) rfl) (Ch.s (.d (.bool (inputB x (s : Int)))) pm ?_)))
       cases h7 : (inputB x (s : Int)) with
       | true =>
        refine Ch.s (.agg (vX x)) (.pure (.loadPtrA _ _ rfl ag35 sz35 rfl rfl (lb rfl) rfl)) (Ch.s (.ptr 10000 1) (.pure (.fldPtr _ _ _ rfl fld125_1 rfl)) (Ch.s (.d (.int .i64 ((x.arcs.getD (((((nxTo x x.arcs.length).getD k default).getD m default)).toNat) default).sig))) (.pure (.loadPtr1 _ _ rfl ag3 rfl rfl rfl)) (Ch.s (.d (.bool (inputB x ((x.arcs.getD (((((nxTo x x.arcs.length).getD k default).getD m default)).toNat) default).sig)))) (.call 75000 298 _ _ _ en298 rfl (.inl rfl) (.cons lX (.cons (.d _) .nil)) rfl rfl (sp_impl_isInput x ((x.arcs.getD (((((nxTo x x.arcs.length).getD k default).getD m default)).toNat) default).sig) a39 a123) (.skip _ _ (.skip _ _ .nil)) rfl) (Ch.s (.d (.bool (inputB x ((x.arcs.getD (((((nxTo x x.arcs.length).getD k default).getD m default)).toNat) default).sig)))) (.pure (.pickT _ _ _ rfl rfl rfl)) (Ch.s (.d (.bool (!(inputB x ((x.arcs.getD (((((nxTo x x.arcs.length).getD k default).getD m default)).toNat) default).sig))))) (.pure (.not _ _ rfl rfl)) (Ch.s (.d (.bool (!(inputB x ((x.arcs.getD (((((nxTo x x.arcs.length).getD k default).getD m default)).toNat) default).sig))))) (.pure (.pickT _ _ _ rfl rfl rfl)) (Ch.nil ?_)))))))
        refine T_condN (b := (inputB x ((x.arcs.getD (((((nxTo x x.arcs.length).getD k default).getD m default)).toNat) default).sig))) rfl (fun h8 => ?_) (fun h8 => ?_)
        ·
         refine T_region hc (Ch.s (.row 3) pm (Ch.s (.d (.int .i64 (k : Int))) pm (Ch.s (.d (.int .i64 (s : Int))) pm (Ch.s (.d (.int .i64 (((nxTo x x.arcs.length).getD k default).getD m default))) pm (Ch.s (.agg [(.d (.int .i64 (k : Int))), (.d (.int .i64 (s : Int))), (.d (.int .i64 (((nxTo x x.arcs.length).getD k default).getD m default)))]) (.build _ _ rfl stru216 (.cons (.one _ rfl) (.cons (.one _ rfl) (.cons (.one _ rfl) .nil))) rfl) (Ch.s (.row 84000) (.slice 84000 _ 216 _ rfl sty175 (xs := [.tmp 83]) rfl rfl (.cons (.agg (.cons (.d _) (.cons (.d _) (.cons (.d _) .nil))) rfl) .nil) rfl rfl (by decide)) ?_))))))
         refine Ch.step (v := (.row 85000)) rfl (.append 85000 _ _ _ 216 rfl sty175 (by decide) (.rowK rfl) (.inr ⟨_, rfl, rfl⟩) (.row rfl rfl) rfl a56) rfl rfl ?_
         refine Ch.s (.row 85000) pa (Ch.nil (T_region hc (Ch.s (.d (.int .i64 ((m : Int) + 1))) (iX rfl rfl intV_addA) (Ch.s (.d (.int .i64 ((m : Int) + 1))) pm (Ch.nil ?_)))))
         exact nx (m + 1) (by omega) (Wk.ren [(3, 85000)] rfl rfl rfl rfl (ai rfl (ai rfl (ai rfl (ai rfl (ai rfl (ai rfl (ai rfl (ai rfl (ai rfl (ai rfl (ai rfl (ai rfl (ai (vI a114) trivial))))))))))))) (ai (oR a6) (ai rfl (ai rfl (ai rfl (ai rfl (ai rfl trivial)))))))
        ·
         refine T_skip (T_region hc (Ch.s (.d (.int .i64 ((m : Int) + 1))) (iX rfl rfl intV_addA) (Ch.s (.d (.int .i64 ((m : Int) + 1))) pm (Ch.nil ?_))))
         exact nx (m + 1) (by omega) (Wk.of rfl rfl (ai rfl (ai rfl (ai rfl (ai rfl (ai rfl (ai rfl (ai rfl (ai rfl (ai rfl (ai rfl (ai rfl (ai rfl (ai (vI a114) trivial))))))))))))) (ai (oR a6) (ai rfl (ai rfl (ai rfl (ai rfl (ai rfl trivial)))))))
       | false =>
        refine Ch.skip rfl rfl (Ch.skip rfl rfl (Ch.skip rfl rfl (Ch.skip rfl rfl (Ch.s (.d (.bool false)) (.pure (.pickF _ _ _ rfl rfl rfl)) (Ch.s (.d (.bool true)) (.pure (.not (b := false) _ _ rfl rfl)) (Ch.s (.d (.bool true)) (.pure (.pickT _ _ _ rfl rfl rfl)) (Ch.nil ?_)))))))
        refine T_cond (b := true) rfl (fun _ => ?_) (fun h => nomatch h)
        refine T_region hc (Ch.s (.row 3) pm (Ch.s (.d (.int .i64 (k : Int))) pm (Ch.s (.d (.int .i64 (s : Int))) pm (Ch.s (.d (.int .i64 (((nxTo x x.arcs.length).getD k default).getD m default))) pm (Ch.s (.agg [(.d (.int .i64 (k : Int))), (.d (.int .i64 (s : Int))), (.d (.int .i64 (((nxTo x x.arcs.length).getD k default).getD m default)))]) (.build _ _ rfl stru216 (.cons (.one _ rfl) (.cons (.one _ rfl) (.cons (.one _ rfl) .nil))) rfl) (Ch.s (.row 84000) (.slice 84000 _ 216 _ rfl sty175 (xs := [.tmp 83]) rfl rfl (.cons (.agg (.cons (.d _) (.cons (.d _) (.cons (.d _) .nil))) rfl) .nil) rfl rfl (by decide)) ?_))))))
        refine Ch.step (v := (.row 85000)) rfl (.append 85000 _ _ _ 216 rfl sty175 (by decide) (.rowK rfl) (.inr ⟨_, rfl, rfl⟩) (.row rfl rfl) rfl a56) rfl rfl ?_
        refine Ch.s (.row 85000) pa (Ch.nil (T_region hc (Ch.s (.d (.int .i64 ((m : Int) + 1))) (iX rfl rfl intV_addA) (Ch.s (.d (.int .i64 ((m : Int) + 1))) pm (Ch.nil ?_)))))
        exact nx (m + 1) (by omega) (Wk.ren [(3, 85000)] rfl rfl rfl rfl (ai rfl (ai rfl (ai rfl (ai rfl (ai rfl (ai rfl (ai rfl (ai rfl (ai rfl (ai rfl (ai rfl (ai rfl (ai (vI a114) trivial))))))))))))) (ai (oR a6) (ai rfl (ai rfl (ai rfl (ai rfl (ai rfl trivial)))))))
      | false =>
       replace h6 := of_decide_eq_false h6
       refine Ch.skip rfl rfl (Ch.skip rfl rfl (Ch.skip rfl rfl (Ch.skip rfl rfl (Ch.skip rfl rfl (Ch.skip rfl rfl (Ch.skip rfl rfl (Ch.skip rfl rfl ?_)))))))
       refine Ch.skip rfl rfl (Ch.skip rfl rfl (Ch.s (.d (.bool false)) (.pure (.pickF _ _ _ rfl rfl rfl)) (Ch.nil ?_)))
       refine T_cond (b := false) rfl (fun h => nomatch h) (fun _ => ?_)
       refine T_skip (T_region hc (Ch.s (.d (.int .i64 ((m : Int) + 1))) (iX rfl rfl intV_addA) (Ch.s (.d (.int .i64 ((m : Int) + 1))) pm (Ch.nil ?_))))
       exact nx (m + 1) (by omega) (Wk.of rfl rfl (ai rfl (ai rfl (ai rfl (ai rfl (ai rfl (ai rfl (ai rfl (ai rfl (ai rfl (ai rfl (ai rfl (ai rfl (ai (vI a114) trivial))))))))))))) (ai (oR a6) (ai rfl (ai rfl (ai rfl (ai rfl (ai rfl trivial)))))))
    ·
     try have hnt := (nx_mem hen (j := k) (i := ((nxTo x x.arcs.length).getD k default).getD m default) x.arcs.length (Nat.le_refl _)).1 (getD_mem (by omega))
     try have hek := hen _ (getD_mem (l := x.arcs) (j := (((nxTo x x.arcs.length).getD k default).getD m default).toNat) (d := default) (by omega))
     try have hsk := (hx.sig _ (getD_mem (l := x.arcs) (j := (((nxTo x x.arcs.length).getD k default).getD m default).toNat) (d := default) (by omega))).1
     try have hm7 := hm6 (x.arcs.getD (((nxTo x x.arcs.length).getD k default).getD m default).toNat default).dst.toNat
     refine T_exit (T_region hc (Ch.s (.d (.int .i64 ((s : Int) + 1))) (iX rfl rfl intV_addA) (Ch.s (.d (.int .i64 ((s : Int) + 1))) pm (Ch.nil ?_))))
     exact nx (s + 1) (by omega) (Wk.trans (Wk.give 15000 k 7000002 7000003 rfl (get_set a86) rfl rfl rfl (set_back (f := intsU) (by omega))) (Wk.of rfl rfl (ai rfl (ai rfl (ai rfl (ai rfl (ai rfl (ai rfl (ai rfl (ai rfl (ai (vI a114) trivial))))))))) (ai (oR a16) (ai rfl (ai rfl (ai rfl trivial))))))
  ·
   try have hmk := hm6 k
   refine T_exit (T_region hc (Ch.s (.d (.int .i64 ((k : Int) + 1))) (iX rfl rfl intV_addA) (Ch.s (.d (.int .i64 ((k : Int) + 1))) pm (Ch.nil ?_))))
   exact nx (k + 1) (by omega) (Wk.of rfl rfl (ai rfl (ai rfl (ai rfl (ai rfl (ai rfl (ai (vI a114) trivial)))))) (ai (oR a102) (ai rfl (ai rfl (ai rfl trivial)))))
 ·
  refine T_exit (T_seq (T_region hc (Ch.s (.row 3) pm (Ch.s (.row 3) pa (Ch.nil (T_ret ?_))))))
  exact endR [(.row 3)] [] [3] (.cons (.tmp 2 rfl) .nil) (.cons (.any _) .nil) (Exp.of (congrArg (D.slice true 3) (by rw [pvL, show x.codes.length = k by omega])) (.row rfl)) rfl rfl

set_option maxHeartbeats 2000000 in
theorem sp_spec_l6Breaks (x : Sgr) (hb : x.bulk ≤ 1048576) (hx : SgOk x) : Sp Tryz.prog 168 [(.agg [(.slice false 2 (x.sigs.map Sgn.d)), (.slice false 1 (x.codes.map D.str)), (.slice false 4 (x.arcs.map Arc.d))])] [.any] (.slice true 3 ((pvL x).map Pvi.d)) := by
 refine Sp_intro (lend := true) Tryz.func168 rfl rfl rfl (fun _ => rfl) (fun c hc hX => ?_)
 obtain ⟨hp0, hp1, hp2⟩ := Sgr.parts hb
 have hn0 := bulkF_len hp0
 have hn1 := bulk_len hp1
 have hx1 := bulk_mem hp1
 have hn2 := bulkF_len hp2; have hx8 := hx.eight; have hxl := hx.len; have hxf := hx.few; have hen := hx.ends
 refine T_seq (T_region hc (Ch.s (.ptr 1000 0) (.box 1000 _ _ rfl (.aggD _)) (Ch.s (.c (.slice none 0 0)) pa (Ch.nil (T_seq (T_region hc (Ch.s (.c (.slice none 0 0)) pa ?_)))))))
 refine Ch.nil (T_seq (T_seq (T_region hc (Ch.s (.ptr 1000 1) (.pure (.fldPtr _ _ _ rfl fld35_1 rfl)) (Ch.s (.d (.slice false 1 (x.codes.map D.str))) (.pure (.loadPtr1 _ _ rfl ag23 rfl rfl rfl)) (Ch.s (.d (.int .i64 (x.codes.length : Int))) (.pure (.len _ _ 9 rfl Tryz.underlying23 (.sh _ _) (by simp))) (Ch.s (.d (.int .i64 0)) pm ?_)))))))
 refine Ch.nil (T_block ?_)
 refine T_loop (ι := Nat) (fun k => { n := 73, sl := [(1, (.ptr 1000 0)), (3, (.row 3)), (10, (.d (.int .i64 (x.codes.length : Int)))), (11, (.d (.int .i64 (k : Int))))], hp := [(3, (some (.row 3 ((pvTo x k).map Pvi.d)))), (1000, (some (.box (vX x))))], pin := [] }) (fun k => k ≤ x.codes.length) (fun k => x.codes.length - k) ⟨0, (by omega), (Wk.trans (Wk.nilrow 3 900003 3 rfl rfl rfl) (Wk.ren [(3, 900003)] rfl rfl rfl rfl (ai rfl (ai rfl (ai rfl (ai (vI a114) trivial)))) (ai (oR a102) (ai rfl trivial))))⟩ (fun k hp0 => ?_)
 refine T_seq (T_region hc (Ch.s (.d (.bool (decide ((k : Int) < (x.codes.length : Int))))) (iX rfl rfl rfl) (Ch.nil (T_seq ?_))))
 refine T_condD (p := ((k : Int) < (x.codes.length : Int))) rfl (fun h1 => ?_) (fun h1 => ?_)
 ·
  refine T_skip (T_seq (T_block (T_seq (T_region hc (Ch.s (.d (.int .i64 (k : Int))) pm (Ch.s (.d (.int .i64 (k : Int))) pa (Ch.nil ?_)))))))
  refine T_seq (T_region hc (Ch.s (.ptr 1000 0) (.pure (.fldPtr _ _ _ rfl fld35_0 rfl)) (Ch.s (.d (.slice false 2 (x.sigs.map Sgn.d))) (.pure (.loadPtr1 _ _ rfl ag32 rfl rfl rfl)) (Ch.s (.d (.int .i64 (x.sigs.length : Int))) (.pure (.len _ _ 154 rfl Tryz.underlying32 (.sh _ _) (by simp))) (Ch.s (.d (.int .i64 0)) pm (Ch.nil (T_block ?_)))))))
  refine T_loop (ι := Nat) (fun s => { n := 73, sl := [(1, (.ptr 1000 0)), (3, (.row 3)), (4, (.d (.int .i64 (k : Int)))), (10, (.d (.int .i64 (x.codes.length : Int)))), (11, (.d (.int .i64 (k : Int)))), (16, (.d (.int .i64 (x.sigs.length : Int)))), (17, (.d (.int .i64 (s : Int))))], hp := [(3, (some (.row 3 ((pvA x k s).map Pvi.d)))), (1000, (some (.box (vX x))))], pin := [] }) (fun s => s ≤ x.sigs.length) (fun s => x.sigs.length - s) ⟨0, (by omega), (Wk.of rfl rfl (ai rfl (ai rfl (ai rfl (ai rfl (ai rfl (ai rfl (ai (vI a114) trivial))))))) (ai (oR a16) (ai rfl trivial)))⟩ (fun s hp1 => ?_)
  refine T_seq (T_region hc (Ch.s (.d (.bool (decide ((s : Int) < (x.sigs.length : Int))))) (iX rfl rfl rfl) (Ch.nil (T_seq ?_))))
  refine T_condD (p := ((s : Int) < (x.sigs.length : Int))) rfl (fun h2 => ?_) (fun h2 => ?_)
  ·
   refine T_skip (T_seq (T_block (T_seq (T_region hc (Ch.s (.d (.int .i64 (s : Int))) pm (Ch.s (.d (.int .i64 (s : Int))) pa (Ch.nil ?_)))))))
   refine T_seq (T_seq (T_region hc (Ch.s (.agg (vX x)) (.pure (.loadPtrA _ _ rfl ag35 sz35 rfl rfl (lb rfl) rfl)) (Ch.s (.d (.int .i64 (k : Int))) pm (Ch.s (.d (.int .i64 (s : Int))) pm (Ch.s (.d (.bool (excB x (k : Int) (s : Int)))) (.call 23000 158 _ _ _ en158 rfl (.inl rfl) (.cons lX (.cons (.d _) (.cons (.d _) .nil))) rfl rfl (sp_spec_l5Excited x (k : Int) (s : Int) a39) (.skip _ _ (.skip _ _ (.skip _ _ .nil))) rfl) (Ch.s (.d (.bool (!(excB x (k : Int) (s : Int))))) (.pure (.not _ _ rfl rfl)) ?_)))))))
   refine Ch.nil ?_
   refine T_condN (b := (excB x (k : Int) (s : Int))) rfl (fun h3 => ?_) (fun h3 => ?_)
   ·
    refine T_exit (T_region hc (Ch.s (.d (.int .i64 ((s : Int) + 1))) (iX rfl rfl intV_addA) (Ch.s (.d (.int .i64 ((s : Int) + 1))) pm (Ch.nil ?_))))
    exact nx (s + 1) (by omega) (Wk.of rfl rfl (ai rfl (ai rfl (ai rfl (ai rfl (ai rfl (ai rfl (ai (vI a114) trivial))))))) (ai (oR a16) (ai rfl trivial)))
   ·
    refine T_skip (T_seq (T_region hc (Ch.s (.ptr 1000 2) (.pure (.fldPtr _ _ _ rfl fld35_2 rfl)) (Ch.s (.d (.slice false 4 (x.arcs.map Arc.d))) (.pure (.loadPtr1 _ _ rfl ag33 rfl rfl rfl)) (Ch.s (.d (.int .i64 (x.arcs.length : Int))) (.pure (.len _ _ 125 rfl Tryz.underlying33 (.sh _ _) (by simp))) (Ch.s (.d (.int .i64 0)) pm (Ch.nil ?_)))))))
    refine T_block ?_
    refine T_loop (ι := Nat) (fun m => { n := 73, sl := [(1, (.ptr 1000 0)), (3, (.row 3)), (4, (.d (.int .i64 (k : Int)))), (5, (.d (.int .i64 (s : Int)))), (10, (.d (.int .i64 (x.codes.length : Int)))), (11, (.d (.int .i64 (k : Int)))), (16, (.d (.int .i64 (x.sigs.length : Int)))), (17, (.d (.int .i64 (s : Int)))), (26, (.d (.slice false 4 (x.arcs.map Arc.d)))), (27, (.d (.int .i64 (x.arcs.length : Int)))), (28, (.d (.int .i64 (m : Int))))], hp := [(3, (some (.row 3 ((pvC x k s m).map Pvi.d)))), (1000, (some (.box (vX x))))], pin := [] }) (fun m => m ≤ x.arcs.length) (fun m => x.arcs.length - m) ⟨0, (by omega), (Wk.of rfl rfl (ai rfl (ai rfl (ai rfl (ai rfl (ai rfl (ai rfl (ai rfl (ai rfl (ai rfl (ai rfl (ai (vI a114) trivial))))))))))) (ai (oR a2) (ai rfl trivial)))⟩ (fun m hp2 => ?_)
    have hq := pvC_le hxf hx8.2 (k := k) (s := s) (m := m) (by omega) (by omega) (by omega)
    refine T_seq (T_region hc (Ch.s (.d (.bool (decide ((m : Int) < (x.arcs.length : Int))))) (iX rfl rfl rfl) (Ch.nil (T_seq ?_))))
    refine T_condD (p := ((m : Int) < (x.arcs.length : Int))) rfl (fun h4 => ?_) (fun h4 => ?_)
    ·
     try have hek := hen _ (getD_mem (l := x.arcs) (j := m) (d := default) (by omega))
     try have hsk := (hx.sig _ (getD_mem (l := x.arcs) (j := m) (d := default) (by omega))).1
     refine T_skip (T_seq (T_block (T_seq (T_region hc (Ch.s (.d (.int .i64 (m : Int))) pm (Ch.s (.d (.ref (.agg [(.int .i64 ((x.arcs.getD m default).src)), (.int .i64 ((x.arcs.getD m default).sig)), (.bool ((x.arcs.getD m default).up)), (.int .i64 ((x.arcs.getD m default).dst))]))) (.pure (.idx _ _ _ 125 (m) rfl Tryz.underlying33 sz125 rfl rfl rfl get_mapA)) (Ch.s (.d (.agg [(.int .i64 ((x.arcs.getD m default).src)), (.int .i64 ((x.arcs.getD m default).sig)), (.bool ((x.arcs.getD m default).up)), (.int .i64 ((x.arcs.getD m default).dst))])) (.pure (.loadRefA _ _ rfl ag125 sz125 rfl)) ?_)))))))
     refine Ch.s (.ptr 7000 0) (.alloc 7000 _ rfl zer125) (Ch.s (.d (.int .i64 (m : Int))) pa (Ch.s .junk (.storePtr _ _ _ rfl rfl rfl (.aggD _) sz125 (lb rfl)) (Ch.nil (T_seq (T_region hc (Ch.s (.ptr 7000 0) (.pure (.fldPtr _ _ _ rfl fld125_0 rfl)) (Ch.s (.d (.int .i64 ((x.arcs.getD m default).src))) (.pure (.loadPtr1 _ _ rfl ag3 rfl rfl rfl)) ?_)))))))
     refine Ch.s (.d (.int .i64 (k : Int))) pm (Ch.s (.d (.bool (decide (((x.arcs.getD m default).src) = (k : Int))))) (iX rfl rfl rfl) (Ch.s (.d (.bool (decide (((x.arcs.getD m default).src) = (k : Int))))) pm ?_))
     cases h5 : (decide (((x.arcs.getD m default).src) = (k : Int))) with
     | true =>
      replace h5 := of_decide_eq_true h5
      refine Ch.s (.ptr 7000 1) (.pure (.fldPtr _ _ _ rfl fld125_1 rfl)) (Ch.s (.d (.int .i64 ((x.arcs.getD m default).sig))) (.pure (.loadPtr1 _ _ rfl ag3 rfl rfl rfl)) (Ch.s (.d (.int .i64 (s : Int))) pm (Ch.s (.d (.bool (!(decide (((x.arcs.getD m default).sig) = (s : Int)))))) (iX rfl rfl rfl) (Ch.s (.d (.bool (!(decide (((x.arcs.getD m default).sig) = (s : Int)))))) (.pure (.pickT _ _ _ rfl rfl rfl)) (Ch.s (.d (.bool (!(decide (((x.arcs.getD m default).sig) = (s : Int)))))) pm ?_)))))
      cases h6 : (decide (((x.arcs.getD m default).sig) = (s : Int))) with
      | true =>
       replace h6 := of_decide_eq_true h6
       refine Ch.skip rfl rfl (Ch.skip rfl rfl (Ch.skip rfl rfl (Ch.skip rfl rfl (Ch.skip rfl rfl (Ch.skip rfl rfl (Ch.s (.d (.bool false)) (.pure (.pickF _ _ _ rfl rfl rfl)) (Ch.s (.d (.bool false)) pm ?_)))))))
       refine Ch.skip rfl rfl (Ch.skip rfl rfl (Ch.skip rfl rfl (Ch.skip rfl rfl (Ch.skip rfl rfl (Ch.skip rfl rfl (Ch.skip rfl rfl (Ch.skip rfl rfl ?_)))))))
       refine Ch.skip rfl rfl (Ch.s (.d (.bool false)) (.pure (.pickF _ _ _ rfl rfl rfl)) (Ch.nil ?_))
       refine T_cond (b := false) rfl (fun h => nomatch h) (fun _ => ?_)
       refine T_skip (T_region hc (Ch.s (.d (.int .i64 ((m : Int) + 1))) (iX rfl rfl intV_addA) (Ch.s (.d (.int .i64 ((m : Int) + 1))) pm (Ch.nil ?_))))
       exact nx (m + 1) (by omega) (Wk.of rfl rfl (ai rfl (ai rfl (ai rfl (ai rfl (ai rfl (ai rfl (ai rfl (ai rfl (ai rfl (ai rfl (ai (vI a114) trivial))))))))))) (ai (oR a2) (ai rfl trivial)))
      | false =>
       replace h6 := of_decide_eq_false h6
       refine Ch.s (.agg (vX x)) (.pure (.loadPtrA _ _ rfl ag35 sz35 rfl rfl (lb rfl) rfl)) (Ch.s (.ptr 7000 3) (.pure (.fldPtr _ _ _ rfl fld125_3 rfl)) (Ch.s (.d (.int .i64 ((x.arcs.getD m default).dst))) (.pure (.loadPtr1 _ _ rfl ag3 rfl rfl rfl)) (Ch.s (.d (.int .i64 (s : Int))) pm (Ch.s (.d (.bool (excB x ((x.arcs.getD m default).dst) (s : Int)))) (.call 48000 158 _ _ _ en158 rfl (.inl rfl) (.cons lX (.cons (.d _) (.cons (.d _) .nil))) rfl rfl (sp_spec_l5Excited x ((x.arcs.getD m default).dst) (s : Int) a39) (.skip _ _ (.skip _ _ (.skip _ _ .nil))) rfl) (Ch.s (.d (.bool (!(excB x ((x.arcs.getD m default).dst) (s : Int))))) (.pure (.not _ _ rfl rfl)) (Ch.s (.d (.bool (!(excB x ((x.arcs.getD m default).dst) (s : Int))))) (.pure (.pickT _ _ _ rfl rfl rfl)) (Ch.s (.d (.bool (!(excB x ((x.arcs.getD m default).dst) (s : Int))))) pm ?_)))))))
       cases h7 : (excB x ((x.arcs.getD m default).dst) (s : Int)) with
       | true =>
        refine Ch.skip rfl rfl (Ch.skip rfl rfl (Ch.skip rfl rfl (Ch.skip rfl rfl (Ch.skip rfl rfl (Ch.skip rfl rfl (Ch.skip rfl rfl (Ch.skip rfl rfl ?_)))))))
        refine Ch.skip rfl rfl (Ch.s (.d (.bool false)) (.pure (.pickF _ _ _ rfl rfl rfl)) (Ch.nil ?_))
        refine T_cond (b := false) rfl (fun h => nomatch h) (fun _ => ?_)
        refine T_skip (T_region hc (Ch.s (.d (.int .i64 ((m : Int) + 1))) (iX rfl rfl intV_addA) (Ch.s (.d (.int .i64 ((m : Int) + 1))) pm (Ch.nil ?_))))
        exact nx (m + 1) (by omega) (Wk.of rfl rfl (ai rfl (ai rfl (ai rfl (ai rfl (ai rfl (ai rfl (ai rfl (ai rfl (ai rfl (ai rfl (ai (vI a114) trivial))))))))))) (ai (oR a2) (ai rfl trivial)))
       | false =>
        refine Ch.s (.agg (vX x)) (.pure (.loadPtrA _ _ rfl ag35 sz35 rfl rfl (lb rfl) rfl)) (Ch.s (.d (.int .i64 (s : Int))) pm (Ch.s (.d (.bool (!(inputB x (s : Int))))) (.call 54000 203 _ _ _ en203 rfl (.inl rfl) (.cons lX (.cons (.d _) .nil)) rfl rfl (sp_spec_l6Own x (s : Int) a39 a123) (.skip _ _ (.skip _ _ .nil)) rfl) (Ch.s (.d (.bool (!(inputB x (s : Int))))) pm ?_)))
        cases h8 : (inputB x (s : Int)) with
        | true =>
         refine Ch.s (.agg (vX x)) (.pure (.loadPtrA _ _ rfl ag35 sz35 rfl rfl (lb rfl) rfl)) (Ch.s (.ptr 7000 1) (.pure (.fldPtr _ _ _ rfl fld125_1 rfl)) (Ch.s (.d (.int .i64 ((x.arcs.getD m default).sig))) (.pure (.loadPtr1 _ _ rfl ag3 rfl rfl rfl)) (Ch.s (.d (.bool (!(inputB x ((x.arcs.getD m default).sig))))) (.call 59000 203 _ _ _ en203 rfl (.inl rfl) (.cons lX (.cons (.d _) .nil)) rfl rfl (sp_spec_l6Own x ((x.arcs.getD m default).sig) a39 a123) (.skip _ _ (.skip _ _ .nil)) rfl) (Ch.s (.d (.bool (!(inputB x ((x.arcs.getD m default).sig))))) (.pure (.pickF _ _ _ rfl rfl rfl)) (Ch.s (.d (.bool (!(inputB x ((x.arcs.getD m default).sig))))) (.pure (.pickT _ _ _ rfl rfl rfl)) (Ch.nil ?_))))))
         refine T_condN (b := (inputB x ((x.arcs.getD m default).sig))) rfl (fun h9 => ?_) (fun h9 => ?_)
         ·
          refine T_region hc (Ch.s (.row 3) pm (Ch.s (.d (.int .i64 (k : Int))) pm (Ch.s (.d (.int .i64 (s : Int))) pm (Ch.s (.d (.int .i64 (m : Int))) pm (Ch.s (.agg [(.d (.int .i64 (k : Int))), (.d (.int .i64 (s : Int))), (.d (.int .i64 (m : Int)))]) (.build _ _ rfl stru216 (.cons (.one _ rfl) (.cons (.one _ rfl) (.cons (.one _ rfl) .nil))) rfl) (Ch.s (.row 67000) (.slice 67000 _ 216 _ rfl sty175 (xs := [.tmp 66]) rfl rfl (.cons (.agg (.cons (.d _) (.cons (.d _) (.cons (.d _) .nil))) rfl) .nil) rfl rfl (by decide)) ?_))))))
          refine Ch.step (v := (.row 68000)) rfl (.append 68000 _ _ _ 216 rfl sty175 (by decide) (.rowK rfl) (.inr ⟨_, rfl, rfl⟩) (.row rfl rfl) rfl a56) rfl rfl ?_
          refine Ch.s (.row 68000) pa (Ch.nil (T_region hc (Ch.s (.d (.int .i64 ((m : Int) + 1))) (iX rfl rfl intV_addA) (Ch.s (.d (.int .i64 ((m : Int) + 1))) pm (Ch.nil ?_)))))
          exact nx (m + 1) (by omega) (Wk.ren [(3, 68000)] rfl rfl rfl rfl (ai rfl (ai rfl (ai rfl (ai rfl (ai rfl (ai rfl (ai rfl (ai rfl (ai rfl (ai rfl (ai (vI a114) trivial))))))))))) (ai (oR a2) (ai rfl trivial)))
         ·
          refine T_skip (T_region hc (Ch.s (.d (.int .i64 ((m : Int) + 1))) (iX rfl rfl intV_addA) (Ch.s (.d (.int .i64 ((m : Int) + 1))) pm (Ch.nil ?_))))
          exact nx (m + 1) (by omega) (Wk.of rfl rfl (ai rfl (ai rfl (ai rfl (ai rfl (ai rfl (ai rfl (ai rfl (ai rfl (ai rfl (ai rfl (ai (vI a114) trivial))))))))))) (ai (oR a2) (ai rfl trivial)))
        | false =>
         refine Ch.skip rfl rfl (Ch.skip rfl rfl (Ch.skip rfl rfl (Ch.skip rfl rfl (Ch.s (.d (.bool true)) (.pure (.pickT _ _ _ rfl rfl rfl)) (Ch.s (.d (.bool true)) (.pure (.pickT _ _ _ rfl rfl rfl)) (Ch.nil ?_))))))
         refine T_cond (b := true) rfl (fun _ => ?_) (fun h => nomatch h)
         refine T_region hc (Ch.s (.row 3) pm (Ch.s (.d (.int .i64 (k : Int))) pm (Ch.s (.d (.int .i64 (s : Int))) pm (Ch.s (.d (.int .i64 (m : Int))) pm (Ch.s (.agg [(.d (.int .i64 (k : Int))), (.d (.int .i64 (s : Int))), (.d (.int .i64 (m : Int)))]) (.build _ _ rfl stru216 (.cons (.one _ rfl) (.cons (.one _ rfl) (.cons (.one _ rfl) .nil))) rfl) (Ch.s (.row 67000) (.slice 67000 _ 216 _ rfl sty175 (xs := [.tmp 66]) rfl rfl (.cons (.agg (.cons (.d _) (.cons (.d _) (.cons (.d _) .nil))) rfl) .nil) rfl rfl (by decide)) ?_))))))
         refine Ch.step (v := (.row 68000)) rfl (.append 68000 _ _ _ 216 rfl sty175 (by decide) (.rowK rfl) (.inr ⟨_, rfl, rfl⟩) (.row rfl rfl) rfl a56) rfl rfl ?_
         refine Ch.s (.row 68000) pa (Ch.nil (T_region hc (Ch.s (.d (.int .i64 ((m : Int) + 1))) (iX rfl rfl intV_addA) (Ch.s (.d (.int .i64 ((m : Int) + 1))) pm (Ch.nil ?_)))))
         exact nx (m + 1) (by omega) (Wk.ren [(3, 68000)] rfl rfl rfl rfl (ai rfl (ai rfl (ai rfl (ai rfl (ai rfl (ai rfl (ai rfl (ai rfl (ai rfl (ai rfl (ai (vI a114) trivial))))))))))) (ai (oR a2) (ai rfl trivial)))
     | false =>
      replace h5 := of_decide_eq_false h5
      refine Ch.skip rfl rfl (Ch.skip rfl rfl (Ch.skip rfl rfl (Ch.skip rfl rfl (Ch.s (.d (.bool false)) (.pure (.pickF _ _ _ rfl rfl rfl)) (Ch.s (.d (.bool false)) pm (Ch.skip rfl rfl (Ch.skip rfl rfl ?_)))))))
      refine Ch.skip rfl rfl (Ch.skip rfl rfl (Ch.skip rfl rfl (Ch.skip rfl rfl (Ch.s (.d (.bool false)) (.pure (.pickF _ _ _ rfl rfl rfl)) (Ch.s (.d (.bool false)) pm (Ch.skip rfl rfl (Ch.skip rfl rfl ?_)))))))
      refine Ch.skip rfl rfl (Ch.skip rfl rfl (Ch.skip rfl rfl (Ch.skip rfl rfl (Ch.skip rfl rfl (Ch.skip rfl rfl (Ch.skip rfl rfl (Ch.s (.d (.bool false)) (.pure (.pickF _ _ _ rfl rfl rfl)) ?_)))))))
      refine Ch.nil ?_
      refine T_cond (b := false) rfl (fun h => nomatch h) (fun _ => ?_)
      refine T_skip (T_region hc (Ch.s (.d (.int .i64 ((m : Int) + 1))) (iX rfl rfl intV_addA) (Ch.s (.d (.int .i64 ((m : Int) + 1))) pm (Ch.nil ?_))))
      exact nx (m + 1) (by omega) (Wk.of rfl rfl (ai rfl (ai rfl (ai rfl (ai rfl (ai rfl (ai rfl (ai rfl (ai rfl (ai rfl (ai rfl (ai (vI a114) trivial))))))))))) (ai (oR a2) (ai rfl trivial)))
    ·
     try have hek := hen _ (getD_mem (l := x.arcs) (j := m) (d := default) (by omega))
     try have hsk := (hx.sig _ (getD_mem (l := x.arcs) (j := m) (d := default) (by omega))).1
     refine T_exit (T_region hc (Ch.s (.d (.int .i64 ((s : Int) + 1))) (iX rfl rfl intV_addA) (Ch.s (.d (.int .i64 ((s : Int) + 1))) pm (Ch.nil ?_))))
     exact nx (s + 1) (by omega) (Wk.of rfl rfl (ai rfl (ai rfl (ai rfl (ai rfl (ai rfl (ai rfl (ai (vI a114) trivial))))))) (ai (oR a16) (ai rfl trivial)))
  ·
   refine T_exit (T_region hc (Ch.s (.d (.int .i64 ((k : Int) + 1))) (iX rfl rfl intV_addA) (Ch.s (.d (.int .i64 ((k : Int) + 1))) pm (Ch.nil ?_))))
   exact nx (k + 1) (by omega) (Wk.of rfl rfl (ai rfl (ai rfl (ai rfl (ai (vI a114) trivial)))) (ai (oR a102) (ai rfl trivial)))
 ·
  refine T_exit (T_seq (T_region hc (Ch.s (.row 3) pm (Ch.s (.row 3) pa (Ch.nil (T_ret ?_))))))
  exact endR [(.row 3)] [] [3] (.cons (.tmp 2 rfl) .nil) (.cons (.any _) .nil) (Exp.of (congrArg (D.slice true 3) (by rw [pvL, show x.codes.length = k by omega])) (.row rfl)) rfl rfl

theorem sp_prA (x : Sgr) (hb : x.bulk ≤ 1048576) (hx : SgOk x) : Sp Tryz.prog 221 [(.agg [(.slice false 2 (x.sigs.map Sgn.d)), (.slice false 1 (x.codes.map D.str)), (.slice false 4 (x.arcs.map Arc.d))])] [.any] (.slice true 1 ((prA x).map intsU)) := sp_spec_l6Pairs x hb hx

set_option maxHeartbeats 2000000 in
theorem sp_spec_l6Conflicts (x : Sgr) (hb : x.bulk ≤ 1048576) (hx : SgOk x) : Sp Tryz.prog 169 [(.agg [(.slice false 2 (x.sigs.map Sgn.d)), (.slice false 1 (x.codes.map D.str)), (.slice false 4 (x.arcs.map Arc.d))])] [.any] (.slice true 1 ((cfL x).map intsU)) := by
 refine Sp_intro (lend := true) Tryz.func169 rfl rfl rfl (fun _ => rfl) (fun c hc hX => ?_)
 obtain ⟨hp0, hp1, hp2⟩ := Sgr.parts hb
 have hn0 := bulkF_len hp0
 have hn1 := bulk_len hp1
 have hx1 := bulk_mem hp1
 have hn2 := bulkF_len hp2; have hx8 := hx.eight; have hxl := hx.len; have hxf := hx.few; have hen := hx.ends; have hpl : (prA x).length ≤ 90000 := Nat.le_trans (prTo_le (eqP x) (n := x.codes.length) (by omega) x.codes.length) (by omega); have hol := outs_len x.sigs
 refine T_seq (T_region hc (Ch.s (.ptr 1000 0) (.box 1000 _ _ rfl (.aggD _)) (Ch.s (.c (.slice none 0 0)) pa (Ch.nil (T_seq (T_region hc (Ch.s (.c (.slice none 0 0)) pa ?_)))))))
 refine Ch.nil (T_seq (T_seq (T_region hc (Ch.s (.agg (vX x)) (.pure (.loadPtrA _ _ rfl ag35 sz35 rfl rfl (lb rfl) rfl)) ?_))))
 refine Ch.step (v := (.row 10000)) rfl (.call 10000 221 _ _ _ en221 rfl (.inl rfl) (.cons lX .nil) rfl (sol (solid_row intsU_sol _) rfl) (sp_prA x a39 (by assumption)) (.skip _ _ .nil) rfl) rfl rfl ?_
 refine Ch.s (.d (.int .i64 ((prA x).length : Int))) (.pure (.len _ _ 55 rfl Tryz.underlying49 (.row rfl) (by simp))) (Ch.s (.d (.int .i64 0)) pm (Ch.nil (T_block ?_)))
 refine T_loop (ι := Nat × List D) (fun q => { n := 47, sl := [(1, (.ptr 1000 0)), (3, (.row 3)), (10, (.row 10000)), (11, (.d (.int .i64 ((prA x).length : Int)))), (12, (.d (.int .i64 (q.1 : Int))))], hp := [(3, (some (.row 1 ((unK x q.1).map intsU)))), (1000, (some (.box (vX x)))), (10000, (some (.row 1 ((q.2 ++ ((prA x).drop q.1).map intsU)))))], pin := [] }) (fun q => q.1 ≤ (prA x).length ∧ q.2.length = q.1) (fun q => (prA x).length - q.1) ⟨(0, []), ⟨by dsimp only; omega, rfl⟩, (Wk.trans (Wk.nilrow 3 900003 1 rfl rfl rfl) (Wk.ren [(3, 900003)] rfl rfl rfl rfl (ai rfl (ai rfl (ai rfl (ai rfl (ai (vI a114) trivial))))) (ai (oR a24) (ai rfl (ai (oR a24) trivial)))))⟩ (fun q hp0 => ?_)
 have hq := unK_le x q.1; have hgl := mg_len (f := intsU) hp0.2 hp0.1
 refine T_seq (T_region hc (Ch.s (.d (.bool (decide ((q.1 : Int) < ((prA x).length : Int))))) (iX rfl rfl rfl) (Ch.nil (T_seq ?_))))
 refine T_condD (p := ((q.1 : Int) < ((prA x).length : Int))) rfl (fun h1 => ?_) (fun h1 => ?_)
 ·
  try have hpr := prTo_in (Nat.le_refl _) _ (getD_mem (l := prA x) (j := q.1) (d := default) (by omega))
  try have hp2 := hpr.1
  refine T_skip (T_seq (T_block (T_seq ?_)))
  refine T_take 10000 q.1 7000002 7000003 rfl (mg_at hp0.2 (by omega)) rfl rfl (fun u1 => ?_)
  refine T_region hc (Ch.s (.el 10000 1 q.1 0) (.pure (.idxRow _ _ _ 55 (q.1) rfl Tryz.underlying49 sz55 rfl rfl rfl rfl a86)) (Ch.s (.row 7000002) (.pure (.loadHole (n := 7000002) (m := 7000003) (u := u1) _ _ rfl ag55 rfl rfl (get_set a86) rfl rfl)) (Ch.s (.row 7000002) pa (Ch.nil (T_seq (T_region hc (Ch.s (.d (.bool false)) pa ?_)))))))
  refine Ch.nil (T_seq (T_seq (T_region hc (Ch.s (.agg (vX x)) (.pure (.loadPtrA _ _ rfl ag35 sz35 rfl rfl (lb rfl) rfl)) ?_))))
  refine Ch.step (v := (.row 17000)) rfl (.call 17000 131 _ _ _ en131 rfl (.inl rfl) (.cons lX .nil) rfl (sol (solid_row (fun _ => rfl) _) rfl) (sp_spec_l6Owned x a39) (.skip _ _ .nil) rfl) rfl rfl ?_
  refine Ch.s (.d (.int .i64 ((outsL x.sigs).length : Int))) (.pure (.len _ _ 3 rfl Tryz.underlying55 (.row rfl) (by simp))) (Ch.s (.d (.int .i64 0)) pm (Ch.nil (T_block ?_)))
  refine T_loop (ι := Nat) (fun m => { n := 47, sl := [(1, (.ptr 1000 0)), (3, (.row 3)), (5, (.row 7000002)), (6, (.d (.bool (unM x ((prA x).getD q.1 default) m)))), (10, (.row 10000)), (11, (.d (.int .i64 ((prA x).length : Int)))), (12, (.d (.int .i64 (q.1 : Int)))), (17, (.row 17000)), (18, (.d (.int .i64 ((outsL x.sigs).length : Int)))), (19, (.d (.int .i64 (m : Int))))], hp := [(3, (some (.row 1 ((unK x q.1).map intsU)))), (1000, (some (.box (vX x)))), (10000, (some (.row 1 ((((q.2 ++ ((prA x).drop q.1).map intsU))).set q.1 (.hole u1))))), (17000, (some (.row 1 ((outsL x.sigs).map (fun n : Int => D.int .i64 n))))), (7000002, (some (.row 1 (((prA x).getD q.1 default).map (fun n : Int => D.int .i64 n))))), (7000003, (some (.head 7000002 u1)))], pin := [] }) (fun m => m ≤ (outsL x.sigs).length) (fun m => (outsL x.sigs).length - m) ⟨0, (by omega), (Wk.of rfl rfl (ai rfl (ai rfl (ai rfl (ai (vB a31) (ai rfl (ai rfl (ai rfl (ai rfl (ai rfl (ai (vI a114) trivial)))))))))) (ai rfl (ai rfl (ai rfl (ai rfl (ai rfl (ai rfl trivial)))))))⟩ (fun m hp1 => ?_)
  refine T_seq (T_region hc (Ch.s (.d (.bool (decide ((m : Int) < ((outsL x.sigs).length : Int))))) (iX rfl rfl rfl) (Ch.nil (T_seq ?_))))
  refine T_condD (p := ((m : Int) < ((outsL x.sigs).length : Int))) rfl (fun h2 => ?_) (fun h2 => ?_)
  ·
   refine T_skip (T_seq (T_block (T_seq (T_region hc (Ch.s (.el 17000 1 m 0) (.pure (.idxRow _ _ _ 3 (m) rfl Tryz.underlying55 sz3 rfl rfl rfl rfl a86)) (Ch.s (.d (.int .i64 ((outsL x.sigs).getD m default))) (.pure (.loadEl1 _ _ rfl ag3 rfl rfl get_mapA rfl rfl rfl)) (Ch.s (.d (.int .i64 ((outsL x.sigs).getD m default))) pa ?_)))))))
   refine Ch.nil ?_
   refine T_regionD hc (by kernel_rfl) ?_
   refine ChD.s (.d (.bool (unM x ((prA x).getD q.1 default) m))) [] pm (ChD.s (.d (.bool (unM x ((prA x).getD q.1 default) m))) [] pm ?_)
   cases h3 : (unM x ((prA x).getD q.1 default) m) with
   | true =>
    refine ChD.skip rfl rfl (ChD.skip rfl rfl (ChD.skip rfl rfl (ChD.skip rfl rfl (ChD.skip rfl rfl (ChD.skip rfl rfl (ChD.skip rfl rfl (ChD.skip rfl rfl ?_)))))))
    refine ChD.skip rfl rfl (ChD.skip rfl rfl (ChD.skip rfl rfl (ChD.skip rfl rfl (ChD.skip rfl rfl (ChD.s (.d (.bool true)) [] (.pure (.pickT _ _ _ rfl rfl rfl)) (ChD.s (.d (.bool true)) [] pa ?_))))))
    refine ChD.nil (And.intro ?_ (by kernel_rfl))
    refine T_region hc (Ch.s (.d (.int .i64 ((m : Int) + 1))) (iX rfl rfl intV_addA) (Ch.s (.d (.int .i64 ((m : Int) + 1))) pm (Ch.nil ?_)))
    exact nx (m + 1) (by omega) (Wk.of rfl rfl (ai rfl (ai rfl (ai rfl (ai (vB a31) (ai rfl (ai rfl (ai rfl (ai rfl (ai rfl (ai (vI a114) trivial)))))))))) (ai rfl (ai rfl (ai rfl (ai rfl (ai rfl (ai rfl trivial)))))))
   | false =>
    refine ChD.s (.agg (vX x)) [1000] (.pure (.loadPtrA _ _ rfl ag35 sz35 rfl rfl (lb rfl) rfl)) (ChD.s (.row 7000002) [] pm (ChD.s (.el 7000002 1 0 0) [7000002] (.pure (.idxRow _ _ _ 3 (0) rfl Tryz.underlying55 sz3 rfl rfl rfl rfl a86)) (ChD.s (.d (.int .i64 (((prA x).getD q.1 default).getD 0 default))) [7000002] (.pure (.loadEl1 _ _ rfl ag3 rfl rfl get_mapA rfl rfl rfl)) (ChD.s (.d (.int .i64 ((outsL x.sigs).getD m default))) [] pm (ChD.s (.d (.bool (excB x (((prA x).getD q.1 default).getD 0 default) ((outsL x.sigs).getD m default)))) [] (.call 30000 158 _ _ _ en158 rfl (.inl rfl) (.cons lX (.cons (.d _) (.cons (.d _) .nil))) rfl rfl (sp_spec_l5Excited x (((prA x).getD q.1 default).getD 0 default) ((outsL x.sigs).getD m default) a39) (.skip _ _ (.skip _ _ (.skip _ _ .nil))) rfl) (ChD.s (.agg (vX x)) [1000] (.pure (.loadPtrA _ _ rfl ag35 sz35 rfl rfl (lb rfl) rfl)) (ChD.s (.row 7000002) [] pm ?_)))))))
    refine ChD.s (.el 7000002 1 1 0) [7000002] (.pure (.idxRow _ _ _ 3 (1) rfl Tryz.underlying55 sz3 rfl rfl rfl rfl a86)) (ChD.s (.d (.int .i64 (((prA x).getD q.1 default).getD 1 default))) [7000002] (.pure (.loadEl1 _ _ rfl ag3 rfl rfl get_mapA rfl rfl rfl)) (ChD.s (.d (.int .i64 ((outsL x.sigs).getD m default))) [] pm (ChD.s (.d (.bool (excB x (((prA x).getD q.1 default).getD 1 default) ((outsL x.sigs).getD m default)))) [] (.call 36000 158 _ _ _ en158 rfl (.inl rfl) (.cons lX (.cons (.d _) (.cons (.d _) .nil))) rfl rfl (sp_spec_l5Excited x (((prA x).getD q.1 default).getD 1 default) ((outsL x.sigs).getD m default) a39) (.skip _ _ (.skip _ _ (.skip _ _ .nil))) rfl) (ChD.s (.d (.bool (!(decide ((excB x (((prA x).getD q.1 default).getD 0 default) ((outsL x.sigs).getD m default)) = (excB x (((prA x).getD q.1 default).getD 1 default) ((outsL x.sigs).getD m default))))))) [] (.pure (.neB _ _ _ _ rfl Tryz.underlying4 rfl rfl)) (ChD.s (.d (.bool (!(decide ((excB x (((prA x).getD q.1 default).getD 0 default) ((outsL x.sigs).getD m default)) = (excB x (((prA x).getD q.1 default).getD 1 default) ((outsL x.sigs).getD m default))))))) [] (.pure (.pickF _ _ _ rfl rfl rfl)) (ChD.s (.d (.bool (!(decide ((excB x (((prA x).getD q.1 default).getD 0 default) ((outsL x.sigs).getD m default)) = (excB x (((prA x).getD q.1 default).getD 1 default) ((outsL x.sigs).getD m default))))))) [] pa ?_))))))
    refine ChD.nil (And.intro ?_ (by kernel_rfl))
    refine T_region hc (Ch.s (.d (.int .i64 ((m : Int) + 1))) (iX rfl rfl intV_addA) (Ch.s (.d (.int .i64 ((m : Int) + 1))) pm (Ch.nil ?_)))
    exact nx (m + 1) (by omega) (Wk.of rfl rfl (ai rfl (ai rfl (ai rfl (ai (vB a31) (ai rfl (ai rfl (ai rfl (ai rfl (ai rfl (ai (vI a114) trivial)))))))))) (ai rfl (ai rfl (ai rfl (ai rfl (ai rfl (ai rfl trivial)))))))
  ·
   refine T_exit (T_seq (T_region hc (Ch.s (.d (.bool (unM x ((prA x).getD q.1 default) m))) pm (Ch.nil ?_))))
   refine T_cond (b := (unM x ((prA x).getD q.1 default) m)) rfl (fun h4 => ?_) (fun h4 => ?_)
   ·
    refine T_region hc (Ch.s (.row 3) pm (Ch.s (.row 7000002) pm (Ch.s (.row 43000) (.slice 43000 _ 55 _ rfl sty49 (xs := [.tmp 42]) rfl rfl (.cons (.row rfl) .nil) rfl rfl (by decide)) ?_)))
    refine Ch.step (v := (.row 44000)) rfl (.append 44000 _ _ _ 55 rfl sty49 (by decide) (.rowK rfl) (.inr ⟨_, rfl, rfl⟩) (.rowK rfl) rfl a56) rfl rfl ?_
    refine Ch.s (.row 44000) pa (Ch.nil (T_region hc (Ch.s (.d (.int .i64 ((q.1 : Int) + 1))) (iX rfl rfl intV_addA) (Ch.s (.d (.int .i64 ((q.1 : Int) + 1))) pm (Ch.nil ?_)))))
    exact nx (q.1 + 1, q.2 ++ [.hole u1]) ⟨by dsimp only; omega, by dsimp only; rw [List.length_append, hp0.2]; rfl⟩ (Wk.ren [(3, 44000)] rfl rfl rfl rfl (ai rfl (ai rfl (ai rfl (ai rfl (ai (vI a114) trivial))))) (ai (oR a24) (ai rfl (ai (oR a24) trivial))))
   ·
    refine T_skip (T_region hc (Ch.s (.d (.int .i64 ((q.1 : Int) + 1))) (iX rfl rfl intV_addA) (Ch.s (.d (.int .i64 ((q.1 : Int) + 1))) pm (Ch.nil ?_))))
    exact nx (q.1 + 1, q.2 ++ [.hole u1]) ⟨by dsimp only; omega, by dsimp only; rw [List.length_append, hp0.2]; rfl⟩ (Wk.of rfl rfl (ai rfl (ai rfl (ai rfl (ai rfl (ai (vI a114) trivial))))) (ai (oR a24) (ai rfl (ai (oR a24) trivial))))
 ·
  try have hpr := prTo_in (Nat.le_refl _) _ (getD_mem (l := prA x) (j := q.1) (d := default) (by omega))
  try have hp2 := hpr.1
  refine T_exit (T_seq (T_region hc (Ch.s (.row 3) pm (Ch.s (.row 3) pa (Ch.nil (T_ret ?_))))))
  exact endR [(.row 3)] [] [3] (.cons (.tmp 2 rfl) .nil) (.cons (.any _) .nil) (Exp.of (congrArg (D.slice true 1) (by rw [← unK_all (k := q.1) (by omega)])) (.row rfl)) rfl rfl

theorem sp_impl_diagnosis_1 (a : Arc) : Sp Tryz.prog 281 [(.agg [(.int .i64 a.src), (.int .i64 a.sig), (.bool (a.up)), (.int .i64 a.dst)])] [.any] (.bool (decide (a.sig = -1))) := by
 refine Sp_intro (lend := true) Tryz.func281 rfl rfl rfl (fun _ => rfl) (fun c hc hX => ?_)
 refine T_seq (T_region hc (Ch.s (.ptr 1000 0) (.box 1000 _ _ rfl (.aggD _)) (Ch.s (.d (.bool false)) pa (Ch.nil (T_seq (T_region hc (Ch.s (.ptr 1000 1) (.pure (.fldPtr _ _ _ rfl fld125_1 rfl)) ?_)))))))
 refine Ch.s (.d (.int .i64 a.sig)) (.pure (.loadPtr1 _ _ rfl ag3 rfl rfl rfl)) (Ch.s (.d (.bool (decide (a.sig = (-1))))) (iX rfl rfl rfl) (Ch.s (.d (.bool (decide (a.sig = (-1))))) pa (Ch.nil (T_ret ?_))))
 exact endR [(.d (.bool (decide (a.sig = (-1)))))] [] [] (.cons (.tmp 2 rfl) .nil) (.cons (.any _) .nil) (Exp.of (congrArg D.bool (by rfl)) (.d _)) rfl rfl

theorem sp_spec_l6Hidden (x : Sgr) (hb : x.bulk ≤ 1048576) (hx : SgOk x) : Sp Tryz.prog 166 [(.agg [(.slice false 2 (x.sigs.map Sgn.d)), (.slice false 1 (x.codes.map D.str)), (.slice false 4 (x.arcs.map Arc.d))])] [.any] (.bool (hidB x)) := by
 refine Sp_intro (lend := true) Tryz.func166 rfl rfl rfl (fun _ => rfl) (fun c hc hX => ?_)
 obtain ⟨hp0, hp1, hp2⟩ := Sgr.parts hb
 have hn0 := bulkF_len hp0
 have hn1 := bulk_len hp1
 have hx1 := bulk_mem hp1
 have hn2 := bulkF_len hp2; have hx8 := hx.eight; have hxl := hx.len; have hxf := hx.few; have hen := hx.ends
 refine T_seq (T_region hc (Ch.s (.ptr 1000 0) (.box 1000 _ _ rfl (.aggD _)) (Ch.s (.d (.bool false)) pa (Ch.nil (T_seq (T_seq (T_region hc ?_)))))))
 refine Ch.s (.ptr 1000 2) (.pure (.fldPtr _ _ _ rfl fld35_2 rfl)) (Ch.s (.d (.slice false 4 (x.arcs.map Arc.d))) (.pure (.loadPtr1 _ _ rfl ag33 rfl rfl rfl)) (Ch.s (.d (.int .i64 (x.arcs.length : Int))) (.pure (.len _ _ 125 rfl Tryz.underlying33 (.sh _ _) (by simp))) (Ch.s (.d (.int .i64 0)) pm (Ch.nil (T_block ?_)))))
 refine T_loop (ι := Nat) (fun k => { n := 16, sl := [(6, (.d (.slice false 4 (x.arcs.map Arc.d)))), (7, (.d (.int .i64 (x.arcs.length : Int)))), (8, (.d (.int .i64 (k : Int))))], hp := [], pin := [] }) (fun k => k ≤ x.arcs.length ∧ ∀ j, j < k → decide ((x.arcs.getD j default).sig = -1) = false) (fun k => x.arcs.length - k) ⟨0, ⟨by omega, fun j hj => by omega⟩, (Wk.of rfl rfl (ai rfl (ai rfl (ai (vI a114) trivial))) trivial)⟩ (fun k hp0 => ?_)
 refine T_seq (T_region hc (Ch.s (.d (.bool (decide ((k : Int) < (x.arcs.length : Int))))) (iX rfl rfl rfl) (Ch.nil (T_seq ?_))))
 refine T_condD (p := ((k : Int) < (x.arcs.length : Int))) rfl (fun h1 => ?_) (fun h1 => ?_)
 ·
  try have hsk := (hx.sig _ (getD_mem (l := x.arcs) (j := k) (d := default) (by omega))).2
  refine T_skip (T_seq (T_block (T_seq (T_region hc (Ch.s (.d (.ref (.agg [(.int .i64 ((x.arcs.getD k default).src)), (.int .i64 ((x.arcs.getD k default).sig)), (.bool ((x.arcs.getD k default).up)), (.int .i64 ((x.arcs.getD k default).dst))]))) (.pure (.idx _ _ _ 125 (k) rfl Tryz.underlying33 sz125 rfl rfl rfl get_mapA)) (Ch.s (.d (.agg [(.int .i64 ((x.arcs.getD k default).src)), (.int .i64 ((x.arcs.getD k default).sig)), (.bool ((x.arcs.getD k default).up)), (.int .i64 ((x.arcs.getD k default).dst))])) (.pure (.loadRefA _ _ rfl ag125 sz125 rfl)) (Ch.s (.ptr 4000 0) (.alloc 4000 _ rfl zer125) ?_)))))))
  refine Ch.s .junk (.storePtr _ _ _ rfl rfl rfl (.aggD _) sz125 (lb rfl)) (Ch.nil (T_seq (T_region hc (Ch.s (.ptr 4000 1) (.pure (.fldPtr _ _ _ rfl fld125_1 rfl)) (Ch.s (.d (.int .i64 ((x.arcs.getD k default).sig))) (.pure (.loadPtr1 _ _ rfl ag3 rfl rfl rfl)) (Ch.s (.d (.bool (decide (((x.arcs.getD k default).sig) < 0)))) (iX rfl rfl rfl) (Ch.nil ?_)))))))
  refine T_condD (p := (((x.arcs.getD k default).sig) < 0)) rfl (fun h2 => ?_) (fun h2 => ?_)
  ·
   refine T_seq (T_region hc (Ch.s (.d (.bool true)) pa (Ch.nil (T_ret ?_))))
   exact endR [(.d (.bool true))] [] [] (.cons (.tmp 2 rfl) .nil) (.cons (.any _) .nil) (Exp.of (congrArg D.bool (by exact any_yes default k (by omega) (decide_eq_true (by omega)))) (.d _)) rfl rfl
  ·
   refine T_skip (T_region hc (Ch.s (.d (.int .i64 ((k : Int) + 1))) (iX rfl rfl intV_addA) (Ch.s (.d (.int .i64 ((k : Int) + 1))) pm (Ch.nil ?_))))
   exact nx (k + 1) ⟨by omega, upto_succ hp0.2 (decide_eq_false (by omega))⟩ (Wk.of rfl rfl (ai rfl (ai rfl (ai (vI a114) trivial))) trivial)
 ·
  try have hsk := (hx.sig _ (getD_mem (l := x.arcs) (j := k) (d := default) (by omega))).2
  refine T_exit (T_seq (T_region hc (Ch.s (.d (.bool false)) pa (Ch.nil (T_ret ?_)))))
  exact endR [(.d (.bool false))] [] [] (.cons (.tmp 2 rfl) .nil) (.cons (.any _) .nil) (Exp.of (congrArg D.bool a113) (.d _)) rfl rfl

theorem sp_impl_diagnosis (x : Sgr) (hb : x.bulk ≤ 1048576) (hx : SgOk x) : Sp Tryz.prog 258 [(.agg [(.slice false 2 (x.sigs.map Sgn.d)), (.slice false 1 (x.codes.map D.str)), (.slice false 4 (x.arcs.map Arc.d))])] [.any] (.str (whyW x)) := by
 refine Sp_intro (lend := true) Tryz.func258 rfl rfl rfl (fun _ => rfl) (fun c hc hX => ?_)
 obtain ⟨hp0, hp1, hp2⟩ := Sgr.parts hb
 have hn0 := bulkF_len hp0
 have hn1 := bulk_len hp1
 have hx1 := bulk_mem hp1
 have hn2 := bulkF_len hp2; have hx8 := hx.eight; have hxl := hx.len; have hxf := hx.few; have hen := hx.ends
 refine T_seq (T_region hc (Ch.s (.ptr 1000 0) (.box 1000 _ _ rfl (.aggD _)) (Ch.s (.d (.str [])) pa (Ch.nil (T_seq (T_block (T_seq ?_)))))))
 refine T_region hc (Ch.s (.ptr 1000 2) (.pure (.fldPtr _ _ _ rfl fld35_2 rfl)) (Ch.s (.d (.slice false 4 (x.arcs.map Arc.d))) (.pure (.loadPtr1 _ _ rfl ag33 rfl rfl rfl)) (Ch.s (.d (.bool (x.arcs.any (fun a => decide (a.sig = -1))))) (.call 6000 207 _ _ _ en207 rfl (.inl rfl) (.cons (.d _) (.cons (.lend (.fn .nil)) .nil)) rfl rfl (sp_ContainsFunc_arc x.arcs 281 [] (fun a => decide (a.sig = -1)) en281 (fun a ha => sp_impl_diagnosis_1 a) a23) (.skip _ _ (.skip _ _ .nil)) rfl) (Ch.s (.d (.bool (x.arcs.any (fun a => decide (a.sig = -1))))) pa (Ch.nil ?_)))))
 refine T_cond (b := (x.arcs.any (fun a => decide (a.sig = -1)))) rfl (fun h1 => ?_) (fun h1 => ?_)
 ·
  refine T_seq (T_region hc (Ch.s (.d (.str [104, 105, 100, 100, 101, 110])) pa (Ch.nil (T_ret ?_))))
  exact endR [(.d (.str [104, 105, 100, 100, 101, 110]))] [] [] (.cons (.tmp 2 rfl) .nil) (.cons (.any _) .nil) (Exp.of (congrArg D.str a48) (.d _)) rfl rfl
 ·
  refine T_seq (T_region hc (Ch.s (.agg (vX x)) (.pure (.loadPtrA _ _ rfl ag35 sz35 rfl rfl (lb rfl) rfl)) ?_))
  refine Ch.step (v := (.row 9000)) rfl (.call 9000 282 _ _ _ en282 rfl (.inl rfl) (.cons lX .nil) rfl (sol (solid_row intsU_sol _) rfl) (sp_impl_twoWays x a39 (by assumption)) (.skip _ _ .nil) rfl) rfl rfl ?_
  refine Ch.s (.d (.int .i64 ((twL x).length : Int))) (.pure (.len _ _ 55 rfl Tryz.underlying49 (.row rfl) (by simp))) (Ch.s (.d (.bool (decide (0 < ((twL x).length : Int))))) (iX rfl rfl rfl) (Ch.s (.d (.bool (decide (0 < ((twL x).length : Int))))) pa (Ch.nil ?_)))
  refine T_condD (p := (0 < ((twL x).length : Int))) rfl (fun h2 => ?_) (fun h2 => ?_)
  ·
   refine T_seq (T_region hc (Ch.s (.d (.str [116, 119, 111, 32, 119, 97, 121, 115])) pa (Ch.nil (T_ret ?_))))
   exact endR [(.d (.str [116, 119, 111, 32, 119, 97, 121, 115]))] [] [] (.cons (.tmp 2 rfl) .nil) (.cons (.any _) .nil) (Exp.of (congrArg D.str a48) (.d _)) rfl rfl
  ·
   refine T_seq (T_region hc (Ch.s (.agg (vX x)) (.pure (.loadPtrA _ _ rfl ag35 sz35 rfl rfl (lb rfl) rfl)) ?_))
   refine Ch.step (v := (.row 14000)) rfl (.call 14000 283 _ _ _ en283 rfl (.inl rfl) (.cons lX .nil) rfl (sol (solid_row (fun _ => rfl) _) rfl) (sp_impl_violations x a39 (by assumption)) (.skip _ _ .nil) rfl) rfl rfl ?_
   refine Ch.s (.d (.int .i64 ((pvL x).length : Int))) (.pure (.len _ _ 216 rfl Tryz.underlying175 (.row rfl) (by simp))) (Ch.s (.d (.bool (decide (0 < ((pvL x).length : Int))))) (iX rfl rfl rfl) (Ch.s (.d (.bool (decide (0 < ((pvL x).length : Int))))) pa (Ch.nil ?_)))
   refine T_condD (p := (0 < ((pvL x).length : Int))) rfl (fun h3 => ?_) (fun h3 => ?_)
   ·
    refine T_seq (T_region hc (Ch.s (.d (.str [98, 114, 101, 97, 107])) pa (Ch.nil (T_ret ?_))))
    exact endR [(.d (.str [98, 114, 101, 97, 107]))] [] [] (.cons (.tmp 2 rfl) .nil) (.cons (.any _) .nil) (Exp.of (congrArg D.str a48) (.d _)) rfl rfl
   ·
    refine T_seq (T_region hc (Ch.s (.agg (vX x)) (.pure (.loadPtrA _ _ rfl ag35 sz35 rfl rfl (lb rfl) rfl)) ?_))
    refine Ch.step (v := (.row 19000)) rfl (.call 19000 284 _ _ _ en284 rfl (.inl rfl) (.cons lX .nil) rfl (sol (solid_row intsU_sol _) rfl) (sp_impl_conflicts x a39 (by assumption)) (.skip _ _ .nil) rfl) rfl rfl ?_
    refine Ch.s (.d (.int .i64 ((cfL x).length : Int))) (.pure (.len _ _ 55 rfl Tryz.underlying49 (.row rfl) (by simp))) (Ch.s (.d (.bool (decide (0 < ((cfL x).length : Int))))) (iX rfl rfl rfl) (Ch.s (.d (.bool (decide (0 < ((cfL x).length : Int))))) pa (Ch.nil ?_)))
    refine T_condD (p := (0 < ((cfL x).length : Int))) rfl (fun h4 => ?_) (fun h4 => ?_)
    ·
     refine T_seq (T_region hc (Ch.s (.d (.str [99, 111, 110, 102, 108, 105, 99, 116])) pa (Ch.nil (T_ret ?_))))
     exact endR [(.d (.str [99, 111, 110, 102, 108, 105, 99, 116]))] [] [] (.cons (.tmp 2 rfl) .nil) (.cons (.any _) .nil) (Exp.of (congrArg D.str a48) (.d _)) rfl rfl
    ·
     refine T_skip (T_seq (T_region hc (Ch.s (.d (.str [109, 97, 100, 101])) pa (Ch.nil (T_ret ?_)))))
     exact endR [(.d (.str [109, 97, 100, 101]))] [] [] (.cons (.tmp 2 rfl) .nil) (.cons (.any _) .nil) (Exp.of (congrArg D.str a48) (.d _)) rfl rfl

theorem sp_spec_l6Why (x : Sgr) (hb : x.bulk ≤ 1048576) (hx : SgOk x) : Sp Tryz.prog 94 [(.agg [(.slice false 2 (x.sigs.map Sgn.d)), (.slice false 1 (x.codes.map D.str)), (.slice false 4 (x.arcs.map Arc.d))])] [.any] (.str (whyW x)) := by
 refine Sp_intro (lend := true) Tryz.func94 rfl rfl rfl (fun _ => rfl) (fun c hc hX => ?_)
 obtain ⟨hp0, hp1, hp2⟩ := Sgr.parts hb
 have hn0 := bulkF_len hp0
 have hn1 := bulk_len hp1
 have hx1 := bulk_mem hp1
 have hn2 := bulkF_len hp2; have hx8 := hx.eight; have hxl := hx.len; have hxf := hx.few; have hen := hx.ends
 refine T_seq (T_region hc (Ch.s (.ptr 1000 0) (.box 1000 _ _ rfl (.aggD _)) (Ch.s (.d (.str [])) pa (Ch.nil (T_seq (T_block (T_seq ?_)))))))
 refine T_region hc (Ch.s (.agg (vX x)) (.pure (.loadPtrA _ _ rfl ag35 sz35 rfl rfl (lb rfl) rfl)) (Ch.s (.d (.bool (hidB x))) (.call 5000 166 _ _ _ en166 rfl (.inl rfl) (.cons lX .nil) rfl rfl (sp_spec_l6Hidden x a39 (by assumption)) (.skip _ _ .nil) rfl) (Ch.s (.d (.bool (hidB x))) pa (Ch.nil ?_))))
 refine T_cond (b := (hidB x)) rfl (fun h1 => ?_) (fun h1 => ?_)
 ·
  refine T_seq (T_region hc (Ch.s (.d (.str [104, 105, 100, 100, 101, 110])) pa (Ch.nil (T_ret ?_))))
  exact endR [(.d (.str [104, 105, 100, 100, 101, 110]))] [] [] (.cons (.tmp 2 rfl) .nil) (.cons (.any _) .nil) (Exp.of (congrArg D.str a48) (.d _)) rfl rfl
 ·
  refine T_seq (T_region hc (Ch.s (.agg (vX x)) (.pure (.loadPtrA _ _ rfl ag35 sz35 rfl rfl (lb rfl) rfl)) ?_))
  refine Ch.step (v := (.row 8000)) rfl (.call 8000 167 _ _ _ en167 rfl (.inl rfl) (.cons lX .nil) rfl (sol (solid_row intsU_sol _) rfl) (sp_spec_l6Ways x a39 (by assumption)) (.skip _ _ .nil) rfl) rfl rfl ?_
  refine Ch.s (.d (.int .i64 ((twL x).length : Int))) (.pure (.len _ _ 55 rfl Tryz.underlying49 (.row rfl) (by simp))) (Ch.s (.d (.bool (decide (0 < ((twL x).length : Int))))) (iX rfl rfl rfl) (Ch.s (.d (.bool (decide (0 < ((twL x).length : Int))))) pa (Ch.nil ?_)))
  refine T_condD (p := (0 < ((twL x).length : Int))) rfl (fun h2 => ?_) (fun h2 => ?_)
  ·
   refine T_seq (T_region hc (Ch.s (.d (.str [116, 119, 111, 32, 119, 97, 121, 115])) pa (Ch.nil (T_ret ?_))))
   exact endR [(.d (.str [116, 119, 111, 32, 119, 97, 121, 115]))] [] [] (.cons (.tmp 2 rfl) .nil) (.cons (.any _) .nil) (Exp.of (congrArg D.str a48) (.d _)) rfl rfl
  ·
   refine T_seq (T_region hc (Ch.s (.agg (vX x)) (.pure (.loadPtrA _ _ rfl ag35 sz35 rfl rfl (lb rfl) rfl)) ?_))
   refine Ch.step (v := (.row 13000)) rfl (.call 13000 168 _ _ _ en168 rfl (.inl rfl) (.cons lX .nil) rfl (sol (solid_row (fun _ => rfl) _) rfl) (sp_spec_l6Breaks x a39 (by assumption)) (.skip _ _ .nil) rfl) rfl rfl ?_
   refine Ch.s (.d (.int .i64 ((pvL x).length : Int))) (.pure (.len _ _ 216 rfl Tryz.underlying175 (.row rfl) (by simp))) (Ch.s (.d (.bool (decide (0 < ((pvL x).length : Int))))) (iX rfl rfl rfl) (Ch.s (.d (.bool (decide (0 < ((pvL x).length : Int))))) pa (Ch.nil ?_)))
   refine T_condD (p := (0 < ((pvL x).length : Int))) rfl (fun h3 => ?_) (fun h3 => ?_)
   ·
    refine T_seq (T_region hc (Ch.s (.d (.str [98, 114, 101, 97, 107])) pa (Ch.nil (T_ret ?_))))
    exact endR [(.d (.str [98, 114, 101, 97, 107]))] [] [] (.cons (.tmp 2 rfl) .nil) (.cons (.any _) .nil) (Exp.of (congrArg D.str a48) (.d _)) rfl rfl
   ·
    refine T_seq (T_region hc (Ch.s (.agg (vX x)) (.pure (.loadPtrA _ _ rfl ag35 sz35 rfl rfl (lb rfl) rfl)) ?_))
    refine Ch.step (v := (.row 18000)) rfl (.call 18000 169 _ _ _ en169 rfl (.inl rfl) (.cons lX .nil) rfl (sol (solid_row intsU_sol _) rfl) (sp_spec_l6Conflicts x a39 (by assumption)) (.skip _ _ .nil) rfl) rfl rfl ?_
    refine Ch.s (.d (.int .i64 ((cfL x).length : Int))) (.pure (.len _ _ 55 rfl Tryz.underlying49 (.row rfl) (by simp))) (Ch.s (.d (.bool (decide (0 < ((cfL x).length : Int))))) (iX rfl rfl rfl) (Ch.s (.d (.bool (decide (0 < ((cfL x).length : Int))))) pa (Ch.nil ?_)))
    refine T_condD (p := (0 < ((cfL x).length : Int))) rfl (fun h4 => ?_) (fun h4 => ?_)
    ·
     refine T_seq (T_region hc (Ch.s (.d (.str [99, 111, 110, 102, 108, 105, 99, 116])) pa (Ch.nil (T_ret ?_))))
     exact endR [(.d (.str [99, 111, 110, 102, 108, 105, 99, 116]))] [] [] (.cons (.tmp 2 rfl) .nil) (.cons (.any _) .nil) (Exp.of (congrArg D.str a48) (.d _)) rfl rfl
    ·
     refine T_skip (T_seq (T_region hc (Ch.s (.d (.str [109, 97, 100, 101])) pa (Ch.nil (T_ret ?_)))))
     exact endR [(.d (.str [109, 97, 100, 101]))] [] [] (.cons (.tmp 2 rfl) .nil) (.cons (.any _) .nil) (Exp.of (congrArg D.str a48) (.d _)) rfl rfl

def whyV (x : Sgr) : List UInt8 := if sgB x then whyW x else []

theorem whyV_made (x : Sgr) : decide (whyV x = [109, 97, 100, 101]) = madeB x := by
  unfold whyV madeB
  cases sgB x
  · rfl
  · rw [if_pos rfl, Bool.true_and]

theorem made_no0 {x : Sgr} (h : sgB x = false) : madeB x = false := by rw [madeB, h]; rfl

theorem made_no1 {x : Sgr} (h : ¬ whyW x = [109, 97, 100, 101]) : madeB x = false := by rw [madeB, decide_eq_false h, Bool.and_false]

theorem made_sg {x : Sgr} (h : madeB x = true) : sgB x = true := by
 unfold madeB at h; rw [Bool.and_eq_true] at h; exact h.1

theorem sp_impl_Diagnose (x : Sgr) (hb : x.bulk ≤ 1048576) : Sp Tryz.prog 222 [(.agg [(.slice false 2 (x.sigs.map Sgn.d)), (.slice false 1 (x.codes.map D.str)), (.slice false 4 (x.arcs.map Arc.d))])] [.any] (.tup [(.str (whyV x)), (.bool (sgB x))]) := by
 refine Sp_intro (lend := true) Tryz.func222 rfl rfl rfl (fun _ => rfl) (fun c hc hX => ?_)
 obtain ⟨hp0, hp1, hp2⟩ := Sgr.parts hb
 have hn0 := bulkF_len hp0
 have hn1 := bulk_len hp1
 have hx1 := bulk_mem hp1
 have hn2 := bulkF_len hp2
 refine T_seq (T_region hc (Ch.s (.ptr 1000 0) (.box 1000 _ _ rfl (.aggD _)) (Ch.s (.d (.str [])) pa (Ch.s (.d (.bool false)) pa (Ch.nil (T_seq (T_seq ?_)))))))
 refine T_region hc (Ch.s (.agg (vX x)) (.pure (.loadPtrA _ _ rfl ag35 sz35 rfl rfl (lb rfl) rfl)) (Ch.s (.d (.bool (sgB x))) (.call 5000 120 _ _ _ en120 rfl (.inl rfl) (.cons lX .nil) rfl rfl (sp_impl_IsValidStateGraph x a39) (.skip _ _ .nil) rfl) (Ch.s (.d (.bool (!(sgB x)))) (.pure (.not _ _ rfl rfl)) (Ch.nil ?_))))
 refine T_condN (b := (sgB x)) rfl (fun h1 => ?_) (fun h1 => ?_)
 ·
  try have hx := sg_has h1
  refine T_seq (T_region hc (Ch.s (.d (.str [])) pa (Ch.s (.d (.bool false)) pa (Ch.nil (T_ret ?_)))))
  exact endR [(.d (.str [])), (.d (.bool false))] [] [] (.cons (.tmp 2 rfl) (.cons (.tmp 3 rfl) .nil)) (.cons (.any _) .nil) (.tup (.cons (Exp.of (congrArg D.str a116) (.d _)) (.cons (Exp.of (congrArg D.bool a116) (.d _)) .nil))) rfl rfl
 ·
  try have hx := sg_has h1
  refine T_skip (T_seq (T_region hc (Ch.s (.agg (vX x)) (.pure (.loadPtrA _ _ rfl ag35 sz35 rfl rfl (lb rfl) rfl)) (Ch.s (.d (.str (whyW x))) (.call 8000 258 _ _ _ en258 rfl (.inl rfl) (.cons lX .nil) rfl rfl (sp_impl_diagnosis x a39 (by assumption)) (.skip _ _ .nil) rfl) (Ch.s (.d (.str (whyW x))) pa (Ch.s (.d (.bool true)) pa (Ch.nil ?_)))))))
  refine T_ret ?_
  exact endR [(.d (.str (whyW x))), (.d (.bool true))] [] [] (.cons (.tmp 2 rfl) (.cons (.tmp 3 rfl) .nil)) (.cons (.any _) .nil) (.tup (.cons (Exp.of (congrArg D.str a116) (.d _)) (.cons (Exp.of (congrArg D.bool a116) (.d _)) .nil))) rfl rfl

theorem sp_impl_IsImplementable (x : Sgr) (hb : x.bulk ≤ 1048576) : Sp Tryz.prog 171 [(.agg [(.slice false 2 (x.sigs.map Sgn.d)), (.slice false 1 (x.codes.map D.str)), (.slice false 4 (x.arcs.map Arc.d))])] [.any] (.tup [(.bool (madeB x)), (.bool (sgB x))]) := by
 refine Sp_intro (lend := true) Tryz.func171 rfl rfl rfl (fun _ => rfl) (fun c hc hX => ?_)
 obtain ⟨hp0, hp1, hp2⟩ := Sgr.parts hb
 have hn0 := bulkF_len hp0
 have hn1 := bulk_len hp1
 have hx1 := bulk_mem hp1
 have hn2 := bulkF_len hp2
 refine T_seq (T_region hc (Ch.s (.ptr 1000 0) (.box 1000 _ _ rfl (.aggD _)) (Ch.s (.d (.bool false)) pa (Ch.s (.d (.bool false)) pa (Ch.nil (T_seq (T_region hc ?_)))))))
 refine Ch.s (.agg (vX x)) (.pure (.loadPtrA _ _ rfl ag35 sz35 rfl rfl (lb rfl) rfl)) (Ch.s (.tup [(.d (.str (whyV x))), (.d (.bool (sgB x)))]) (.call 8000 222 _ _ _ en222 rfl (.inl rfl) (.cons lX .nil) rfl rfl (sp_impl_Diagnose x a39) (.skip _ _ .nil) rfl) (Ch.s (.tup [(.d (.str (whyV x))), (.d (.bool (sgB x)))]) pm (Ch.s (.d (.str (whyV x))) (.pure (.extract _ rfl rfl rfl)) (Ch.s (.d (.bool (sgB x))) (.pure (.extract _ rfl rfl rfl)) (Ch.s (.d (.str (whyV x))) pa (Ch.s (.d (.bool (sgB x))) pa (Ch.nil ?_)))))))
 refine T_seq (T_region hc (Ch.s (.d (.str (whyV x))) pm (Ch.s (.d (.bool (decide ((whyV x) = [109, 97, 100, 101])))) (.pure (.str _ _ _ _ _ rfl rfl rfl rfl)) (Ch.s (.d (.bool (sgB x))) pm (Ch.s (.d (.bool (decide ((whyV x) = [109, 97, 100, 101])))) pa (Ch.s (.d (.bool (sgB x))) pa (Ch.nil ?_)))))))
 refine T_ret ?_
 exact endR [(.d (.bool (decide ((whyV x) = [109, 97, 100, 101])))), (.d (.bool (sgB x)))] [] [] (.cons (.tmp 2 rfl) (.cons (.tmp 3 rfl) .nil)) (.cons (.any _) .nil) (.tup (.cons (Exp.of (congrArg D.bool (by first | rfl | (rw [whyV_made]; done) | (exact whyV_made x))) (.d _)) (.cons (.d _) .nil))) rfl rfl

theorem sp_impl_isMade (x : Sgr) (hb : x.bulk ≤ 1048576) : Sp Tryz.prog 111 [(.agg [(.slice false 2 (x.sigs.map Sgn.d)), (.slice false 1 (x.codes.map D.str)), (.slice false 4 (x.arcs.map Arc.d))])] [.any] (.bool (madeB x)) := by
 refine Sp_intro (lend := true) Tryz.func111 rfl rfl rfl (fun _ => rfl) (fun c hc hX => ?_)
 obtain ⟨hp0, hp1, hp2⟩ := Sgr.parts hb
 have hn0 := bulkF_len hp0
 have hn1 := bulk_len hp1
 have hx1 := bulk_mem hp1
 have hn2 := bulkF_len hp2
 refine T_seq (T_region hc (Ch.s (.ptr 1000 0) (.box 1000 _ _ rfl (.aggD _)) (Ch.s (.d (.bool false)) pa (Ch.nil (T_seq (T_region hc (Ch.s (.agg (vX x)) (.pure (.loadPtrA _ _ rfl ag35 sz35 rfl rfl (lb rfl) rfl)) ?_)))))))
 refine Ch.s (.tup [(.d (.bool (madeB x))), (.d (.bool (sgB x)))]) (.call 7000 171 _ _ _ en171 rfl (.inl rfl) (.cons lX .nil) rfl rfl (sp_impl_IsImplementable x a39) (.skip _ _ .nil) rfl) (Ch.s (.tup [(.d (.bool (madeB x))), (.d (.bool (sgB x)))]) pm (Ch.s (.d (.bool (madeB x))) (.pure (.extract _ rfl rfl rfl)) (Ch.s (.d (.bool (sgB x))) (.pure (.extract _ rfl rfl rfl)) (Ch.s (.d (.bool (madeB x))) pa (Ch.s (.d (.bool (sgB x))) pa (Ch.nil (T_seq ?_)))))))
 refine T_region hc (Ch.s (.d (.bool (sgB x))) pm (Ch.s (.d (.bool (sgB x))) pm ?_))
 cases h1 : (sgB x) with
 | true =>
  refine Ch.s (.d (.bool (madeB x))) pm (Ch.s (.d (.bool (madeB x))) (.pure (.pickT _ _ _ rfl rfl rfl)) (Ch.s (.d (.bool (madeB x))) pa (Ch.nil (T_ret ?_))))
  exact endR [(.d (.bool (madeB x)))] [] [] (.cons (.tmp 2 rfl) .nil) (.cons (.any _) .nil) (.d _) rfl rfl
 | false =>
  refine Ch.skip rfl rfl (Ch.s (.d (.bool false)) (.pure (.pickF _ _ _ rfl rfl rfl)) (Ch.s (.d (.bool false)) pa (Ch.nil (T_ret ?_))))
  exact endR [(.d (.bool false))] [] [] (.cons (.tmp 2 rfl) .nil) (.cons (.any _) .nil) (Exp.of (congrArg D.bool (by first | (unfold madeB; rw [h1]; rfl) | (simp_all [madeB]; done))) (.d _)) rfl rfl

theorem sty147 : SlotTy Tryz.prog 147 107 2 16 := slotTy_mk (by kernel_rfl)

theorem en132 : Enters Tryz.prog 132 := ⟨_, Tryz.func132, by kernel_rfl, rfl⟩

theorem sty73 : SlotTy Tryz.prog 73 121 3 40 := slotTy_mk (by kernel_rfl)

theorem en116 : Enters Tryz.prog 116 := ⟨_, Tryz.func116, by kernel_rfl, rfl⟩

theorem en111 : Enters Tryz.prog 111 := ⟨_, Tryz.func111, by kernel_rfl, rfl⟩

theorem en94 : Enters Tryz.prog 94 := ⟨_, Tryz.func94, by kernel_rfl, rfl⟩

theorem en53 : Enters Tryz.prog 53 := ⟨_, Tryz.func53, by kernel_rfl, rfl⟩

def edgesF (l : List Int) : List Lab := l.flatMap fun s => [Lab.mk s true, Lab.mk s false]

theorem edges_succ {l : List Int} {k : Nat} (hk : k < l.length) : edgesF (l.take k) ++ [Lab.mk (l.getD k default) true, Lab.mk (l.getD k default) false] = edgesF (l.take (k + 1)) := by
 have hg : l.getD k default = l[k] := by simp [hk]
 unfold edgesF
 rw [hg, List.take_succ_eq_append_getElem hk, List.flatMap_append]; simp

theorem edges_len : ∀ l : List Int, (edgesF l).length = 2 * l.length
 | [] => rfl
 | a :: l => by
  have := edges_len l
  unfold edgesF at this ⊢
  rw [List.flatMap_cons, List.length_append, this]; simp only [List.length_cons, List.length_nil]; omega

theorem edges_get : ∀ {l : List Int} {k : Nat}, k < 2 * l.length → (edgesF l).getD k default = Lab.mk (l.getD (k / 2) default) (decide (k % 2 = 0))
 | [], k, h => by simp at h
 | a :: l, 0, _ => rfl
 | a :: l, 1, _ => rfl
 | a :: l, k + 2, h => by
  have ih := edges_get (l := l) (k := k) (by simp only [List.length_cons] at h; omega)
  have e : (edgesF (a :: l)).getD (k + 2) default = (edgesF l).getD k default := by
   unfold edgesF
   rw [List.flatMap_cons]
   rfl
  have e2 : (k + 2) / 2 = k / 2 + 1 := by omega
  have e3 : (k + 2) % 2 = k % 2 := by omega
  rw [e, ih, e2, e3]
  rfl

theorem sp_impl_edgesOf (x : Sgr) (hb : x.bulk ≤ 1048576) (h8 : x.sigs.length ≤ 8) : Sp Tryz.prog 132 [(.agg [(.slice false 2 (x.sigs.map Sgn.d)), (.slice false 1 (x.codes.map D.str)), (.slice false 4 (x.arcs.map Arc.d))])] [.any] (.slice true 2 ((edgesF (outsL x.sigs)).map Lab.d)) := by
 refine Sp_intro (lend := true) Tryz.func132 rfl rfl rfl (fun _ => rfl) (fun c hc hX => ?_)
 obtain ⟨hp0, hp1, hp2⟩ := Sgr.parts hb
 have hn0 := bulkF_len hp0
 have hn1 := bulk_len hp1
 have hx1 := bulk_mem hp1
 have hn2 := bulkF_len hp2; have hol := outs_len x.sigs
 refine T_seq (T_region hc (Ch.s (.ptr 1000 0) (.box 1000 _ _ rfl (.aggD _)) (Ch.s (.c (.slice none 0 0)) pa (Ch.nil (T_seq (T_region hc (Ch.s (.row 6000) (.slice 6000 _ 107 _ rfl sty147 (xs := []) rfl rfl .nil rfl rfl (by decide)) ?_)))))))
 refine Ch.s (.row 6000) pa (Ch.nil (T_seq (T_seq (T_region hc (Ch.s (.agg (vX x)) (.pure (.loadPtrA _ _ rfl ag35 sz35 rfl rfl (lb rfl) rfl)) ?_)))))
 refine Ch.step (v := (.row 8000)) rfl (.call 8000 173 _ _ _ en173 rfl (.inl rfl) (.cons lX .nil) rfl (sol (solid_row (fun _ => rfl) _) rfl) (sp_impl_outputs x a42) (.skip _ _ .nil) rfl) rfl rfl ?_
 refine Ch.s (.d (.int .i64 ((outsL x.sigs).length : Int))) (.pure (.len _ _ 3 rfl Tryz.underlying55 (.row rfl) (by simp))) (Ch.s (.d (.int .i64 0)) pm (Ch.nil (T_block ?_)))
 refine T_loop (ι := Nat) (fun k => { n := 23, sl := [(3, (.row 3)), (8, (.row 8000)), (9, (.d (.int .i64 ((outsL x.sigs).length : Int)))), (10, (.d (.int .i64 (k : Int))))], hp := [(3, (some (.row 2 ((edgesF ((outsL x.sigs).take k)).map Lab.d)))), (8000, (some (.row 1 ((outsL x.sigs).map (fun n : Int => D.int .i64 n)))))], pin := [] }) (fun k => k ≤ (outsL x.sigs).length) (fun k => (outsL x.sigs).length - k) ⟨0, (by omega), (Wk.ren [(3, 6000)] rfl rfl rfl rfl (ai rfl (ai rfl (ai rfl (ai (vI a114) trivial)))) (ai (oR a100) (ai rfl trivial)))⟩ (fun k hp0 => ?_)
 have hq := edges_len ((outsL x.sigs).take k); have hq2 : ((outsL x.sigs).take k).length = k := (by rw [List.length_take]; omega)
 refine T_seq (T_region hc (Ch.s (.d (.bool (decide ((k : Int) < ((outsL x.sigs).length : Int))))) (iX rfl rfl rfl) (Ch.nil (T_seq ?_))))
 refine T_condD (p := ((k : Int) < ((outsL x.sigs).length : Int))) rfl (fun h1 => ?_) (fun h1 => ?_)
 ·
  refine T_skip (T_seq (T_block (T_seq (T_region hc (Ch.s (.el 8000 1 k 0) (.pure (.idxRow _ _ _ 3 (k) rfl Tryz.underlying55 sz3 rfl rfl rfl rfl a86)) (Ch.s (.d (.int .i64 ((outsL x.sigs).getD k default))) (.pure (.loadEl1 _ _ rfl ag3 rfl rfl get_mapA rfl rfl rfl)) (Ch.s (.d (.int .i64 ((outsL x.sigs).getD k default))) pa ?_)))))))
  refine Ch.nil (T_region hc (Ch.s (.row 3) pm (Ch.s (.d (.int .i64 ((outsL x.sigs).getD k default))) pm (Ch.s (.agg [(.d (.int .i64 ((outsL x.sigs).getD k default))), (.d (.bool true))]) (.build _ _ rfl stru107 (.cons (.one _ rfl) (.cons (.one _ rfl) .nil)) rfl) (Ch.s (.d (.int .i64 ((outsL x.sigs).getD k default))) pm (Ch.s (.agg [(.d (.int .i64 ((outsL x.sigs).getD k default))), (.d (.bool false))]) (.build _ _ rfl stru107 (.cons (.one _ rfl) (.cons (.one _ rfl) .nil)) rfl) (Ch.s (.row 19000) (.slice 19000 _ 107 _ rfl sty147 (xs := [.tmp 16, .tmp 18]) rfl rfl (.cons (.agg (.cons (.d _) (.cons (.d _) .nil)) rfl) (.cons (.agg (.cons (.d _) (.cons (.d _) .nil)) rfl) .nil)) rfl rfl (by decide)) ?_)))))))
  refine Ch.step (v := (.row 20000)) rfl (.append 20000 _ _ _ 107 rfl sty147 (by decide) (.rowK rfl) (.inr ⟨_, rfl, rfl⟩) (.row rfl rfl) rfl a56) rfl rfl ?_
  refine Ch.s (.row 20000) pa (Ch.nil (T_region hc (Ch.s (.d (.int .i64 ((k : Int) + 1))) (iX rfl rfl intV_addA) (Ch.s (.d (.int .i64 ((k : Int) + 1))) pm (Ch.nil ?_)))))
  exact nx (k + 1) (by omega) (Wk.ren [(3, 20000)] rfl rfl rfl rfl (ai rfl (ai rfl (ai rfl (ai (vI a114) trivial)))) (ai (oR a100) (ai rfl trivial)))
 ·
  refine T_exit (T_seq (T_region hc (Ch.s (.row 3) pm (Ch.s (.row 3) pa (Ch.nil (T_ret ?_))))))
  exact endR [(.row 3)] [] [3] (.cons (.tmp 2 rfl) .nil) (.cons (.any _) .nil) (Exp.of (congrArg (D.slice true 2) (by rw [List.take_of_length_le (by omega)])) (.row rfl)) rfl rfl

theorem sp_laws_eqRegionCoversS (xs ys : List (Rcv)) (hb : bulkF Rcv.bulk xs ≤ 1048576) : Sp Tryz.prog 53 [(.slice false 3 (xs.map Rcv.d)), (.slice false 3 (ys.map Rcv.d))] [.any, .any] (.bool (decide (xs = ys))) := by
 refine Sp_intro (lend := true) Tryz.func53 rfl rfl rfl (fun _ => rfl) (fun c hc hX => ?_)
 have hn := bulkF_len hb
 refine T_seq (T_region hc (Ch.s (.d (.bool false)) pa (Ch.nil (T_seq (T_seq (T_region hc (Ch.s (.d (.slice false 3 (xs.map Rcv.d))) pm ?_)))))))
 refine Ch.s (.d (.int .i64 (xs.length : Int))) (.pure (.len _ _ 121 rfl Tryz.underlying73 (.sh _ _) (by simp))) (Ch.s (.d (.slice false 3 (ys.map Rcv.d))) pm (Ch.s (.d (.int .i64 (ys.length : Int))) (.pure (.len _ _ 121 rfl Tryz.underlying73 (.sh _ _) (by simp))) (Ch.s (.d (.bool (!(decide ((xs.length : Int) = (ys.length : Int)))))) (iX rfl rfl rfl) (Ch.nil ?_))))
 refine T_condN (b := (decide ((xs.length : Int) = (ys.length : Int)))) rfl (fun h1 => ?_) (fun h1 => ?_)
 ·
  replace h1 := of_decide_eq_false h1
  refine T_seq (T_region hc (Ch.s (.d (.bool false)) pa (Ch.nil (T_ret ?_))))
  exact endR [(.d (.bool false))] [] [] (.cons (.tmp 4 rfl) .nil) (.cons (.any _) (.cons (.any _) .nil)) (Exp.of (congrArg D.bool (by exact eqL_len (by omega))) (.d _)) rfl rfl
 ·
  replace h1 := of_decide_eq_true h1
  refine T_skip (T_seq (T_seq (T_region hc (Ch.s (.d (.int .i64 0)) pa (Ch.nil (T_block ?_))))))
  refine T_loop (ι := Nat) (fun k => { n := 27, sl := [(0, (.d (.slice false 3 (xs.map Rcv.d)))), (1, (.d (.slice false 3 (ys.map Rcv.d)))), (5, (.d (.int .i64 (k : Int))))], hp := [], pin := [] }) (fun k => k ≤ xs.length ∧ ∀ j, j < k → xs.getD j default = ys.getD j default) (fun k => xs.length - k) ⟨0, ⟨by omega, fun j hj => by omega⟩, (Wk.of rfl rfl (ai rfl (ai rfl (ai (vI a114) trivial))) trivial)⟩ (fun k hp0 => ?_)
  refine T_seq (T_seq (T_region hc (Ch.s (.d (.int .i64 (k : Int))) pm (Ch.s (.d (.slice false 3 (xs.map Rcv.d))) pm (Ch.s (.d (.int .i64 (xs.length : Int))) (.pure (.len _ _ 121 rfl Tryz.underlying73 (.sh _ _) (by simp))) (Ch.s (.d (.bool (decide ((k : Int) < (xs.length : Int))))) (iX rfl rfl rfl) (Ch.nil ?_)))))))
  refine T_condD (p := ((k : Int) < (xs.length : Int))) rfl (fun h2 => ?_) (fun h2 => ?_)
  ·
   try have hk := bulkF_mem hb _ (getD_mem (l := xs) (j := k) (d := default) (by omega))
   refine T_skip (T_seq (T_block (T_seq ?_)))
   refine T_regionD hc (by kernel_rfl) ?_
   refine ChD.s (.d (.slice false 3 (xs.map Rcv.d))) [] pm (ChD.s (.d (.int .i64 (k : Int))) [] pm (ChD.s (.d (.ref (.agg [(.int .i64 ((xs.getD k default).sig)), (.bool ((xs.getD k default).up)), (.slice false 1 (((xs.getD k default).cubes).map D.str))]))) [] (.pure (.idx _ _ _ 121 (k) rfl Tryz.underlying73 sz121 rfl rfl rfl get_mapA)) (ChD.s (.d (.agg [(.int .i64 ((xs.getD k default).sig)), (.bool ((xs.getD k default).up)), (.slice false 1 (((xs.getD k default).cubes).map D.str))])) [] (.pure (.loadRefA _ _ rfl ag121 sz121 rfl)) (ChD.s (.d (.slice false 3 (ys.map Rcv.d))) [] pm (ChD.s (.d (.int .i64 (k : Int))) [] pm (ChD.s (.d (.ref (.agg [(.int .i64 ((ys.getD k default).sig)), (.bool ((ys.getD k default).up)), (.slice false 1 (((ys.getD k default).cubes).map D.str))]))) [] (.pure (.idx _ _ _ 121 (k) rfl Tryz.underlying73 sz121 rfl rfl rfl get_mapA)) (ChD.s (.d (.agg [(.int .i64 ((ys.getD k default).sig)), (.bool ((ys.getD k default).up)), (.slice false 1 (((ys.getD k default).cubes).map D.str))])) [] (.pure (.loadRefA _ _ rfl ag121 sz121 rfl)) ?_)))))))
   refine ChD.s (.d (.bool (decide ((xs.getD k default) = (ys.getD k default))))) [] (.call 25000 116 _ _ _ en116 rfl (.inl rfl) (.cons (.d _) (.cons (.d _) .nil)) rfl rfl (sp_laws_eqRegionCovers (xs.getD k default) (ys.getD k default) a39) (.skip _ _ (.skip _ _ .nil)) rfl) (ChD.s (.d (.bool (!(decide ((xs.getD k default) = (ys.getD k default)))))) [] (.pure (.not _ _ rfl rfl)) ?_)
   refine ChD.nil (And.intro ?_ (by kernel_rfl))
   refine T_condN (b := (decide ((xs.getD k default) = (ys.getD k default)))) rfl (fun h3 => ?_) (fun h3 => ?_)
   ·
    replace h3 := of_decide_eq_false h3
    refine T_seq (T_region hc (Ch.s (.d (.bool false)) pa (Ch.nil (T_ret ?_))))
    exact endR [(.d (.bool false))] [] [] (.cons (.tmp 4 rfl) .nil) (.cons (.any _) (.cons (.any _) .nil)) (Exp.of (congrArg D.bool a118) (.d _)) rfl rfl
   ·
    replace h3 := of_decide_eq_true h3
    refine T_skip (T_region hc (Ch.s (.d (.int .i64 (k : Int))) pm (Ch.s (.d (.int .i64 ((k : Int) + 1))) (iX rfl rfl intV_addA) (Ch.s (.d (.int .i64 ((k : Int) + 1))) pa (Ch.nil ?_)))))
    exact nx (k + 1) ⟨by omega, upto_succ hp0.2 (by assumption)⟩ (Wk.of rfl rfl (ai rfl (ai rfl (ai (vI a114) trivial))) trivial)
  ·
   try have hk := bulkF_mem hb _ (getD_mem (l := xs) (j := k) (d := default) (by omega))
   refine T_exit (T_seq (T_region hc (Ch.s (.d (.bool true)) pa (Ch.nil (T_ret ?_)))))
   exact endR [(.d (.bool true))] [] [] (.cons (.tmp 4 rfl) .nil) (.cons (.any _) (.cons (.any _) .nil)) (Exp.of (congrArg D.bool a101) (.d _)) rfl rfl

theorem en153 : Enters Tryz.prog 153 := ⟨_, Tryz.func153, by kernel_rfl, rfl⟩

theorem en154 : Enters Tryz.prog 154 := ⟨_, Tryz.func154, by kernel_rfl, rfl⟩

theorem en192 : Enters Tryz.prog 192 := ⟨_, Tryz.func192, by kernel_rfl, rfl⟩

theorem en216 : Enters Tryz.prog 216 := ⟨_, Tryz.func216, by kernel_rfl, rfl⟩

theorem en215 : Enters Tryz.prog 215 := ⟨_, Tryz.func215, by kernel_rfl, rfl⟩

theorem en156 : Enters Tryz.prog 156 := ⟨_, Tryz.func156, by kernel_rfl, rfl⟩

theorem en155 : Enters Tryz.prog 155 := ⟨_, Tryz.func155, by kernel_rfl, rfl⟩

theorem en88 : Enters Tryz.prog 88 := ⟨_, Tryz.func88, by kernel_rfl, rfl⟩

theorem en86 : Enters Tryz.prog 86 := ⟨_, Tryz.func86, by kernel_rfl, rfl⟩

def revA (a : Arc) : Arc := { a with src := a.dst, dst := a.src }

def two2 (l : List Arc) : List Arc := l.flatMap fun a => [a, revA a]

theorem two2_mem {l : List Arc} {e : Arc} : e ∈ two2 l ↔ ∃ a ∈ l, e = a ∨ e = revA a := by
 unfold two2
 rw [List.mem_flatMap]
 simp

theorem two2_ends {n : Nat} {l : List Arc} (h : ends n l) : ends n (two2 l) := by
  intro e he
  obtain ⟨a, ha, rfl | rfl⟩ := two2_mem.1 he
  · exact h _ ha
  · exact ⟨(h _ ha).2, (h _ ha).1⟩

def inb (S : List Int) (a : Arc) : Bool := hasI S a.src && hasI S a.dst

theorem inb_rev (S : List Int) (a : Arc) : inb S (revA a) = inb S a := Bool.and_comm _ _

def Cn (S : List Int) (l : List Arc) (a b : Int) : Prop := Rch (arcE (inb S) (two2 l)) (fun c => c = a) b

theorem Cn.refl {S : List Int} {l : List Arc} {a : Int} : Cn S l a a := .base rfl

theorem Cn.trans {S : List Int} {l : List Arc} {a b c : Int} (h : Cn S l a b) (k : Cn S l b c) : Cn S l a c := Rch.ind (fun c => Cn S l a c) (fun c e => by rw [e]; exact h) (fun _ _ h e => .step h e) k

theorem cn_edge {S : List Int} {l : List Arc} {a b : Int} (h : arcE (inb S) (two2 l) a b) : arcE (inb S) (two2 l) b a := by
  obtain ⟨e, he, rfl, rfl, hp⟩ := h
  refine ⟨revA e, ?_, rfl, rfl, by rw [inb_rev]; exact hp⟩
  obtain ⟨a, ha, rfl | rfl⟩ := two2_mem.1 he
  · exact two2_mem.2 ⟨_, ha, .inr rfl⟩
  · exact two2_mem.2 ⟨_, ha, .inl rfl⟩

theorem Cn.symm {S : List Int} {l : List Arc} {a b : Int} (h : Cn S l a b) : Cn S l b a :=
 Rch.ind (fun b => Cn S l b a) (fun b e => by rw [e]; exact Cn.refl) (fun _ _ h e => Cn.trans (Rch.step Cn.refl (cn_edge e)) h) h

theorem Cn.inS {S : List Int} {l : List Arc} {a b : Int} (h : Cn S l a b) : a ∈ S ↔ b ∈ S :=
 Rch.ind (fun b => a ∈ S ↔ b ∈ S) (fun b e => by rw [e]) (fun c d h e => by
  obtain ⟨e, _, rfl, rfl, hp⟩ := e
  unfold inb at hp
  rw [Bool.and_eq_true, hasI_mem, hasI_mem] at hp
  exact ⟨fun _ => hp.2, fun _ => h.2 hp.1⟩) h

theorem Cn.bnd {S : List Int} {n : Nat} {l : List Arc} (hl : ends n l) {a b : Int} (h : Cn S l a b) (ha : 0 ≤ a ∧ a.toNat < n) : 0 ≤ b ∧ b.toNat < n :=
 Rch.ind (fun b => 0 ≤ b ∧ b.toNat < n) (fun b e => by rw [e]; exact ha) (fun c d _ e => by
  obtain ⟨e, he, rfl, rfl, _⟩ := e
  exact (two2_ends hl e he).2) h

def lst (b : Arc → Bool) (P : List Nat) (a : Arc) : List Nat :=
 if b a then (P.set a.src.toNat (min (P.getD a.src.toNat default) (P.getD a.dst.toNat default))).set a.dst.toNat (min (P.getD a.src.toNat default) (P.getD a.dst.toNat default)) else P

theorem lst_len (b : Arc → Bool) (P : List Nat) (a : Arc) : (lst b P a).length = P.length := by
  unfold lst; split
  · rw [List.length_set, List.length_set]
  · rfl

theorem lsts_len (b : Arc → Bool) : ∀ (l : List Arc) (P : List Nat), (l.foldl (lst b) P).length = P.length
 | [], _ => rfl
 | a :: l, P => by rw [List.foldl_cons, lsts_len b l, lst_len]

theorem markC_true {p : Arc → Bool} {t : List Bool} {a : Arc} {j : Nat} (h : (markC p t a).getD j default = true) : t.getD j default = true ∨ (t.getD a.src.toNat default = true ∧ j = a.dst.toNat ∧ p a = true) := by
  unfold markC at h
  split at h
  · rename_i hc
    rw [Bool.and_eq_true] at hc
    rw [getD_set] at h
    split at h
    · rename_i hh
      exact .inr ⟨hc.1, hh.1.symm, hc.2⟩
    · exact .inl h
  · exact .inl h

structure Sim (S : List Int) (l : List Arc) (n k : Nat) (P : List Nat) (t : List Bool) : Prop where
 len : P.length = n
 hit : ∀ j : Nat, t.getD j default = true → Cn S l (k : Int) (j : Int) ∧ P.getD j default = k
 low : ∀ j : Nat, Cn S l (k : Int) (j : Int) → k ≤ P.getD j default

theorem Sim.step {S : List Int} {l : List Arc} {n k : Nat} {P : List Nat} {t : List Bool} (hl : ends n l) (h : Sim S l n k P t) {a : Arc} (ha : a ∈ l) : Sim S l n k (lst (inb S) P a) (markC (inb S) (markC (inb S) t a) (revA a)) := by
  have he := hl a ha
  refine ⟨by rw [lst_len]; exact h.len, ?_, ?_⟩
  · intro j hj
    cases hb : inb S a with
    | false =>
      have e1 : lst (inb S) P a = P := by rw [lst, hb]; rfl
      have hj2 : t.getD j default = true := by
        rcases markC_true hj with h1 | h1
        · rcases markC_true h1 with h2 | h2
          · exact h2
          · rw [hb] at h2; cases h2.2.2
        · rw [inb_rev, hb] at h1; cases h1.2.2
      rw [e1]; exact h.hit j hj2
    | true =>
      have edge : arcE (inb S) (two2 l) a.src a.dst := ⟨a, two2_mem.2 ⟨a, ha, .inl rfl⟩, rfl, rfl, hb⟩
      have es : (a.src.toNat : Int) = a.src := by omega
      have ed : (a.dst.toNat : Int) = a.dst := by omega
      have key : (t.getD a.src.toNat default = true ∨ t.getD a.dst.toNat default = true) → Cn S l (k : Int) a.src ∧ Cn S l (k : Int) a.dst ∧ min (P.getD a.src.toNat default) (P.getD a.dst.toNat default) = k := by
        rintro (h1 | h1)
        · have h2 := h.hit _ h1
          have c1 : Cn S l (k : Int) a.src := by rw [← es]; exact h2.1
          have c2 : Cn S l (k : Int) a.dst := .step c1 edge
          have := h.low a.dst.toNat (by rw [ed]; exact c2)
          exact ⟨c1, c2, by rw [h2.2]; omega⟩
        · have h2 := h.hit _ h1
          have c2 : Cn S l (k : Int) a.dst := by rw [← ed]; exact h2.1
          have c1 : Cn S l (k : Int) a.src := .step c2 (cn_edge edge)
          have := h.low a.src.toNat (by rw [es]; exact c1)
          exact ⟨c1, c2, by rw [h2.2]; omega⟩
      have hcase : t.getD j default = true ∨ ((t.getD a.src.toNat default = true ∨ t.getD a.dst.toNat default = true) ∧ (j = a.src.toNat ∨ j = a.dst.toNat)) := by
        rcases markC_true hj with h1 | ⟨h1, h2, _⟩
        · rcases markC_true h1 with h3 | ⟨h3, h4, _⟩
          · exact .inl h3
          · exact .inr ⟨.inl h3, .inr h4⟩
        · rcases markC_true h1 with h3 | ⟨h3, h4, _⟩
          · exact .inr ⟨.inr h3, .inl h2⟩
          · exact .inr ⟨.inl h3, .inl h2⟩
      have hset : ∀ i, (lst (inb S) P a).getD i default = if i = a.src.toNat ∨ i = a.dst.toNat then min (P.getD a.src.toNat default) (P.getD a.dst.toNat default) else P.getD i default := by
        intro i
        unfold lst
        rw [if_pos hb, getD_set, getD_set, List.length_set, h.len]
        by_cases e1 : a.dst.toNat = i
        · rw [if_pos ⟨e1, he.2.2⟩, if_pos (.inr e1.symm)]
        · rw [if_neg (fun q => e1 q.1)]
          by_cases e2 : a.src.toNat = i
          · rw [if_pos ⟨e2, he.1.2⟩, if_pos (.inl e2.symm)]
          · rw [if_neg (fun q => e2 q.1), if_neg (fun q => q.elim (fun q => e2 q.symm) (fun q => e1 q.symm))]
      rw [hset]
      by_cases hsd : j = a.src.toNat ∨ j = a.dst.toNat
      · rw [if_pos hsd]
        have hor : t.getD a.src.toNat default = true ∨ t.getD a.dst.toNat default = true := by
          rcases hcase with h1 | h1
          · rcases hsd with e | e
            · rw [e] at h1; exact .inl h1
            · rw [e] at h1; exact .inr h1
          · exact h1.1
        obtain ⟨k1, k2, k3⟩ := key hor
        refine ⟨?_, k3⟩
        rcases hsd with e | e
        · rw [e, es]; exact k1
        · rw [e, ed]; exact k2
      · rw [if_neg hsd]
        rcases hcase with h1 | h1
        · exact h.hit j h1
        · exact absurd h1.2 hsd
  · intro j hj
    cases hb : inb S a with
    | false =>
      have e1 : lst (inb S) P a = P := by rw [lst, hb]; rfl
      rw [e1]; exact h.low j hj
    | true =>
      have edge : arcE (inb S) (two2 l) a.src a.dst := ⟨a, two2_mem.2 ⟨a, ha, .inl rfl⟩, rfl, rfl, hb⟩
      have es : (a.src.toNat : Int) = a.src := by omega
      have ed : (a.dst.toNat : Int) = a.dst := by omega
      unfold lst
      rw [if_pos hb, getD_set, getD_set, List.length_set, h.len]
      have both : (Cn S l (k : Int) a.src ∨ Cn S l (k : Int) a.dst) → k ≤ min (P.getD a.src.toNat default) (P.getD a.dst.toNat default) := by
        intro hor
        have c1 : Cn S l (k : Int) a.src := hor.elim id fun c => .step c (cn_edge edge)
        have c2 : Cn S l (k : Int) a.dst := hor.elim (fun c => .step c edge) id
        have l1 := h.low a.src.toNat (by rw [es]; exact c1)
        have l2 := h.low a.dst.toNat (by rw [ed]; exact c2)
        omega
      split
      · rename_i hh; exact both (.inr (by rw [← ed, hh.1]; exact hj))
      · split
        · rename_i hh; exact both (.inl (by rw [← es, hh.1]; exact hj))
        · exact h.low j hj

theorem Sim.fold {S : List Int} {l : List Arc} {n k : Nat} (hl : ends n l) : ∀ (q : List Arc), (∀ a ∈ q, a ∈ l) → ∀ {P t}, Sim S l n k P t → Sim S l n k (q.foldl (lst (inb S)) P) ((two2 q).foldl (markC (inb S)) t)
 | [], _, _, _, h => h
 | a :: q, hq, P, t, h => by
  have h1 := h.step hl (hq a List.mem_cons_self)
  have h2 := Sim.fold hl q (fun b hb => hq b (List.mem_cons_of_mem _ hb)) h1
  have e : two2 (a :: q) = a :: revA a :: two2 q := rfl
  rw [e]
  exact h2

theorem Sim.it {S : List Int} {l : List Arc} {n k : Nat} (hl : ends n l) {P t} (h : Sim S l n k P t) : ∀ r, Sim S l n k (itN (l.foldl (lst (inb S))) r P) (itN ((two2 l).foldl (markC (inb S))) r t)
 | 0 => h
 | r + 1 => Sim.fold hl l (fun _ h => h) (Sim.it hl h r)

def labF (S : List Int) (l : List Arc) (n : Nat) : List Nat := itN (l.foldl (lst (inb S))) n (List.range n)

def labAt (S : List Int) (l : List Arc) (n i : Nat) : Nat := (labF S l n).getD i default

theorem its_len (b : Arc → Bool) (l : List Arc) (P : List Nat) : ∀ r, (itN (l.foldl (lst b)) r P).length = P.length
 | 0 => rfl
 | r + 1 => by rw [itN, lsts_len, its_len b l P r]

theorem lab_of {S : List Int} {l : List Arc} {n k i : Nat} (hl : ends n l) (hk : k < n) (hc : Cn S l (k : Int) (i : Int)) (hm : ∀ j : Nat, Cn S l (k : Int) (j : Int) → k ≤ j) : labAt S l n i = k := by
  have h0 : Sim S l n k (List.range n) ((List.replicate n false).set k true) := by
    refine ⟨List.length_range, fun j hj => ?_, fun j hj => ?_⟩
    · rw [getD_set, List.length_replicate] at hj
      split at hj
      · rename_i hh
        rw [← hh.1]
        refine ⟨.refl, ?_⟩
        simp [hk]
      · rw [List.getD_eq_getElem?_getD, List.getElem?_replicate] at hj
        split at hj <;> cases hj
    · have hb := Cn.bnd hl hj ⟨by omega, by omega⟩
      have : (List.range n).getD j default = j := by
        have : j < n := by omega
        simp [this]
      rw [this]; exact hm j hj
  have h1 := (h0.it hl n).hit i ((markC_reach (inb S) (two2_ends hl) (m0 := (List.replicate n false).set k true) (by simp) i).2 (Rch.mono (fun _ _ h => h) (fun a e => by
    rw [e]
    refine ⟨by omega, ?_⟩
    rw [getD_set, if_pos ⟨by omega, by rw [List.length_replicate]; exact hk⟩]) hc))
  exact h1.2

theorem least_of {p : Nat → Prop} : ∀ N, (∃ k, k ≤ N ∧ p k) → ∃ m, p m ∧ m ≤ N ∧ ∀ j, p j → m ≤ j
  | 0, ⟨k, hk, hp⟩ => ⟨k, hp, hk, fun j _ => by omega⟩
  | N + 1, ⟨k, hk, hp⟩ => by
    by_cases h : ∃ k, k ≤ N ∧ p k
    · obtain ⟨m, h1, h2, h3⟩ := least_of N h
      exact ⟨m, h1, by omega, h3⟩
    · have e : k = N + 1 := by
        apply Classical.byContradiction
        intro hne
        exact h ⟨k, by omega, hp⟩
      subst e
      refine ⟨N + 1, hp, Nat.le_refl _, fun j hj => ?_⟩
      apply Classical.byContradiction
      intro hlt
      exact h ⟨j, by omega, hj⟩

theorem lab_spec {S : List Int} {l : List Arc} {n i : Nat} (hl : ends n l) (hi : i < n) : Cn S l (labAt S l n i : Int) (i : Int) ∧ labAt S l n i ≤ i ∧ ∀ j : Nat, Cn S l (i : Int) (j : Int) → labAt S l n j = labAt S l n i := by
 obtain ⟨k, h1, h2, h3⟩ := least_of (p := fun k => Cn S l (k : Int) (i : Int)) i ⟨i, Nat.le_refl _, .refl⟩
 have hm : ∀ j : Nat, Cn S l (k : Int) (j : Int) → k ≤ j := fun j hj => h3 j (hj.symm.trans h1)
 have e := lab_of hl (by omega : k < n) h1 hm
 rw [e]
 exact ⟨h1, h2, fun j hj => lab_of hl (by omega : k < n) (h1.trans hj) hm⟩

def clsL (S : List Int) (l : List Arc) (n k : Nat) : List Int := setL n fun i => hasI S (i : Int) && decide (labAt S l n i = k)

def regTo (S : List Int) (l : List Arc) (n k : Nat) : List (List Int) := selTo k (fun k => decide (0 < (clsL S l n k).length)) (clsL S l n)

def regL (S : List Int) (l : List Arc) (n : Nat) : List (List Int) := regTo S l n n

theorem regTo_le (S : List Int) (l : List Arc) (n k : Nat) : (regTo S l n k).length ≤ k := selTo_le _ _ _

theorem cls_le (S : List Int) (l : List Arc) (n k : Nat) : (clsL S l n k).length ≤ n := setL_le _ _

theorem regL_in {S : List Int} {l : List Arc} {n k : Nat} : ∀ r ∈ regTo S l n k, r.length ≤ n ∧ Rising r ∧ ∀ a ∈ r, (0 ≤ a ∧ a.toNat < n) ∧ a ∈ S := by
 intro r hr
 obtain ⟨j, hj, rfl⟩ := List.mem_map.1 hr
 refine ⟨cls_le _ _ _ _, setL_rising _ _, fun a ha => ?_⟩
 have h := setL_mem.1 ha
 have h2 := (Bool.and_eq_true_iff.1 h.2).1
 rw [hasI_mem, show (a.toNat : Int) = a by omega] at h2
 exact ⟨h.1, h2⟩

theorem cls_mem {S : List Int} {l : List Arc} {n k : Nat} {a : Int} : a ∈ clsL S l n k ↔ (0 ≤ a ∧ a.toNat < n) ∧ a ∈ S ∧ labAt S l n a.toNat = k := by
  unfold clsL
  rw [setL_mem, Bool.and_eq_true, hasI_mem, decide_eq_true_iff]
  constructor
  · rintro ⟨h1, h2, h3⟩
    rw [show (a.toNat : Int) = a by omega] at h2
    exact ⟨h1, h2, h3⟩
  · rintro ⟨h1, h2, h3⟩
    exact ⟨h1, by rw [show (a.toNat : Int) = a by omega]; exact h2, h3⟩

theorem selTo_skip {τ : Type} {p : Nat → Bool} {f : Nat → τ} {B : Nat} : ∀ k, B ≤ k → (∀ j, B ≤ j → j < k → p j = false) → selTo k p f = selTo B p f
  | 0, h, _ => by rw [show B = 0 by omega]
  | k + 1, h, hp => by
    by_cases e : B = k + 1
    · rw [e]
    · rw [← selTo_no (hp k (by omega) (by omega)), selTo_skip k (by omega) (fun j h1 h2 => hp j h1 (by omega))]

def leftF (S : List Int) (l : List Arc) (n B : Nat) : List Int := S.filter fun i => decide (B ≤ labAt S l n i.toNat)

theorem leftF_zero (S : List Int) (l : List Arc) (n : Nat) : leftF S l n 0 = S := by
 unfold leftF
 rw [List.filter_eq_self]
 intro a _
 exact decide_eq_true (Nat.zero_le _)

theorem leftF_le (S : List Int) (l : List Arc) (n B : Nat) : (leftF S l n B).length ≤ S.length := List.length_filter_le _ _

theorem leftF_mem {S : List Int} {l : List Arc} {n B : Nat} {a : Int} : a ∈ leftF S l n B ↔ a ∈ S ∧ B ≤ labAt S l n a.toNat := by
 unfold leftF; rw [List.mem_filter, decide_eq_true_iff]

theorem head_least {l : List Int} (h : Rising l) (hl : 0 < l.length) : l.getD 0 default ∈ l ∧ ∀ a ∈ l, l.getD 0 default ≤ a := by
  cases l with
  | nil => simp at hl
  | cons b l =>
    refine ⟨List.mem_cons_self, fun a ha => ?_⟩
    rcases List.mem_cons.1 ha with rfl | ha
    · exact Int.le_refl _
    · have := (List.pairwise_cons.1 h).1 a ha
      show b ≤ a; omega

structure SetOk (S : List Int) (l : List Arc) (n : Nat) : Prop where
 ends : ends n l
 ris : Rising S
 inn : ∀ a ∈ S, 0 ≤ a ∧ a.toNat < n

theorem rep_left {S : List Int} {l : List Arc} {n B : Nat} (h : SetOk S l n) {a : Int} (ha : a ∈ leftF S l n B) : (labAt S l n a.toNat : Int) ∈ leftF S l n B ∧ labAt S l n (labAt S l n a.toNat) = labAt S l n a.toNat := by
 obtain ⟨h1, h2⟩ := leftF_mem.1 ha
 have hb := h.inn a h1
 obtain ⟨c1, c2, c3⟩ := lab_spec (S := S) h.ends hb.2
 have e : (a.toNat : Int) = a := by omega
 rw [e] at c1
 have hin := c1.inS.2 h1
 have hl : labAt S l n (labAt S l n a.toNat) = labAt S l n a.toNat := c3 _ (by rw [e]; exact c1.symm)
 refine ⟨leftF_mem.2 ⟨hin, ?_⟩, hl⟩
 rw [Int.toNat_natCast, hl]; exact h2

theorem left_head {S : List Int} {l : List Arc} {n B : Nat} (h : SetOk S l n) (hl : 0 < (leftF S l n B).length) :
    (0 ≤ (leftF S l n B).getD 0 default ∧ ((leftF S l n B).getD 0 default).toNat < n) ∧ (leftF S l n B).getD 0 default ∈ S ∧ labAt S l n ((leftF S l n B).getD 0 default).toNat = ((leftF S l n B).getD 0 default).toNat ∧ B ≤ ((leftF S l n B).getD 0 default).toNat ∧
    regTo S l n (((leftF S l n B).getD 0 default).toNat + 1) = regTo S l n B ++ [clsL S l n ((leftF S l n B).getD 0 default).toNat] ∧
    leftF S l n (((leftF S l n B).getD 0 default).toNat + 1) = (leftF S l n B).filter fun u => !hasI (clsL S l n ((leftF S l n B).getD 0 default).toNat) u := by
  have hris : Rising (leftF S l n B) := h.ris.filter _
  obtain ⟨hm, hle⟩ := head_least hris hl
  generalize (leftF S l n B).getD 0 default = a at hm hle
  obtain ⟨m1, m2⟩ := leftF_mem.1 hm
  have hb := h.inn a m1
  obtain ⟨r1, r2⟩ := rep_left h hm
  have c2 := (lab_spec (S := S) h.ends hb.2).2.1
  have e := hle _ r1
  have hlab : labAt S l n a.toNat = a.toNat := by omega
  have hB : B ≤ a.toNat := by omega
  refine ⟨hb, m1, hlab, hB, ?_, ?_⟩
  · have hpos : decide (0 < (clsL S l n a.toNat).length) = true := by
      refine decide_eq_true (List.length_pos_iff_exists_mem.2 ⟨a, cls_mem.2 ⟨hb, m1, hlab⟩⟩)
    unfold regTo
    rw [← selTo_yes (f := clsL S l n) hpos]
    congr 1
    refine selTo_skip _ hB fun j h1 h2 => decide_eq_false fun hlen => ?_
    obtain ⟨b, hbm⟩ := List.length_pos_iff_exists_mem.1 hlen
    obtain ⟨b1, b2, b3⟩ := cls_mem.1 hbm
    have := hle _ (rep_left h (leftF_mem.2 ⟨b2, by omega⟩ : b ∈ leftF S l n B)).1
    omega
  · unfold leftF
    rw [List.filter_filter]
    apply List.filter_congr
    intro b hbS
    have hbb := h.inn b hbS
    rw [Bool.eq_iff_iff, decide_eq_true_iff, Bool.and_eq_true, decide_eq_true_iff, Bool.not_eq_true', ← Bool.not_eq_true, hasI_mem, cls_mem]
    constructor
    · intro h1
      exact ⟨fun h2 => by have := h2.2.2; omega, by omega⟩
    · rintro ⟨h1, h2⟩
      have h3 := hle _ (rep_left h (leftF_mem.2 ⟨hbS, h2⟩ : b ∈ leftF S l n B)).1
      have h4 : ¬ labAt S l n b.toNat = a.toNat := fun e => h1 ⟨hbb, hbS, e⟩
      omega

theorem left_end {S : List Int} {l : List Arc} {n B : Nat} (h : SetOk S l n) (hB : B ≤ n) (hl : (leftF S l n B).length = 0) : regTo S l n B = regL S l n := by
 unfold regL regTo
 refine (selTo_skip n hB fun j h1 h2 => decide_eq_false fun hlen => ?_).symm
 obtain ⟨b, hbm⟩ := List.length_pos_iff_exists_mem.1 hlen
 obtain ⟨b1, b2, b3⟩ := cls_mem.1 hbm
 have : b ∈ leftF S l n B := leftF_mem.2 ⟨b2, by omega⟩
 rw [List.eq_nil_of_length_eq_zero hl] at this
 cases this

def cStep (S : List Int) (c : Int) (o : List Int) (e : Stp) : List Int := if decide (e.src = c) && (hasI S e.dst && !hasI o e.dst) then o ++ [e.dst] else o

def steps2 (a : Arc) : List Stp := [Stp.mk a.src a.dst, Stp.mk a.dst a.src]

def cIn (S : List Int) (c : Int) (o : List Int) (a : Arc) (q : Nat) : List Int := ((steps2 a).take q).foldl (cStep S c) o

def cTo (x : Sgr) (S : List Int) (c : Int) (o : List Int) (m : Nat) : List Int := (x.arcs.take m).foldl (fun o a => cIn S c o a 2) o

theorem cTo_next {x : Sgr} {S : List Int} {c : Int} {o : List Int} {m q : Nat} (hm : m < x.arcs.length) (hq : 2 ≤ q) : cIn S c (cTo x S c o m) (x.arcs.getD m default) q = cTo x S c o (m + 1) := by
 have hg : x.arcs.getD m default = x.arcs[m] := by simp [hm]
 have e : cIn S c (cTo x S c o m) (x.arcs.getD m default) q = cIn S c (cTo x S c o m) (x.arcs.getD m default) 2 := by
  unfold cIn
  rw [List.take_of_length_le (by exact hq), List.take_of_length_le (by exact Nat.le_refl 2)]
 rw [e, hg]
 unfold cTo
 rw [List.take_succ_eq_append_getElem hm, List.foldl_append]; rfl

theorem cIn_succ {S : List Int} {c : Int} {o : List Int} {a : Arc} {q : Nat} (hq : q < 2) : cIn S c o a (q + 1) = cStep S c (cIn S c o a q) ((steps2 a).getD q default) := by
 have h2 : q < (steps2 a).length := hq
 have hg : (steps2 a).getD q default = (steps2 a)[q] := by simp [h2]
 unfold cIn
 rw [hg, List.take_succ_eq_append_getElem h2, List.foldl_append]; rfl

theorem cIn_yes {S : List Int} {c : Int} {o : List Int} {a : Arc} {q : Nat} (hq : q < 2) (h1 : ((steps2 a).getD q default).src = c) (h2 : hasI S ((steps2 a).getD q default).dst = true) (h3 : hasI (cIn S c o a q) ((steps2 a).getD q default).dst = false) : cIn S c o a q ++ [((steps2 a).getD q default).dst] = cIn S c o a (q + 1) := by
 rw [cIn_succ hq, cStep, decide_eq_true h1, h2, h3]; rfl

theorem cIn_no1 {S : List Int} {c : Int} {o : List Int} {a : Arc} {q : Nat} (hq : q < 2) (h1 : ¬ ((steps2 a).getD q default).src = c) : cIn S c o a q = cIn S c o a (q + 1) := by
 rw [cIn_succ hq, cStep, decide_eq_false h1]; rfl

theorem cIn_no2 {S : List Int} {c : Int} {o : List Int} {a : Arc} {q : Nat} (hq : q < 2) (h2 : hasI S ((steps2 a).getD q default).dst = false) : cIn S c o a q = cIn S c o a (q + 1) := by
 rw [cIn_succ hq, cStep, h2]; simp

theorem cIn_no3 {S : List Int} {c : Int} {o : List Int} {a : Arc} {q : Nat} (hq : q < 2) (h3 : hasI (cIn S c o a q) ((steps2 a).getD q default).dst = true) : cIn S c o a q = cIn S c o a (q + 1) := by
 rw [cIn_succ hq, cStep, h3]; simp

def toS (S : List Int) (a : Arc) : Bool := hasI S a.dst

structure CInv (x : Sgr) (S : List Int) (a0 : Int) (o : List Int) : Prop where
 wl : Wl x.codes.length (arcE (toS S) (two2 x.arcs)) (fun a => a = a0) o
 inS : ∀ a ∈ o, a ∈ S

theorem CInv.step {x : Sgr} {S : List Int} {a0 c : Int} {o : List Int} (hen : ends x.codes.length x.arcs) (h : CInv x S a0 o) (hc : c ∈ o) {a : Arc} (ha : a ∈ x.arcs) {e : Stp} (he : e ∈ steps2 a) :
    CInv x S a0 (cStep S c o e) ∧ (∃ r, cStep S c o e = o ++ r) ∧ (e.src = c → hasI S e.dst = true → e.dst ∈ cStep S c o e) := by
  have harc : ∃ e' ∈ two2 x.arcs, e'.src = e.src ∧ e'.dst = e.dst := by
    unfold steps2 at he
    simp only [List.mem_cons, List.not_mem_nil, or_false] at he
    rcases he with rfl | rfl
    · exact ⟨a, two2_mem.2 ⟨a, ha, .inl rfl⟩, rfl, rfl⟩
    · exact ⟨revA a, two2_mem.2 ⟨a, ha, .inr rfl⟩, rfl, rfl⟩
  obtain ⟨e', h1, h2, h3⟩ := harc
  have hee := two2_ends hen e' h1
  unfold cStep
  split
  · rename_i hcond
    rw [Bool.and_eq_true, Bool.and_eq_true, decide_eq_true_iff, Bool.not_eq_true', ← Bool.not_eq_true, hasI_mem, hasI_mem] at hcond
    obtain ⟨q1, q2, q3⟩ := hcond
    refine ⟨⟨h.wl.add hc ⟨e', h1, by rw [h2, q1], h3, by unfold toS; rw [hasI_mem, h3]; exact q2⟩ q3 (by rw [← h3]; exact hee.2), fun b hb => ?_⟩, ⟨_, rfl⟩, fun _ _ => List.mem_append_right _ (List.mem_singleton.2 rfl)⟩
    rcases List.mem_append.1 hb with hb | hb
    · exact h.inS b hb
    · rw [List.mem_singleton] at hb; rw [hb]; exact q2
  · rename_i hcond
    refine ⟨h, ⟨[], by simp⟩, fun e1 e2 => ?_⟩
    rw [decide_eq_true e1, e2, Bool.true_and, Bool.true_and, Bool.not_eq_true', Bool.not_eq_false, hasI_mem] at hcond
    exact hcond

theorem CInv.ins {x : Sgr} {S : List Int} {a0 c : Int} {o : List Int} (hen : ends x.codes.length x.arcs) (h : CInv x S a0 o) (hc : c ∈ o) {a : Arc} (ha : a ∈ x.arcs) : ∀ q, q ≤ 2 →
    CInv x S a0 (cIn S c o a q) ∧ (∃ r, cIn S c o a q = o ++ r) ∧ ∀ j, j < q → ((steps2 a).getD j default).src = c → hasI S ((steps2 a).getD j default).dst = true → ((steps2 a).getD j default).dst ∈ cIn S c o a q
  | 0, _ => ⟨h, ⟨[], by simp [cIn]⟩, fun j hj => absurd hj (Nat.not_lt_zero _)⟩
  | q + 1, hq => by
    obtain ⟨h1, ⟨r, h2⟩, h3⟩ := h.ins hen hc ha q (by omega)
    obtain ⟨a1, ⟨r2, b1⟩, c1⟩ := h1.step hen (c := c) (by rw [h2]; exact List.mem_append_left _ hc) ha (e := (steps2 a).getD q default) (getD_mem (by exact hq))
    rw [cIn_succ (by omega)]
    refine ⟨a1, ⟨r ++ r2, by rw [b1, h2, List.append_assoc]⟩, fun j hj e1 e2 => ?_⟩
    by_cases hlt : j < q
    · rw [b1]; exact List.mem_append_left _ (h3 j hlt e1 e2)
    · rw [show j = q by omega] at e1 e2 ⊢; exact c1 e1 e2

theorem CInv.tos {x : Sgr} {S : List Int} {a0 c : Int} {o : List Int} (hen : ends x.codes.length x.arcs) (h : CInv x S a0 o) (hc : c ∈ o) : ∀ m, m ≤ x.arcs.length →
    CInv x S a0 (cTo x S c o m) ∧ (∃ r, cTo x S c o m = o ++ r) ∧ ∀ j, j < m → ∀ e ∈ steps2 (x.arcs.getD j default), e.src = c → hasI S e.dst = true → e.dst ∈ cTo x S c o m
  | 0, _ => ⟨h, ⟨[], by simp [cTo]⟩, fun j hj => absurd hj (Nat.not_lt_zero _)⟩
  | m + 1, hm => by
    obtain ⟨h1, ⟨r, h2⟩, h3⟩ := h.tos hen hc m (by omega)
    obtain ⟨a1, ⟨r2, b1⟩, c1⟩ := h1.ins hen (c := c) (by rw [h2]; exact List.mem_append_left _ hc) (getD_mem (l := x.arcs) (j := m) (d := default) (by omega)) 2 (Nat.le_refl _)
    rw [← cTo_next (q := 2) (by omega) (Nat.le_refl _)]
    refine ⟨a1, ⟨r ++ r2, by rw [b1, h2, List.append_assoc]⟩, fun j hj e he e1 e2 => ?_⟩
    by_cases hlt : j < m
    · rw [b1]; exact List.mem_append_left _ (h3 j hlt e he e1 e2)
    · rw [show j = m by omega] at he
      obtain ⟨i, hi, rfl⟩ := List.mem_iff_getElem.1 he
      have hg : (steps2 (x.arcs.getD m default)).getD i default = (steps2 (x.arcs.getD m default))[i] := by rw [List.getD_eq_getElem?_getD (i := i), List.getElem?_eq_getElem hi, Option.getD_some]
      have := c1 i hi (by rw [hg]; exact e1) (by rw [hg]; exact e2)
      rwa [hg] at this

structure CLoop (x : Sgr) (S : List Int) (a0 : Int) (q : List Int × Nat) : Prop where
 inv : CInv x S a0 q.1
 done : ∀ i, i < q.2 → i < q.1.length → ∀ b, arcE (toS S) (two2 x.arcs) (q.1.getD i default) b → b ∈ q.1

theorem CLoop.zero {x : Sgr} {S : List Int} {a0 : Int} (h : a0 ∈ S) (hb : 0 ≤ a0 ∧ a0.toNat < x.codes.length) : CLoop x S a0 ([a0], 0) :=
 ⟨⟨⟨fun a ha => by rw [List.mem_singleton] at ha; rw [ha]; exact hb, by simp, fun a ha => .base (List.mem_singleton.1 ha), fun a ha => List.mem_singleton.2 ha⟩, fun a ha => by rw [List.mem_singleton] at ha; rw [ha]; exact h⟩, fun i h => absurd h (Nat.not_lt_zero _)⟩

theorem CLoop.step {x : Sgr} {S : List Int} {a0 : Int} {q : List Int × Nat} (hen : ends x.codes.length x.arcs) (h : CLoop x S a0 q) (hq : q.2 < q.1.length) : CLoop x S a0 (cTo x S (q.1.getD q.2 default) q.1 x.arcs.length, q.2 + 1) := by
  obtain ⟨h1, ⟨r, h2⟩, h3⟩ := h.inv.tos hen (getD_mem (l := q.1) (j := q.2) (d := default) hq) _ (Nat.le_refl _)
  refine ⟨h1, fun i hi hl b hb => ?_⟩
  dsimp only at hi hl hb ⊢
  rw [h2] at hb
  by_cases hlt : i < q.2
  · rw [getD_app (by omega)] at hb
    rw [h2]
    exact List.mem_append_left _ (h.done i hlt (by omega) b hb)
  · have e : i = q.2 := by omega
    subst e
    rw [getD_app hq] at hb
    obtain ⟨e', he', e1, rfl, hp⟩ := hb
    obtain ⟨a, ha, hor⟩ := two2_mem.1 he'
    obtain ⟨j, hj, rfl⟩ := List.mem_iff_getElem.1 ha
    have hg : x.arcs.getD j default = x.arcs[j] := by simp [hj]
    have hst : Stp.mk e'.src e'.dst ∈ steps2 (x.arcs.getD j default) := by
      rw [hg]
      rcases hor with rfl | rfl
      · exact List.mem_cons_self
      · exact List.mem_cons_of_mem _ List.mem_cons_self
    exact h3 j hj _ hst e1 hp

theorem CLoop.end {x : Sgr} {S : List Int} {a0 : Int} {q : List Int × Nat} (hs : SetOk S x.arcs x.codes.length) (h : CLoop x S a0 q) (ha : a0 ∈ S) (hlab : labAt S x.arcs x.codes.length a0.toNat = a0.toNat) (hq : ¬ q.2 < q.1.length) : tidI q.1 = clsL S x.arcs x.codes.length a0.toNat := by
  have hb := hs.inn a0 ha
  have e0 : (a0.toNat : Int) = a0 := by omega
  refine rising_ext (rise_int.1 (tid_rise linI q.1)) (setL_rising _ _) fun a => ?_
  rw [tidI, tid_mem linI, h.inv.wl.done (fun b hbm c hc => by
    obtain ⟨i, hi, rfl⟩ := List.mem_iff_getElem.1 hbm
    refine h.done i (by omega) hi c ?_
    rwa [show q.1.getD i default = q.1[i] by simp [hi]])]
  have hspec := lab_spec (S := S) hs.ends hb.2
  rw [e0] at hspec
  constructor
  · intro hr
    have hcn : Cn S x.arcs a0 a ∧ a ∈ S := Rch.ind (fun a => Cn S x.arcs a0 a ∧ a ∈ S) (fun b e => by rw [e]; exact ⟨.refl, ha⟩) (fun b c hbc e => by
      obtain ⟨e', he', rfl, rfl, hp⟩ := e
      unfold toS at hp
      refine ⟨.step hbc.1 ⟨e', he', rfl, rfl, ?_⟩, hasI_mem.1 hp⟩
      unfold inb
      rw [hasI_mem.2 hbc.2, hp]; rfl) hr
    have hbn := hs.inn a hcn.2
    refine cls_mem.2 ⟨hbn, hcn.2, ?_⟩
    have := hspec.2.2 a.toNat (by rw [show (a.toNat : Int) = a by omega]; exact hcn.1)
    rw [this, hlab]
  · intro hc
    obtain ⟨hbn, hin, hl⟩ := cls_mem.1 hc
    have h1 := (lab_spec (S := S) hs.ends hbn.2).1
    rw [hl, e0, show (a.toNat : Int) = a by omega] at h1
    exact Rch.mono (fun b c hbc => by
      obtain ⟨e', he', h2, h3, hp⟩ := hbc
      refine ⟨e', he', h2, h3, ?_⟩
      unfold inb at hp
      exact (Bool.and_eq_true_iff.1 hp).2) (fun b hb => hb) h1

theorem CLoop.nod {x : Sgr} {S : List Int} {a0 : Int} {q : List Int × Nat} (h : CLoop x S a0 q) : q.1.Nodup := h.inv.wl.nod

theorem nodup_mem_compact {o : List Int} (h : o.Nodup) : tidI o = o.mergeSort leI := by
 have h1 : (o.mergeSort leI).Pairwise (fun a b => leI a b = true) := List.pairwise_mergeSort (fun a b c h1 h2 => linI.trans a b c h1 h2) (fun a b => linI.total a b) o
 have h2 : (o.mergeSort leI).Nodup := (List.mergeSort_perm o leI).nodup_iff.2 h
 have h3 : Rising (o.mergeSort leI) := by
  rw [← rise_int]
  unfold Rise
  exact List.Pairwise.and h1 h2
 refine rising_ext (rise_int.1 (tid_rise linI o)) h3 fun a => ?_
 rw [tidI, tid_mem linI, List.mem_mergeSort]

theorem arc_bit {x : Sgr} (hx : SgOk x) {a : Arc} (ha : a ∈ x.arcs) (h0 : 0 ≤ a.sig) : decide ((x.codes.getD a.src.toNat default).getD a.sig.toNat 0 = 49) = !a.up := by
  obtain ⟨j, hj, rfl⟩ := List.mem_iff_getElem.1 ha
  have h1 := allB_true.1 hx.arcs j hj
  have hg : x.arcs.getD j default = x.arcs[j] := by simp [hj]
  rw [hg] at h1
  have hs := (hx.sig _ ha).1
  have he := hx.ends _ ha
  unfold arcB at h1
  simp only [Bool.and_eq_true] at h1
  have h2 := h1.2.2.2
  have hl : (codeAt x (x.arcs[j]).src).length = x.sigs.length := (codes_at hx.codes (x.arcs[j]).src he.1.1 (by omega)).2
  have h3 := allB_true.1 h2 (x.arcs[j]).sig.toNat (by omega)
  unfold fitCh at h3
  rw [if_pos (by omega), Bool.and_eq_true, Bool.not_eq_true'] at h3
  have h4 := of_decide_eq_false h3.1
  show decide ((codeAt x (x.arcs[j]).src).getD (x.arcs[j]).sig.toNat 0 = 49) = _
  cases hd : decide ((codeAt x (x.arcs[j]).src).getD (x.arcs[j]).sig.toNat 0 = 49) <;> cases hu : (x.arcs[j]).up <;> rw [hd, hu] at h4 <;> first | rfl | exact absurd rfl h4

theorem lab_bit {x : Sgr} (hx : SgOk x) {k : Nat} {sig : Int} {up : Bool} (h0 : 0 ≤ sig) : labB x (k : Int) sig up = (excB x (k : Int) sig && decide (decide ((x.codes.getD k default).getD sig.toNat 0 = 49) = !up)) := by
  rw [Bool.eq_iff_iff, Bool.and_eq_true, decide_eq_true_iff]
  unfold labB excB
  rw [List.any_eq_true, List.any_eq_true]
  constructor
  · rintro ⟨a, ha, h⟩
    unfold isLab isEd at h
    simp only [Bool.and_eq_true, decide_eq_true_iff] at h
    obtain ⟨h1, h2, h3⟩ := h
    refine ⟨⟨a, ha, by unfold isArc; rw [decide_eq_true h1, decide_eq_true h2]; rfl⟩, ?_⟩
    have := arc_bit hx ha (by omega)
    rw [h1, h2, h3, Int.toNat_natCast] at this
    exact this
  · rintro ⟨⟨a, ha, h⟩, hb⟩
    unfold isArc at h
    simp only [Bool.and_eq_true, decide_eq_true_iff] at h
    refine ⟨a, ha, ?_⟩
    have := arc_bit hx ha (by omega)
    rw [h.1, h.2, Int.toNat_natCast, hb] at this
    unfold isLab isEd
    rw [decide_eq_true h.1, decide_eq_true h.2, decide_eq_true (show a.up = up from by cases hu : a.up <;> cases up <;> rw [hu] at this <;> first | rfl | cases this)]; rfl

theorem exc_bit {x : Sgr} (hx : SgOk x) {k : Nat} (hk : k < x.codes.length) {sig : Int} {up : Bool} (h0 : 0 ≤ sig) : hasI (excS x sig up) (k : Int) = (excB x (k : Int) sig && decide (decide ((x.codes.getD k default).getD sig.toNat 0 = 49) = !up)) := by
 rw [exc_has ⟨by omega, by omega⟩, lab_bit hx h0]

theorem bit_cmp {c : UInt8} (hc : c = 48 ∨ c = 49) (b : Bool) : decide ([c] = [bitN b]) = decide (decide (c = 49) = b) := by
  rcases hc with rfl | rfl <;> cases b <;> rfl

def nxq (x : Sgr) (sig : Int) (a : Arc) : Bool := !excB x a.dst sig

def addQ (x : Sgr) (sig : Int) (o : List Int) (k : Int) : List Int := if !excB x k sig && !hasI o k then o ++ [k] else o

theorem addQ_yes {x : Sgr} {sig : Int} {o : List Int} {k : Int} (h1 : excB x k sig = false) (h2 : hasI o k = false) : o ++ [k] = addQ x sig o k := by rw [addQ, h1, h2]; rfl

theorem addQ_no1 {x : Sgr} {sig : Int} {o : List Int} {k : Int} (h1 : excB x k sig = true) : o = addQ x sig o k := by rw [addQ, h1]; rfl

theorem addQ_no2 {x : Sgr} {sig : Int} {o : List Int} {k : Int} (h2 : hasI o k = true) : o = addQ x sig o k := by rw [addQ, h2]; simp

theorem addQ_mem {x : Sgr} {sig : Int} {o : List Int} {k a : Int} : a ∈ addQ x sig o k ↔ a ∈ o ∨ (excB x k sig = false ∧ a = k) := by
  unfold addQ
  split
  · rename_i h
    rw [Bool.and_eq_true, Bool.not_eq_true', Bool.not_eq_true'] at h
    rw [List.mem_append, List.mem_singleton]
    exact ⟨fun h2 => h2.imp id fun e => ⟨h.1, e⟩, fun h2 => h2.imp id fun e => e.2⟩
  · rename_i h
    refine ⟨.inl, fun h2 => h2.elim id fun e => ?_⟩
    rw [e.1, Bool.not_false, Bool.true_and, Bool.not_eq_true', Bool.not_eq_false, hasI_mem] at h
    rw [e.2]; exact h

theorem addQ_nod {x : Sgr} {sig : Int} {o : List Int} {k : Int} (h : o.Nodup) : (addQ x sig o k).Nodup := by
  unfold addQ
  split
  · rename_i h2
    rw [Bool.and_eq_true, Bool.not_eq_true', Bool.not_eq_true', ← Bool.not_eq_true (hasI o k), hasI_mem] at h2
    rw [List.nodup_append]
    refine ⟨h, by simp, fun a ha b hb => ?_⟩
    rw [List.mem_singleton] at hb
    subst hb
    exact fun e => h2.2 (e ▸ ha)
  · exact h

theorem addQ_pre (x : Sgr) (sig : Int) (o : List Int) (k : Int) : ∃ r, addQ x sig o k = o ++ r := by
  unfold addQ; split
  · exact ⟨_, rfl⟩
  · exact ⟨[], by simp⟩

def q0 (x : Sgr) (l : Lab) (r o : List Int) (a : Arc) : List Int := if isEd l.sig l.up a && hasI r a.src then addQ x l.sig o a.dst else o

def q0To (x : Sgr) (l : Lab) (r : List Int) (m : Nat) : List Int := (x.arcs.take m).foldl (q0 x l r) []

theorem q0To_succ {x : Sgr} {l : Lab} {r : List Int} {m : Nat} (h : m < x.arcs.length) : q0To x l r (m + 1) = q0 x l r (q0To x l r m) (x.arcs.getD m default) := by
 have hg : x.arcs.getD m default = x.arcs[m] := by simp [h]
 unfold q0To
 rw [List.take_succ_eq_append_getElem h, List.foldl_append, hg]; rfl

theorem q0_yes {x : Sgr} {l : Lab} {r : List Int} {m : Nat} (h : m < x.arcs.length) (h1 : isEd l.sig l.up (x.arcs.getD m default) = true) (h2 : hasI r (x.arcs.getD m default).src = true) : addQ x l.sig (q0To x l r m) (x.arcs.getD m default).dst = q0To x l r (m + 1) := by rw [q0To_succ h, q0, h1, h2]; rfl

theorem q0_no1 {x : Sgr} {l : Lab} {r : List Int} {m : Nat} (h : m < x.arcs.length) (h1 : isEd l.sig l.up (x.arcs.getD m default) = false) : q0To x l r m = q0To x l r (m + 1) := by rw [q0To_succ h, q0, h1]; rfl

theorem q0_no2 {x : Sgr} {l : Lab} {r : List Int} {m : Nat} (h : m < x.arcs.length) (h2 : hasI r (x.arcs.getD m default).src = false) : q0To x l r m = q0To x l r (m + 1) := by rw [q0To_succ h, q0, h2]; simp

def S0 (x : Sgr) (l : Lab) (r : List Int) (m : Nat) (a : Int) : Prop := ∃ e ∈ x.arcs.take m, (isEd l.sig l.up e && hasI r e.src) = true ∧ excB x e.dst l.sig = false ∧ a = e.dst

theorem q0To_ok {x : Sgr} {l : Lab} {r : List Int} : ∀ m, m ≤ x.arcs.length → (q0To x l r m).Nodup ∧ (∀ a, a ∈ q0To x l r m ↔ S0 x l r m a) ∧ (q0To x l r m).length ≤ m
  | 0, _ => ⟨by simp [q0To], fun a => by
      constructor
      · intro h; simp [q0To] at h
      · rintro ⟨e, he, _⟩; simp at he, Nat.le_refl 0⟩
  | m + 1, hm => by
    obtain ⟨h1, h2, h3⟩ := q0To_ok (x := x) (l := l) (r := r) m (by omega)
    have hlt : m < x.arcs.length := by omega
    have hg : x.arcs.getD m default = x.arcs[m] := by simp [hlt]
    have htk : ∀ e, e ∈ x.arcs.take (m + 1) ↔ e ∈ x.arcs.take m ∨ e = x.arcs.getD m default := fun e => by
      rw [List.take_succ_eq_append_getElem hlt, List.mem_append, List.mem_singleton, hg]
    rw [q0To_succ hlt, q0]
    split
    · rename_i hc
      refine ⟨addQ_nod h1, fun a => ?_, ?_⟩
      · rw [addQ_mem, h2]
        constructor
        · rintro (⟨e, he, h⟩ | ⟨h4, h5⟩)
          · exact ⟨e, (htk e).2 (.inl he), h⟩
          · exact ⟨_, (htk _).2 (.inr rfl), hc, h4, h5⟩
        · rintro ⟨e, he, h⟩
          rcases (htk e).1 he with he | rfl
          · exact .inl ⟨e, he, h⟩
          · exact .inr h.2
      · unfold addQ; split
        · rw [List.length_append, List.length_singleton]; omega
        · omega
    · rename_i hc
      refine ⟨h1, fun a => ?_, by omega⟩
      rw [h2]
      constructor
      · rintro ⟨e, he, h⟩
        exact ⟨e, (htk e).2 (.inl he), h⟩
      · rintro ⟨e, he, h⟩
        rcases (htk e).1 he with he | rfl
        · exact ⟨e, he, h⟩
        · exact absurd h.1 hc

def q1 (x : Sgr) (sig c : Int) (o : List Int) (a : Arc) : List Int := if decide (a.src = c) then addQ x sig o a.dst else o

def q1To (x : Sgr) (sig c : Int) (o : List Int) (m : Nat) : List Int := (x.arcs.take m).foldl (q1 x sig c) o

theorem q1To_succ {x : Sgr} {sig c : Int} {o : List Int} {m : Nat} (h : m < x.arcs.length) : q1To x sig c o (m + 1) = q1 x sig c (q1To x sig c o m) (x.arcs.getD m default) := by
 have hg : x.arcs.getD m default = x.arcs[m] := by simp [h]
 unfold q1To
 rw [List.take_succ_eq_append_getElem h, List.foldl_append, hg]; rfl

theorem q1_yes {x : Sgr} {sig c : Int} {o : List Int} {m : Nat} (h : m < x.arcs.length) (h1 : (x.arcs.getD m default).src = c) : addQ x sig (q1To x sig c o m) (x.arcs.getD m default).dst = q1To x sig c o (m + 1) := by rw [q1To_succ h, q1, decide_eq_true h1]; rfl

theorem q1_no {x : Sgr} {sig c : Int} {o : List Int} {m : Nat} (h : m < x.arcs.length) (h1 : ¬ (x.arcs.getD m default).src = c) : q1To x sig c o m = q1To x sig c o (m + 1) := by rw [q1To_succ h, q1, decide_eq_false h1]; rfl
abbrev QW (x : Sgr) (l : Lab) (r : List Int) (o : List Int) : Prop := Wl x.codes.length (arcE (nxq x l.sig) x.arcs) (S0 x l r x.arcs.length) o

theorem qw_zero {x : Sgr} (hen : ends x.codes.length x.arcs) (l : Lab) (r : List Int) : QW x l r (q0To x l r x.arcs.length) := by
 obtain ⟨h1, h2, h3⟩ := q0To_ok (x := x) (l := l) (r := r) _ (Nat.le_refl _)
 refine ⟨fun a ha => ?_, h1, fun a ha => .base ((h2 a).1 ha), fun a ha => (h2 a).2 ha⟩
 obtain ⟨e, he, _, _, rfl⟩ := (h2 a).1 ha
 exact (hen e (List.mem_of_mem_take he)).2

theorem qw_add {x : Sgr} (hen : ends x.codes.length x.arcs) {l : Lab} {r o : List Int} (h : QW x l r o) {a : Arc} (ha : a ∈ x.arcs) (hs : a.src ∈ o) : QW x l r (addQ x l.sig o a.dst) := by
  unfold addQ
  split
  · rename_i hc
    rw [Bool.and_eq_true, Bool.not_eq_true' (b := hasI o a.dst), ← Bool.not_eq_true (hasI o a.dst), hasI_mem] at hc
    exact h.add hs ⟨a, ha, rfl, rfl, hc.1⟩ hc.2 (hen a ha).2
  · exact h

theorem qw_tos {x : Sgr} (hen : ends x.codes.length x.arcs) {l : Lab} {r o : List Int} {c : Int} (h : QW x l r o) (hc : c ∈ o) : ∀ m, m ≤ x.arcs.length →
    QW x l r (q1To x l.sig c o m) ∧ (∃ t, q1To x l.sig c o m = o ++ t) ∧ ∀ j, j < m → (x.arcs.getD j default).src = c → excB x (x.arcs.getD j default).dst l.sig = false → (x.arcs.getD j default).dst ∈ q1To x l.sig c o m
  | 0, _ => ⟨h, ⟨[], by simp [q1To]⟩, fun j hj => absurd hj (Nat.not_lt_zero _)⟩
  | m + 1, hm => by
    obtain ⟨h1, ⟨t, h2⟩, h3⟩ := qw_tos hen h hc m (by omega)
    have hmem := getD_mem (l := x.arcs) (j := m) (d := default) (by omega)
    rw [q1To_succ (by omega), q1]
    split
    · rename_i hsc
      have hsc := of_decide_eq_true hsc
      obtain ⟨t2, h4⟩ := addQ_pre x l.sig (q1To x l.sig c o m) (x.arcs.getD m default).dst
      refine ⟨qw_add hen h1 hmem (by rw [hsc, h2]; exact List.mem_append_left _ hc), ⟨t ++ t2, by rw [h4, h2, List.append_assoc]⟩, fun j hj e1 e2 => ?_⟩
      by_cases hlt : j < m
      · exact addQ_mem.2 (.inl (h3 j hlt e1 e2))
      · rw [show j = m by omega] at e2 ⊢; exact addQ_mem.2 (.inr ⟨e2, rfl⟩)
    · rename_i hsc
      refine ⟨h1, ⟨t, h2⟩, fun j hj e1 e2 => ?_⟩
      by_cases hlt : j < m
      · exact h3 j hlt e1 e2
      · rw [show j = m by omega] at e1; exact absurd (decide_eq_true e1) hsc

structure QLoop (x : Sgr) (l : Lab) (r : List Int) (q : List Int × Nat) : Prop where
 inv : QW x l r q.1
 done : ∀ i, i < q.2 → i < q.1.length → ∀ b, arcE (nxq x l.sig) x.arcs (q.1.getD i default) b → b ∈ q.1

theorem QLoop.zero {x : Sgr} (hen : ends x.codes.length x.arcs) (l : Lab) (r : List Int) : QLoop x l r (q0To x l r x.arcs.length, 0) := ⟨qw_zero hen l r, fun i h => absurd h (Nat.not_lt_zero _)⟩

theorem QLoop.step {x : Sgr} {l : Lab} {r : List Int} {q : List Int × Nat} (hen : ends x.codes.length x.arcs) (h : QLoop x l r q) (hq : q.2 < q.1.length) : QLoop x l r (q1To x l.sig (q.1.getD q.2 default) q.1 x.arcs.length, q.2 + 1) := by
  obtain ⟨h1, ⟨t, h2⟩, h3⟩ := qw_tos hen h.inv (getD_mem (l := q.1) (j := q.2) (d := default) hq) _ (Nat.le_refl _)
  refine ⟨h1, fun i hi hl b hb => ?_⟩
  dsimp only at hi hl hb ⊢
  rw [h2] at hb
  by_cases hlt : i < q.2
  · rw [getD_app (by omega)] at hb
    rw [h2]
    exact List.mem_append_left _ (h.done i hlt (by omega) b hb)
  · have e : i = q.2 := by omega
    subst e
    rw [getD_app hq] at hb
    obtain ⟨e', he', e1, rfl, hp⟩ := hb
    obtain ⟨j, hj, rfl⟩ := List.mem_iff_getElem.1 he'
    have hg : x.arcs.getD j default = x.arcs[j] := by simp [hj]
    have := h3 j hj (by rw [hg]; exact e1) (by rw [hg]; unfold nxq at hp; rwa [Bool.not_eq_true'] at hp)
    rwa [hg] at this

def mq0 (x : Sgr) (sig : Int) (r : List Int) (m : Nat) : List Bool := (x.arcs.take m).foldl (fun t a => if hasI r a.src && decide (a.sig = sig) && nxq x sig a then t.set a.dst.toNat true else t) (List.replicate x.codes.length false)

theorem mq0_succ {x : Sgr} {sig : Int} {r : List Int} {m : Nat} (h : m < x.arcs.length) : mq0 x sig r (m + 1) = if hasI r (x.arcs.getD m default).src && decide ((x.arcs.getD m default).sig = sig) && nxq x sig (x.arcs.getD m default) then (mq0 x sig r m).set (x.arcs.getD m default).dst.toNat true else mq0 x sig r m := by
 have hg : x.arcs.getD m default = x.arcs[m] := by simp [h]
 unfold mq0
 rw [List.take_succ_eq_append_getElem h, List.foldl_append, hg]; rfl

theorem mq0_len (x : Sgr) (sig : Int) (r : List Int) : ∀ m, m ≤ x.arcs.length → (mq0 x sig r m).length = x.codes.length
  | 0, _ => by simp [mq0]
  | m + 1, h => by
    rw [mq0_succ (by omega)]
    split
    · rw [List.length_set, mq0_len x sig r m (by omega)]
    · exact mq0_len x sig r m (by omega)

theorem mq0_yes {x : Sgr} {sig : Int} {r : List Int} {m : Nat} (h : m < x.arcs.length) (h1 : hasI r (x.arcs.getD m default).src = true) (h2 : (x.arcs.getD m default).sig = sig) (h3 : excB x (x.arcs.getD m default).dst sig = false) : (mq0 x sig r m).set (x.arcs.getD m default).dst.toNat true = mq0 x sig r (m + 1) := by
 rw [mq0_succ h, h1, decide_eq_true h2, nxq, h3]; rfl

theorem mq0_no1 {x : Sgr} {sig : Int} {r : List Int} {m : Nat} (h : m < x.arcs.length) (h1 : hasI r (x.arcs.getD m default).src = false) : mq0 x sig r m = mq0 x sig r (m + 1) := by rw [mq0_succ h, h1]; rfl

theorem mq0_no2 {x : Sgr} {sig : Int} {r : List Int} {m : Nat} (h : m < x.arcs.length) (h2 : ¬ (x.arcs.getD m default).sig = sig) : mq0 x sig r m = mq0 x sig r (m + 1) := by rw [mq0_succ h, decide_eq_false h2, Bool.and_false]; rfl

theorem mq0_no3 {x : Sgr} {sig : Int} {r : List Int} {m : Nat} (h : m < x.arcs.length) (h3 : excB x (x.arcs.getD m default).dst sig = true) : mq0 x sig r m = mq0 x sig r (m + 1) := by rw [mq0_succ h, nxq, h3, Bool.not_true, Bool.and_false]; rfl

theorem mq0_mem {x : Sgr} {sig : Int} {r : List Int} (hen : ends x.codes.length x.arcs) : ∀ m, m ≤ x.arcs.length → ∀ j : Nat, (mq0 x sig r m).getD j default = true ↔ ∃ e ∈ x.arcs.take m, (hasI r e.src = true ∧ e.sig = sig ∧ excB x e.dst sig = false) ∧ (j : Int) = e.dst
  | 0, _, j => by
    constructor
    · intro h
      unfold mq0 at h
      simp only [List.take_zero, List.foldl_nil] at h
      rw [List.getD_eq_getElem?_getD, List.getElem?_replicate] at h
      split at h <;> cases h
    · rintro ⟨e, he, _⟩; simp at he
  | m + 1, hm, j => by
    have hlt : m < x.arcs.length := by omega
    have hg : x.arcs.getD m default = x.arcs[m] := by simp [hlt]
    have he := hen _ (getD_mem (l := x.arcs) (j := m) (d := default) hlt)
    have htk : ∀ e, e ∈ x.arcs.take (m + 1) ↔ e ∈ x.arcs.take m ∨ e = x.arcs.getD m default := fun e => by
      rw [List.take_succ_eq_append_getElem hlt, List.mem_append, List.mem_singleton, hg]
    have ih := mq0_mem (sig := sig) (r := r) hen m (by omega) j
    rw [mq0_succ hlt]
    split
    · rename_i hc
      simp only [Bool.and_eq_true, decide_eq_true_iff] at hc
      unfold nxq at hc
      rw [Bool.not_eq_true'] at hc
      rw [getD_set, mq0_len _ _ _ _ (by omega)]
      split
      · rename_i hh
        exact ⟨fun _ => ⟨x.arcs.getD m default, (htk _).2 (.inr rfl), ⟨hc.1.1, hc.1.2, hc.2⟩, (by clear ih; have := hh.1; omega)⟩, fun _ => rfl⟩
      · rename_i hh
        rw [ih]
        constructor
        · rintro ⟨e, h1, h2⟩
          exact ⟨e, (htk e).2 (.inl h1), h2⟩
        · rintro ⟨e, h1, h2, h3⟩
          rcases (htk e).1 h1 with h1 | rfl
          · exact ⟨e, h1, h2, h3⟩
          · exact absurd ⟨by clear ih; omega, he.2.2⟩ hh
    · rename_i hc
      rw [ih]
      constructor
      · rintro ⟨e, h1, h2⟩
        exact ⟨e, (htk e).2 (.inl h1), h2⟩
      · rintro ⟨e, h1, h2, h3⟩
        rcases (htk e).1 h1 with h1 | rfl
        · exact ⟨e, h1, h2, h3⟩
        · refine absurd ?_ hc
          unfold nxq
          rw [h2.1, decide_eq_true h2.2.1, h2.2.2]; rfl

def mqR (x : Sgr) (sig : Int) (r : List Int) (k : Nat) : List Bool := itN (x.arcs.foldl (markC (nxq x sig))) k (mq0 x sig r x.arcs.length)

def mqTo (x : Sgr) (sig : Int) (r : List Int) (k m : Nat) : List Bool := (x.arcs.take m).foldl (markC (nxq x sig)) (mqR x sig r k)

theorem mqTo_next {x : Sgr} {sig : Int} {r : List Int} {k m : Nat} (h : x.arcs.length ≤ m) : mqTo x sig r k m = mqR x sig r (k + 1) := by rw [mqTo, List.take_of_length_le h]; rfl

theorem mqTo_succ {x : Sgr} {sig : Int} {r : List Int} {k m : Nat} (h : m < x.arcs.length) : mqTo x sig r k (m + 1) = markC (nxq x sig) (mqTo x sig r k m) (x.arcs.getD m default) := by
 have hg : x.arcs.getD m default = x.arcs[m] := by simp [h]
 unfold mqTo
 rw [List.take_succ_eq_append_getElem h, List.foldl_append, hg]; rfl

theorem markCs_len (p : Arc → Bool) : ∀ (l : List Arc) (t : List Bool), (l.foldl (markC p) t).length = t.length
  | [], _ => rfl
  | a :: l, t => by
    rw [List.foldl_cons, markCs_len p l]
    unfold markC; split
    · rw [List.length_set]
    · rfl

theorem mqR_len (x : Sgr) (sig : Int) (r : List Int) : ∀ k, (mqR x sig r k).length = x.codes.length
 | 0 => mq0_len _ _ _ _ (Nat.le_refl _)
 | k + 1 => by
  have := mqR_len x sig r k
  unfold mqR at this ⊢
  rw [itN, markCs_len, this]

theorem mqTo_len (x : Sgr) (sig : Int) (r : List Int) (k m : Nat) : (mqTo x sig r k m).length = x.codes.length := by rw [mqTo, markCs_len, mqR_len]

theorem mqTo_yes {x : Sgr} {sig : Int} {r : List Int} {k m : Nat} (h : m < x.arcs.length) (h1 : (mqTo x sig r k m).getD (x.arcs.getD m default).src.toNat default = true) (h2 : excB x (x.arcs.getD m default).dst sig = false) : (mqTo x sig r k m).set (x.arcs.getD m default).dst.toNat true = mqTo x sig r k (m + 1) := by
 rw [mqTo_succ h, markC, h1, nxq, h2]; rfl

theorem mqTo_no1 {x : Sgr} {sig : Int} {r : List Int} {k m : Nat} (h : m < x.arcs.length) (h1 : (mqTo x sig r k m).getD (x.arcs.getD m default).src.toNat default = false) : mqTo x sig r k m = mqTo x sig r k (m + 1) := by rw [mqTo_succ h, markC, h1]; rfl

theorem mqTo_no2 {x : Sgr} {sig : Int} {r : List Int} {k m : Nat} (h : m < x.arcs.length) (h2 : excB x (x.arcs.getD m default).dst sig = true) : mqTo x sig r k m = mqTo x sig r k (m + 1) := by rw [mqTo_succ h, markC, nxq, h2, Bool.not_true, Bool.and_false]; rfl

def quietL (x : Sgr) (sig : Int) (r : List Int) : List Int := setL x.codes.length fun k => (mqR x sig r x.codes.length).getD k default

def quietK (x : Sgr) (sig : Int) (r : List Int) (k : Nat) : List Int := selTo k (fun k => (mqR x sig r x.codes.length).getD k default) fun k => (k : Int)

theorem quietK_le (x : Sgr) (sig : Int) (r : List Int) (k : Nat) : (quietK x sig r k).length ≤ k := selTo_le _ _ _

theorem quietL_le (x : Sgr) (sig : Int) (r : List Int) : (quietL x sig r).length ≤ x.codes.length := setL_le _ _

theorem QLoop.end {x : Sgr} (hx : SgOk x) {sig : Int} {up : Bool} (h0 : 0 ≤ sig) {r : List Int} (hr : ∀ a ∈ r, (0 ≤ a ∧ a.toNat < x.codes.length) ∧ a ∈ excS x sig up) {q : List Int × Nat} (h : QLoop x (Lab.mk sig up) r q) (hq : ¬ q.2 < q.1.length) : tidI q.1 = quietL x sig r := by
  refine rising_ext (rise_int.1 (tid_rise linI q.1)) (setL_rising _ _) fun a => ?_
  rw [tidI, tid_mem linI, h.inv.done (fun b hbm c hc => by
    obtain ⟨i, hi, rfl⟩ := List.mem_iff_getElem.1 hbm
    refine h.done i (by omega) hi c ?_
    rwa [show q.1.getD i default = q.1[i] by simp [hi]])]
  unfold quietL
  rw [setL_mem]
  have hm0 := mq0_mem (sig := sig) (r := r) hx.ends x.arcs.length (Nat.le_refl _)
  have hreach := markC_reach (nxq x sig) hx.ends (mq0_len x sig r _ (Nat.le_refl _))
  have hbase : ∀ b : Int, S0 x (Lab.mk sig up) r x.arcs.length b ↔ (0 ≤ b ∧ (mq0 x sig r x.arcs.length).getD b.toNat default = true) := by
    intro b
    unfold S0
    constructor
    · rintro ⟨e, he, h1, h2, rfl⟩
      have hen := hx.ends e (List.mem_of_mem_take he)
      refine ⟨hen.2.1, (hm0 _).2 ⟨e, he, ?_, by omega⟩⟩
      unfold isEd at h1
      simp only [Bool.and_eq_true, decide_eq_true_iff] at h1
      exact ⟨h1.2, h1.1.1, h2⟩
    · rintro ⟨hb, h1⟩
      obtain ⟨e, he, ⟨h2, h3, h4⟩, h5⟩ := (hm0 _).1 h1
      have hea := List.mem_of_mem_take he
      have hen := hx.ends e hea
      refine ⟨e, he, ?_, h4, by omega⟩
      obtain ⟨hb2, hin⟩ := hr _ (hasI_mem.1 h2)
      have h6 := exc_bit hx (k := e.src.toNat) (by omega) (sig := sig) (up := up) h0
      rw [show (e.src.toNat : Int) = e.src by omega, hasI_mem.2 hin] at h6
      have h7 := (Bool.and_eq_true_iff.1 h6.symm).2
      rw [decide_eq_true_iff] at h7
      have h8 := arc_bit hx hea (by omega)
      rw [h3, h7] at h8
      have h9 : e.up = up := by cases hu : e.up <;> cases up <;> rw [hu] at h8 <;> first | rfl | cases h8
      unfold isEd
      rw [decide_eq_true h3, decide_eq_true h9, h2]; rfl
  constructor
  · intro ha
    have hb : 0 ≤ a ∧ a.toNat < x.codes.length := Rch.ind (fun a => 0 ≤ a ∧ a.toNat < x.codes.length) (fun b hb => by
      obtain ⟨e, he, _, _, rfl⟩ := hb
      exact (hx.ends e (List.mem_of_mem_take he)).2) (fun b c _ e => by
      obtain ⟨e', he', rfl, rfl, _⟩ := e
      exact (hx.ends e' he').2) ha
    refine ⟨hb, (hreach a.toNat).2 ?_⟩
    rw [show (a.toNat : Int) = a by omega]
    exact Rch.mono (fun _ _ h => h) (fun b hb => (hbase b).1 hb) ha
  · rintro ⟨hb, h1⟩
    have h2 := (hreach a.toNat).1 h1
    rw [show (a.toNat : Int) = a by omega] at h2
    exact Rch.mono (fun _ _ h => h) (fun b hb => (hbase b).2 hb) h2

def inL (x : Sgr) (sig : Int) (up : Bool) : List Bool := (List.range x.codes.length).map fun k : Nat => hasI (excS x sig up) (k : Int)

theorem inL_len (x : Sgr) (sig : Int) (up : Bool) : (inL x sig up).length = x.codes.length := by simp [inL]

theorem inL_at {x : Sgr} {sig : Int} {up : Bool} {k : Nat} (hk : k < x.codes.length) : (inL x sig up).getD k default = hasI (excS x sig up) (k : Int) := by simp [inL, hk]

theorem inL_set {x : Sgr} {sig : Int} {up : Bool} {k : Nat} {b : Bool} (hk : k < x.codes.length) (h : hasI (excS x sig up) (k : Int) = b) : (fill (inL x sig up) default k).set k b = fill (inL x sig up) default (k + 1) := by
 rw [← fill_set (inL x sig up) default default (k := k) (by rw [inL_len]; exact hk), inL_at hk, h]

theorem inL_yes {x : Sgr} (hx : SgOk x) {sig : Int} {up : Bool} {k : Nat} (hk : k < x.codes.length) (hs : 0 ≤ sig ∧ sig.toNat < x.sigs.length) (h : excB x (k : Int) sig = true) : (fill (inL x sig up) default k).set k (decide ([(x.codes.getD k default).getD sig.toNat 0] = [bitN (!up)])) = fill (inL x sig up) default (k + 1) := by
 refine inL_set hk ?_
 rw [exc_bit hx hk hs.1, h, Bool.true_and, bit_cmp (code_bit hx hk hs)]

theorem inL_no {x : Sgr} (hx : SgOk x) {sig : Int} {up : Bool} {k : Nat} (hk : k < x.codes.length) (h0 : 0 ≤ sig) (h : excB x (k : Int) sig = false) : (fill (inL x sig up) default k).set k false = fill (inL x sig up) default (k + 1) := by
 refine inL_set hk ?_
 rw [exc_bit hx hk h0, h]; rfl

theorem fill_setV {τ : Type} {l : List τ} {d : τ} {k : Nat} {v : τ} [Inhabited τ] (hk : k < l.length) (hv : l.getD k default = v) : (fill l d k).set k v = fill l d (k + 1) := by
 rw [← fill_set l d default hk, hv]

theorem range_at {n k : Nat} (h : k < n) : (List.range n).getD k default = k := by simp [h]

def pTo (x : Sgr) (S : List Int) (k m : Nat) : List Nat := (x.arcs.take m).foldl (lst (inb S)) (itN (x.arcs.foldl (lst (inb S))) k (List.range x.codes.length))

theorem pTo_len (x : Sgr) (S : List Int) (k m : Nat) : (pTo x S k m).length = x.codes.length := by rw [pTo, lsts_len, its_len, List.length_range]

theorem pTo_next {x : Sgr} {S : List Int} {k m : Nat} (h : x.arcs.length ≤ m) : pTo x S k m = pTo x S (k + 1) 0 := by
 unfold pTo; rw [List.take_of_length_le h]; rfl

theorem pTo_succ {x : Sgr} {S : List Int} {k m : Nat} (h : m < x.arcs.length) : pTo x S k (m + 1) = lst (inb S) (pTo x S k m) (x.arcs.getD m default) := by
 have hg : x.arcs.getD m default = x.arcs[m] := by simp [h]
 unfold pTo
 rw [List.take_succ_eq_append_getElem h, List.foldl_append, hg]; rfl

theorem pTo_yes {x : Sgr} {sig : Int} {up : Bool} {k m : Nat} (hen : ends x.codes.length x.arcs) (h : m < x.arcs.length) (h1 : (inL x sig up).getD (x.arcs.getD m default).src.toNat default = true) (h2 : (inL x sig up).getD (x.arcs.getD m default).dst.toNat default = true) :
  ((pTo x (excS x sig up) k m).set (x.arcs.getD m default).src.toNat (min ((pTo x (excS x sig up) k m).getD (x.arcs.getD m default).src.toNat default) ((pTo x (excS x sig up) k m).getD (x.arcs.getD m default).dst.toNat default))).set (x.arcs.getD m default).dst.toNat (min ((pTo x (excS x sig up) k m).getD (x.arcs.getD m default).src.toNat default) ((pTo x (excS x sig up) k m).getD (x.arcs.getD m default).dst.toNat default)) = pTo x (excS x sig up) k (m + 1) := by
 have he := hen _ (getD_mem (l := x.arcs) (j := m) (d := default) h)
 rw [inL_at he.1.2, show ((x.arcs.getD m default).src.toNat : Int) = (x.arcs.getD m default).src by omega] at h1
 rw [inL_at he.2.2, show ((x.arcs.getD m default).dst.toNat : Int) = (x.arcs.getD m default).dst by omega] at h2
 rw [pTo_succ h, lst, inb, h1, h2]; rfl

theorem pTo_no1 {x : Sgr} {sig : Int} {up : Bool} {k m : Nat} (hen : ends x.codes.length x.arcs) (h : m < x.arcs.length) (h1 : (inL x sig up).getD (x.arcs.getD m default).src.toNat default = false) : pTo x (excS x sig up) k m = pTo x (excS x sig up) k (m + 1) := by
 have he := hen _ (getD_mem (l := x.arcs) (j := m) (d := default) h)
 rw [inL_at he.1.2, show ((x.arcs.getD m default).src.toNat : Int) = (x.arcs.getD m default).src by omega] at h1
 rw [pTo_succ h, lst, inb, h1]; rfl

theorem pTo_no2 {x : Sgr} {sig : Int} {up : Bool} {k m : Nat} (hen : ends x.codes.length x.arcs) (h : m < x.arcs.length) (h2 : (inL x sig up).getD (x.arcs.getD m default).dst.toNat default = false) : pTo x (excS x sig up) k m = pTo x (excS x sig up) k (m + 1) := by
 have he := hen _ (getD_mem (l := x.arcs) (j := m) (d := default) h)
 rw [inL_at he.2.2, show ((x.arcs.getD m default).dst.toNat : Int) = (x.arcs.getD m default).dst by omega] at h2
 rw [pTo_succ h, lst, inb, h2]; simp

theorem pTo_end {x : Sgr} {S : List Int} {k : Nat} (h : x.codes.length = k) : pTo x S k 0 = labF S x.arcs x.codes.length := by subst h; rfl

def clsK (x : Sgr) (S : List Int) (k i : Nat) : List Int := selTo i (fun i => hasI S (i : Int) && decide (labAt S x.arcs x.codes.length i = k)) fun i => (i : Int)

theorem clsK_le (x : Sgr) (S : List Int) (k i : Nat) : (clsK x S k i).length ≤ i := selTo_le _ _ _

theorem clsK_all {x : Sgr} {S : List Int} {k i : Nat} (h : x.codes.length = i) : clsK x S k i = clsL S x.arcs x.codes.length k := by subst h; rfl

theorem clsK_yes {x : Sgr} {sig : Int} {up : Bool} {k i : Nat} (hi : i < x.codes.length) (h1 : (inL x sig up).getD i default = true) (h2 : ((labF (excS x sig up) x.arcs x.codes.length).getD i default : Int) = (k : Int)) : clsK x (excS x sig up) k i ++ [(i : Int)] = clsK x (excS x sig up) k (i + 1) := by
 refine selTo_yes (f := fun i : Nat => (i : Int)) ?_
 rw [← inL_at hi, h1, Bool.true_and]
 refine decide_eq_true ?_
 unfold labAt; omega

theorem clsK_no1 {x : Sgr} {sig : Int} {up : Bool} {k i : Nat} (hi : i < x.codes.length) (h1 : (inL x sig up).getD i default = false) : clsK x (excS x sig up) k i = clsK x (excS x sig up) k (i + 1) := by
 refine selTo_no ?_
 rw [← inL_at hi, h1]; rfl

theorem clsK_no2 {x : Sgr} {sig : Int} {up : Bool} {k i : Nat} (h2 : ¬ ((labF (excS x sig up) x.arcs x.codes.length).getD i default : Int) = (k : Int)) : clsK x (excS x sig up) k i = clsK x (excS x sig up) k (i + 1) := by
 refine selTo_no ?_
 rw [decide_eq_false, Bool.and_false]
 unfold labAt; omega

theorem reg_yes {S : List Int} {l : List Arc} {n k : Nat} (h : 0 < (clsL S l n k).length) : regTo S l n k ++ [clsL S l n k] = regTo S l n (k + 1) := selTo_yes (f := clsL S l n) (decide_eq_true h)

theorem reg_no {S : List Int} {l : List Arc} {n k : Nat} (h : ¬ 0 < (clsL S l n k).length) : regTo S l n k = regTo S l n (k + 1) := selTo_no (decide_eq_false h)

def exR (x : Sgr) (sig : Int) (up : Bool) : List (List Int) := regL (excS x sig up) x.arcs x.codes.length

theorem exR_le (x : Sgr) (sig : Int) (up : Bool) : (exR x sig up).length ≤ x.codes.length := regTo_le _ _ _ _

theorem exR_in {x : Sgr} {sig : Int} {up : Bool} : ∀ r ∈ exR x sig up, r.length ≤ x.codes.length ∧ Rising r ∧ ∀ a ∈ r, (0 ≤ a ∧ a.toNat < x.codes.length) ∧ a ∈ excS x sig up := regL_in

theorem setok {x : Sgr} (hx : SgOk x) (sig : Int) (up : Bool) : SetOk (excS x sig up) x.arcs x.codes.length := ⟨hx.ends, excTo_rising x sig up _, fun a ha => (setL_mem.1 ha).1⟩

theorem sp_spec_l1Least (a b : Nat) : Sp Tryz.prog 154 [(.int .i64 (a : Int)), (.int .i64 (b : Int))] [.any, .any] (.int .i64 ((min a b : Nat) : Int)) := by
 refine Sp_intro (lend := true) Tryz.func154 rfl rfl rfl (fun _ => rfl) (fun c hc hX => ?_)
 refine T_seq (T_region hc (Ch.s (.d (.int .i64 0)) pa (Ch.nil (T_seq (T_seq (T_region hc (Ch.s (.d (.int .i64 (a : Int))) pm ?_)))))))
 refine Ch.s (.d (.int .i64 (b : Int))) pm (Ch.s (.d (.bool (decide ((a : Int) < (b : Int))))) (iX rfl rfl rfl) (Ch.nil ?_))
 refine T_condD (p := ((a : Int) < (b : Int))) rfl (fun h1 => ?_) (fun h1 => ?_)
 ·
  refine T_seq (T_region hc (Ch.s (.d (.int .i64 (a : Int))) pm (Ch.s (.d (.int .i64 (a : Int))) pa (Ch.nil (T_ret ?_)))))
  exact endR [(.d (.int .i64 (a : Int)))] [] [] (.cons (.tmp 4 rfl) .nil) (.cons (.any _) (.cons (.any _) .nil)) (Exp.of (congrArg (D.int .i64) (by omega)) (.d _)) rfl rfl
 ·
  refine T_skip (T_seq (T_region hc (Ch.s (.d (.int .i64 (b : Int))) pm (Ch.s (.d (.int .i64 (b : Int))) pa (Ch.nil (T_ret ?_))))))
  exact endR [(.d (.int .i64 (b : Int)))] [] [] (.cons (.tmp 4 rfl) .nil) (.cons (.any _) (.cons (.any _) .nil)) (Exp.of (congrArg (D.int .i64) (by omega)) (.d _)) rfl rfl

set_option maxHeartbeats 1000000 in
theorem sp_spec_l17In (x : Sgr) (sig : Int) (up : Bool) (hb : x.bulk ≤ 1048576) (hx : SgOk x) (hs : 0 ≤ sig ∧ sig.toNat < x.sigs.length) : Sp Tryz.prog 153 [(.agg [(.slice false 2 (x.sigs.map Sgn.d)), (.slice false 1 (x.codes.map D.str)), (.slice false 4 (x.arcs.map Arc.d))]), (.int .i64 sig), (.bool (up))] [.any, .any, .any] (.slice true 1 ((inL x sig up).map D.bool)) := by
 refine Sp_intro (lend := true) Tryz.func153 rfl rfl rfl (fun _ => rfl) (fun c hc hX => ?_)
 obtain ⟨hp0, hp1, hp2⟩ := Sgr.parts hb
 have hn0 := bulkF_len hp0
 have hn1 := bulk_len hp1
 have hx1 := bulk_mem hp1
 have hn2 := bulkF_len hp2; have hxl := hx.len; have hxf := hx.few; have hen := hx.ends; have hx8 := hx.eight; have hil := inL_len x sig up; have hck := codes_at hx.codes
 refine T_seq (T_region hc (Ch.s (.ptr 3000 0) (.box 3000 _ _ rfl (.aggD _)) (Ch.s (.c (.slice none 0 0)) pa (Ch.nil (T_seq (T_region hc (Ch.s (.ptr 3000 1) (.pure (.fldPtr _ _ _ rfl fld35_1 rfl)) ?_)))))))
 refine Ch.s (.d (.slice false 1 (x.codes.map D.str))) (.pure (.loadPtr1 _ _ rfl ag23 rfl rfl rfl)) (Ch.s (.d (.int .i64 (x.codes.length : Int))) (.pure (.len _ _ 9 rfl Tryz.underlying23 (.sh _ _) (by simp))) (Ch.s (.row 13000) (.make 13000 _ 4 _ _ (x.codes.length) (x.codes.length) rfl sty146 rfl rfl rfl rfl a43 a43 a43 (zeroD_mk (zd := (.bool false)) zr4 a120 rfl)) (Ch.s (.row 13000) pa (Ch.nil (T_seq (T_seq (T_region hc ?_)))))))
 refine Ch.s (.ptr 3000 1) (.pure (.fldPtr _ _ _ rfl fld35_1 rfl)) (Ch.s (.d (.slice false 1 (x.codes.map D.str))) (.pure (.loadPtr1 _ _ rfl ag23 rfl rfl rfl)) (Ch.s (.d (.int .i64 (x.codes.length : Int))) (.pure (.len _ _ 9 rfl Tryz.underlying23 (.sh _ _) (by simp))) (Ch.s (.d (.int .i64 0)) pm (Ch.nil (T_block ?_)))))
 refine T_loop (ι := Nat) (fun k => { n := 42, sl := [(1, (.d (.int .i64 sig))), (2, (.d (.bool (up)))), (3, (.ptr 3000 0)), (7, (.row 7)), (15, (.d (.slice false 1 (x.codes.map D.str)))), (16, (.d (.int .i64 (x.codes.length : Int)))), (17, (.d (.int .i64 (k : Int))))], hp := [(7, (some (.row 1 ((fill (inL x sig up) default k).map D.bool)))), (3000, (some (.box (vX x))))], pin := [] }) (fun k => k ≤ x.codes.length) (fun k => x.codes.length - k) ⟨0, (by omega), (Wk.ren [(7, 13000)] rfl rfl rfl rfl (ai rfl (ai rfl (ai rfl (ai rfl (ai rfl (ai rfl (ai (vI a114) trivial))))))) (ai (oR a34) (ai rfl trivial)))⟩ (fun k hp0 => ?_)
 refine T_seq (T_region hc (Ch.s (.d (.bool (decide ((k : Int) < (x.codes.length : Int))))) (iX rfl rfl rfl) (Ch.nil (T_seq ?_))))
 refine T_condD (p := ((k : Int) < (x.codes.length : Int))) rfl (fun h1 => ?_) (fun h1 => ?_)
 ·
  try have hlk : (x.codes.getD k default).length = x.sigs.length := (hck (k : Int) (by omega) (by omega)).2
  refine T_skip (T_seq (T_block (T_seq (T_region hc (Ch.s (.d (.int .i64 (k : Int))) pm (Ch.s (.d (.ref (.str (x.codes.getD k default)))) (.pure (.idx _ _ _ 9 (k) rfl Tryz.underlying23 sz9 rfl rfl rfl get_mapA)) (Ch.s (.d (.str (x.codes.getD k default))) (.pure (.loadRef1 _ _ rfl ag9 rfl rfl)) ?_)))))))
  refine Ch.s (.d (.int .i64 (k : Int))) pa (Ch.s (.d (.str (x.codes.getD k default))) pa (Ch.nil ?_))
  refine T_regionD hc (by kernel_rfl) ?_
  refine ChD.s (.row 7) [] pm (ChD.s (.d (.int .i64 (k : Int))) [] pm (ChD.s (.agg (vX x)) [3000] (.pure (.loadPtrA _ _ rfl ag35 sz35 rfl rfl (lb rfl) rfl)) (ChD.s (.d (.int .i64 (k : Int))) [] pm (ChD.s (.d (.int .i64 sig)) [] pm (ChD.s (.d (.bool (excB x (k : Int) sig))) [] (.call 27000 158 _ _ _ en158 rfl (.inl rfl) (.cons lX (.cons (.d _) (.cons (.d _) .nil))) rfl rfl (sp_spec_l5Excited x (k : Int) sig a39) (.skip _ _ (.skip _ _ (.skip _ _ .nil))) rfl) (ChD.s (.d (.bool (excB x (k : Int) sig))) [] pm ?_))))))
  cases h2 : (excB x (k : Int) sig) with
  | true =>
   try have hlk : (x.codes.getD k default).length = x.sigs.length := (hck (k : Int) (by omega) (by omega)).2
   refine ChD.s (.d (.str (x.codes.getD k default))) [] pm (ChD.s (.d (.int .i64 sig)) [] pm (ChD.s (.d (.int .i64 sig)) [] pm (ChD.s (.d (.int .i64 (sig + 1))) [] (iX rfl rfl intV_addA) (ChD.s (.d (.str [(x.codes.getD k default).getD ((sig).toNat) 0])) [] (.pure (.sliceStr _ _ _ _ ((sig).toNat) (((sig + 1)).toNat) rfl Tryz.underlying9 rfl (bndS rfl (by omega)) (bndS rfl (by omega)) a43 a43 (slice_oneI a43 (by omega)))) (ChD.s (.d (.bool (up))) [] pm (ChD.s (.d (.bool (!(up)))) [] (.pure (.not _ _ rfl rfl)) (ChD.s (.d (.str ([bitN (!(up))]))) [] (.call 36000 214 _ _ _ en214 rfl (.inl rfl) (.cons (.d _) .nil) rfl rfl (sp_spec_l5Bit (!(up))) (.skip _ _ .nil) rfl) ?_)))))))
   refine ChD.s (.d (.bool (decide ([(x.codes.getD k default).getD ((sig).toNat) 0] = ([bitN (!(up))]))))) [] (.pure (.str _ _ _ _ _ rfl rfl rfl rfl)) (ChD.s (.d (.bool (decide ([(x.codes.getD k default).getD ((sig).toNat) 0] = ([bitN (!(up))]))))) [] (.pure (.pickT _ _ _ rfl rfl rfl)) (ChD.s (.el 7 1 k 0) [7] (.pure (.idxRow _ _ _ 4 (k) rfl Tryz.underlying146 sz4 rfl rfl rfl rfl a86)) (ChD.s .junk [7] (.storeEl (y' := (.bool (decide ([(x.codes.getD k default).getD ((sig).toNat) 0] = ([bitN (!(up))]))))) _ _ _ rfl rfl rfl (.d _) rfl sz4 rfl get_mapA rfl rfl) ?_)))
   refine ChD.nil (And.intro ?_ (by kernel_rfl))
   refine T_region hc (Ch.s (.d (.int .i64 ((k : Int) + 1))) (iX rfl rfl intV_addA) (Ch.s (.d (.int .i64 ((k : Int) + 1))) pm (Ch.nil ?_)))
   exact nx (k + 1) (by omega) (Wk.of rfl rfl (ai rfl (ai rfl (ai rfl (ai rfl (ai rfl (ai rfl (ai (vI a114) trivial))))))) (ai (oR a34) (ai rfl trivial)))
  | false =>
   try have hlk : (x.codes.getD k default).length = x.sigs.length := (hck (k : Int) (by omega) (by omega)).2
   refine ChD.skip rfl rfl (ChD.skip rfl rfl (ChD.skip rfl rfl (ChD.skip rfl rfl (ChD.skip rfl rfl (ChD.skip rfl rfl (ChD.skip rfl rfl (ChD.skip rfl rfl ?_)))))))
   refine ChD.skip rfl rfl (ChD.s (.d (.bool false)) [] (.pure (.pickF _ _ _ rfl rfl rfl)) (ChD.s (.el 7 1 k 0) [7] (.pure (.idxRow _ _ _ 4 (k) rfl Tryz.underlying146 sz4 rfl rfl rfl rfl a86)) (ChD.s .junk [7] (.storeEl (y' := (.bool false)) _ _ _ rfl rfl rfl (.d _) rfl sz4 rfl get_mapA rfl rfl) ?_)))
   refine ChD.nil (And.intro ?_ (by kernel_rfl))
   refine T_region hc (Ch.s (.d (.int .i64 ((k : Int) + 1))) (iX rfl rfl intV_addA) (Ch.s (.d (.int .i64 ((k : Int) + 1))) pm (Ch.nil ?_)))
   exact nx (k + 1) (by omega) (Wk.of rfl rfl (ai rfl (ai rfl (ai rfl (ai rfl (ai rfl (ai rfl (ai (vI a114) trivial))))))) (ai (oR a34) (ai rfl trivial)))
 ·
  try have hlk : (x.codes.getD k default).length = x.sigs.length := (hck (k : Int) (by omega) (by omega)).2
  refine T_exit (T_seq (T_region hc (Ch.s (.row 7) pm (Ch.s (.row 7) pa (Ch.nil (T_ret ?_))))))
  exact endR [(.row 7)] [] [7] (.cons (.tmp 6 rfl) .nil) (.cons (.any _) (.cons (.any _) (.cons (.any _) .nil))) (Exp.of (congrArg (D.slice true 1) (by rw [fill_all _ _ (by omega)])) (.row rfl)) rfl rfl

set_option maxHeartbeats 2000000 in
theorem sp_spec_l17Regions (x : Sgr) (sig : Int) (up : Bool) (hb : x.bulk ≤ 1048576) (hx : SgOk x) (hs : 0 ≤ sig ∧ sig.toNat < x.sigs.length) : Sp Tryz.prog 86 [(.agg [(.slice false 2 (x.sigs.map Sgn.d)), (.slice false 1 (x.codes.map D.str)), (.slice false 4 (x.arcs.map Arc.d))]), (.int .i64 sig), (.bool (up))] [.any, .any, .any] (.slice true 1 ((exR x sig up).map intsU)) := by
 refine Sp_intro (lend := true) Tryz.func86 rfl rfl rfl (fun _ => rfl) (fun c hc hX => ?_)
 obtain ⟨hp0, hp1, hp2⟩ := Sgr.parts hb
 have hn0 := bulkF_len hp0
 have hn1 := bulk_len hp1
 have hx1 := bulk_mem hp1
 have hn2 := bulkF_len hp2; have hxl := hx.len; have hxf := hx.few; have hen := hx.ends; have hx8 := hx.eight; have hil := inL_len x sig up; have hck := codes_at hx.codes
 refine T_seq (T_region hc (Ch.s (.ptr 3000 0) (.box 3000 _ _ rfl (.aggD _)) (Ch.s (.c (.slice none 0 0)) pa (Ch.nil (T_seq (T_region hc (Ch.s (.agg (vX x)) (.pure (.loadPtrA _ _ rfl ag35 sz35 rfl rfl (lb rfl) rfl)) ?_)))))))
 refine Ch.s (.d (.int .i64 sig)) pm (Ch.s (.d (.bool (up))) pm ?_)
 refine Ch.step (v := (.row 20000)) rfl (.call 20000 153 _ _ _ en153 rfl (.inl rfl) (.cons lX (.cons (.d _) (.cons (.d _) .nil))) rfl (sol (solid_row (fun _ => rfl) _) rfl) (sp_spec_l17In x sig (up) a39 (by assumption) a123) (.skip _ _ (.skip _ _ (.skip _ _ .nil))) rfl) rfl rfl ?_
 refine Ch.s (.row 20000) pa (Ch.nil (T_seq (T_region hc (Ch.s (.row 20000) pm (Ch.s (.d (.int .i64 ((inL x sig (up)).length : Int))) (.pure (.len _ _ 4 rfl Tryz.underlying146 (.row rfl) (by simp))) (Ch.s (.row 23000) (.make 23000 _ 3 _ _ ((inL x sig (up)).length) ((inL x sig (up)).length) rfl sty55 rfl rfl rfl rfl a43 a43 a43 (zeroD_mk (zd := (.int .i64 0)) zr3 a120 rfl)) (Ch.s (.row 23000) pa ?_)))))))
 refine Ch.nil (T_seq (T_seq (T_region hc (Ch.s (.row 23000) pm (Ch.s (.d (.int .i64 ((inL x sig (up)).length : Int))) (.pure (.len _ _ 3 rfl Tryz.underlying55 (.row rfl) List.length_replicate)) (Ch.s (.d (.int .i64 0)) pm (Ch.nil ?_)))))))
 refine T_block ?_
 refine T_loop (ι := Nat) (fun k => { n := 116, sl := [(3, (.ptr 3000 0)), (7, (.row 20000)), (8, (.row 8)), (25, (.d (.int .i64 ((inL x sig (up)).length : Int)))), (26, (.d (.int .i64 (k : Int))))], hp := [(8, (some (.row 1 ((fill (List.range x.codes.length) default k).map (fun n : Nat => D.int .i64 (n : Int)))))), (3000, (some (.box (vX x)))), (20000, (some (.row 1 ((inL x sig (up)).map D.bool))))], pin := [] }) (fun k => k ≤ x.codes.length) (fun k => x.codes.length - k) ⟨0, (by omega), (Wk.ren [(8, 23000)] rfl rfl rfl rfl (ai rfl (ai rfl (ai rfl (ai rfl (ai (vI a114) trivial))))) (ai (oR a40) (ai rfl (ai rfl trivial))))⟩ (fun k hp0 => ?_)
 refine T_seq (T_region hc (Ch.s (.d (.bool (decide ((k : Int) < ((inL x sig (up)).length : Int))))) (iX rfl rfl rfl) (Ch.nil (T_seq ?_))))
 refine T_condD (p := ((k : Int) < ((inL x sig (up)).length : Int))) rfl (fun h1 => ?_) (fun h1 => ?_)
 ·
  refine T_skip (T_seq (T_block (T_seq (T_region hc (Ch.s (.d (.int .i64 (k : Int))) pm (Ch.s (.d (.int .i64 (k : Int))) pa (Ch.nil ?_)))))))
  refine T_region hc (Ch.s (.row 8) pm (Ch.s (.d (.int .i64 (k : Int))) pm (Ch.s (.d (.int .i64 (k : Int))) pm (Ch.s (.el 8 1 k 0) (.pure (.idxRow _ _ _ 3 (k) rfl Tryz.underlying55 sz3 rfl rfl rfl rfl a86)) (Ch.s .junk (.storeEl (y' := (.int .i64 (k : Int))) _ _ _ rfl rfl rfl (.d _) rfl sz3 rfl get_mapA rfl rfl) (Ch.nil (T_region hc ?_)))))))
  refine Ch.s (.d (.int .i64 ((k : Int) + 1))) (iX rfl rfl intV_addA) (Ch.s (.d (.int .i64 ((k : Int) + 1))) pm (Ch.nil ?_))
  exact nx (k + 1) (by omega) (Wk.of rfl rfl (ai rfl (ai rfl (ai rfl (ai rfl (ai (vI a114) trivial))))) (ai (oR a40) (ai rfl (ai rfl trivial))))
 ·
  refine T_exit (T_seq (T_seq (T_region hc (Ch.s (.row 20000) pm (Ch.s (.d (.int .i64 ((inL x sig (up)).length : Int))) (.pure (.len _ _ 4 rfl Tryz.underlying146 (.row rfl) (by simp))) (Ch.s (.d (.int .i64 0)) pm (Ch.nil ?_)))))))
  refine T_block ?_
  refine T_loop (ι := Nat) (fun p => { n := 116, sl := [(3, (.ptr 3000 0)), (7, (.row 20000)), (8, (.row 8)), (35, (.d (.int .i64 ((inL x sig (up)).length : Int)))), (36, (.d (.int .i64 (p : Int))))], hp := [(8, (some (.row 1 ((pTo x (excS x sig up) p 0).map (fun n : Nat => D.int .i64 (n : Int)))))), (3000, (some (.box (vX x)))), (20000, (some (.row 1 ((inL x sig (up)).map D.bool))))], pin := [] }) (fun p => p ≤ x.codes.length) (fun p => x.codes.length - p) ⟨0, (by omega), (Wk.of rfl rfl (ai rfl (ai rfl (ai rfl (ai rfl (ai (vI a114) trivial))))) (ai (oR a87) (ai rfl (ai rfl trivial))))⟩ (fun p hp1 => ?_)
  refine T_seq (T_region hc (Ch.s (.d (.bool (decide ((p : Int) < ((inL x sig (up)).length : Int))))) (iX rfl rfl rfl) (Ch.nil (T_seq ?_))))
  refine T_condD (p := ((p : Int) < ((inL x sig (up)).length : Int))) rfl (fun h2 => ?_) (fun h2 => ?_)
  ·
   refine T_skip (T_seq (T_block (T_seq (T_region hc (Ch.s (.ptr 3000 2) (.pure (.fldPtr _ _ _ rfl fld35_2 rfl)) (Ch.s (.d (.slice false 4 (x.arcs.map Arc.d))) (.pure (.loadPtr1 _ _ rfl ag33 rfl rfl rfl)) (Ch.s (.d (.int .i64 (x.arcs.length : Int))) (.pure (.len _ _ 125 rfl Tryz.underlying33 (.sh _ _) (by simp))) ?_)))))))
   refine Ch.s (.d (.int .i64 0)) pm (Ch.nil (T_block ?_))
   refine T_loop (ι := Nat) (fun m => { n := 116, sl := [(3, (.ptr 3000 0)), (7, (.row 20000)), (8, (.row 8)), (35, (.d (.int .i64 ((inL x sig (up)).length : Int)))), (36, (.d (.int .i64 (p : Int)))), (39, (.d (.slice false 4 (x.arcs.map Arc.d)))), (40, (.d (.int .i64 (x.arcs.length : Int)))), (41, (.d (.int .i64 (m : Int))))], hp := [(8, (some (.row 1 ((pTo x (excS x sig up) p m).map (fun n : Nat => D.int .i64 (n : Int)))))), (3000, (some (.box (vX x)))), (20000, (some (.row 1 ((inL x sig (up)).map D.bool))))], pin := [] }) (fun m => m ≤ x.arcs.length) (fun m => x.arcs.length - m) ⟨0, (by omega), (Wk.of rfl rfl (ai rfl (ai rfl (ai rfl (ai rfl (ai rfl (ai rfl (ai rfl (ai (vI a114) trivial)))))))) (ai rfl (ai rfl (ai rfl trivial))))⟩ (fun m hp2 => ?_)
   have hpl := pTo_len x (excS x sig up) p m
   refine T_seq (T_region hc (Ch.s (.d (.bool (decide ((m : Int) < (x.arcs.length : Int))))) (iX rfl rfl rfl) (Ch.nil (T_seq ?_))))
   refine T_condD (p := ((m : Int) < (x.arcs.length : Int))) rfl (fun h3 => ?_) (fun h3 => ?_)
   ·
    try have hek := hen _ (getD_mem (l := x.arcs) (j := m) (d := default) (by omega))
    refine T_skip (T_seq (T_block (T_seq (T_region hc (Ch.s (.d (.ref (.agg [(.int .i64 ((x.arcs.getD m default).src)), (.int .i64 ((x.arcs.getD m default).sig)), (.bool ((x.arcs.getD m default).up)), (.int .i64 ((x.arcs.getD m default).dst))]))) (.pure (.idx _ _ _ 125 (m) rfl Tryz.underlying33 sz125 rfl rfl rfl get_mapA)) (Ch.s (.d (.agg [(.int .i64 ((x.arcs.getD m default).src)), (.int .i64 ((x.arcs.getD m default).sig)), (.bool ((x.arcs.getD m default).up)), (.int .i64 ((x.arcs.getD m default).dst))])) (.pure (.loadRefA _ _ rfl ag125 sz125 rfl)) (Ch.s (.ptr 11000 0) (.alloc 11000 _ rfl zer125) ?_)))))))
    refine Ch.s .junk (.storePtr _ _ _ rfl rfl rfl (.aggD _) sz125 (lb rfl)) (Ch.nil (T_seq (T_region hc (Ch.s (.row 20000) pm (Ch.s (.ptr 11000 0) (.pure (.fldPtr _ _ _ rfl fld125_0 rfl)) (Ch.s (.d (.int .i64 ((x.arcs.getD m default).src))) (.pure (.loadPtr1 _ _ rfl ag3 rfl rfl rfl)) (Ch.s (.el 20000 1 ((((x.arcs.getD m default).src)).toNat) 0) (.pure (.idxRow _ _ _ 4 ((((x.arcs.getD m default).src)).toNat) rfl Tryz.underlying146 sz4 rfl rfl rfl (by omega) a86)) ?_)))))))
    refine Ch.s (.d (.bool (((inL x sig (up)).getD ((((x.arcs.getD m default).src)).toNat) default)))) (.pure (.loadEl1 _ _ rfl ag4 rfl rfl get_mapA rfl rfl rfl)) (Ch.s (.d (.bool (((inL x sig (up)).getD ((((x.arcs.getD m default).src)).toNat) default)))) pm ?_)
    cases h4 : (((inL x sig (up)).getD ((((x.arcs.getD m default).src)).toNat) default)) with
    | true =>
     refine Ch.s (.row 20000) pm (Ch.s (.ptr 11000 3) (.pure (.fldPtr _ _ _ rfl fld125_3 rfl)) (Ch.s (.d (.int .i64 ((x.arcs.getD m default).dst))) (.pure (.loadPtr1 _ _ rfl ag3 rfl rfl rfl)) (Ch.s (.el 20000 1 ((((x.arcs.getD m default).dst)).toNat) 0) (.pure (.idxRow _ _ _ 4 ((((x.arcs.getD m default).dst)).toNat) rfl Tryz.underlying146 sz4 rfl rfl rfl (by omega) a86)) (Ch.s (.d (.bool (((inL x sig (up)).getD ((((x.arcs.getD m default).dst)).toNat) default)))) (.pure (.loadEl1 _ _ rfl ag4 rfl rfl get_mapA rfl rfl rfl)) (Ch.s (.d (.bool (((inL x sig (up)).getD ((((x.arcs.getD m default).dst)).toNat) default)))) (.pure (.pickT _ _ _ rfl rfl rfl)) (Ch.nil ?_))))))
     refine T_cond (b := (((inL x sig (up)).getD ((((x.arcs.getD m default).dst)).toNat) default))) rfl (fun h5 => ?_) (fun h5 => ?_)
     ·
      refine T_seq ?_
      refine T_regionD hc (by kernel_rfl) ?_
      refine ChD.s (.row 8) [] pm (ChD.s (.ptr 11000 0) [] (.pure (.fldPtr _ _ _ rfl fld125_0 rfl)) (ChD.s (.d (.int .i64 ((x.arcs.getD m default).src))) [11000] (.pure (.loadPtr1 _ _ rfl ag3 rfl rfl rfl)) (ChD.s (.el 8 1 ((((x.arcs.getD m default).src)).toNat) 0) [8] (.pure (.idxRow _ _ _ 3 ((((x.arcs.getD m default).src)).toNat) rfl Tryz.underlying55 sz3 rfl rfl rfl (by omega) a86)) (ChD.s (.d (.int .i64 (((pTo x (excS x sig up) p m).getD ((((x.arcs.getD m default).src)).toNat) default) : Int))) [8] (.pure (.loadEl1 _ _ rfl ag3 rfl rfl get_mapA rfl rfl rfl)) (ChD.s (.row 8) [] pm (ChD.s (.ptr 11000 3) [] (.pure (.fldPtr _ _ _ rfl fld125_3 rfl)) (ChD.s (.d (.int .i64 ((x.arcs.getD m default).dst))) [11000] (.pure (.loadPtr1 _ _ rfl ag3 rfl rfl rfl)) ?_)))))))
      refine ChD.s (.el 8 1 ((((x.arcs.getD m default).dst)).toNat) 0) [8] (.pure (.idxRow _ _ _ 3 ((((x.arcs.getD m default).dst)).toNat) rfl Tryz.underlying55 sz3 rfl rfl rfl (by omega) a86)) (ChD.s (.d (.int .i64 (((pTo x (excS x sig up) p m).getD ((((x.arcs.getD m default).dst)).toNat) default) : Int))) [8] (.pure (.loadEl1 _ _ rfl ag3 rfl rfl get_mapA rfl rfl rfl)) (ChD.s (.d (.int .i64 ((min ((pTo x (excS x sig up) p m).getD ((((x.arcs.getD m default).src)).toNat) default) ((pTo x (excS x sig up) p m).getD ((((x.arcs.getD m default).dst)).toNat) default) : Nat) : Int))) [] (.call 67000 154 _ _ _ en154 rfl (.inl rfl) (.cons (.d _) (.cons (.d _) .nil)) rfl rfl (sp_spec_l1Least ((pTo x (excS x sig up) p m).getD ((((x.arcs.getD m default).src)).toNat) default) ((pTo x (excS x sig up) p m).getD ((((x.arcs.getD m default).dst)).toNat) default)) (.skip _ _ (.skip _ _ .nil)) rfl) (ChD.s (.d (.int .i64 ((min ((pTo x (excS x sig up) p m).getD ((((x.arcs.getD m default).src)).toNat) default) ((pTo x (excS x sig up) p m).getD ((((x.arcs.getD m default).dst)).toNat) default) : Nat) : Int))) [] pa ?_)))
      refine ChD.nil (And.intro ?_ (by kernel_rfl))
      refine T_seq (T_region hc (Ch.s (.row 8) pm (Ch.s (.ptr 11000 0) (.pure (.fldPtr _ _ _ rfl fld125_0 rfl)) (Ch.s (.d (.int .i64 ((x.arcs.getD m default).src))) (.pure (.loadPtr1 _ _ rfl ag3 rfl rfl rfl)) (Ch.s (.d (.int .i64 ((min ((pTo x (excS x sig up) p m).getD ((((x.arcs.getD m default).src)).toNat) default) ((pTo x (excS x sig up) p m).getD ((((x.arcs.getD m default).dst)).toNat) default) : Nat) : Int))) pm (Ch.s (.el 8 1 ((((x.arcs.getD m default).src)).toNat) 0) (.pure (.idxRow _ _ _ 3 ((((x.arcs.getD m default).src)).toNat) rfl Tryz.underlying55 sz3 rfl rfl rfl (by omega) a86)) (Ch.s .junk (.storeEl (y' := (.int .i64 ((min ((pTo x (excS x sig up) p m).getD ((((x.arcs.getD m default).src)).toNat) default) ((pTo x (excS x sig up) p m).getD ((((x.arcs.getD m default).dst)).toNat) default) : Nat) : Int))) _ _ _ rfl rfl rfl (.d _) rfl sz3 rfl get_mapA rfl rfl) ?_)))))))
      refine Ch.nil (T_region hc (Ch.s (.row 8) pm (Ch.s (.ptr 11000 3) (.pure (.fldPtr _ _ _ rfl fld125_3 rfl)) (Ch.s (.d (.int .i64 ((x.arcs.getD m default).dst))) (.pure (.loadPtr1 _ _ rfl ag3 rfl rfl rfl)) (Ch.s (.d (.int .i64 ((min ((pTo x (excS x sig up) p m).getD ((((x.arcs.getD m default).src)).toNat) default) ((pTo x (excS x sig up) p m).getD ((((x.arcs.getD m default).dst)).toNat) default) : Nat) : Int))) pm (Ch.s (.el 8 1 ((((x.arcs.getD m default).dst)).toNat) 0) (.pure (.idxRow _ _ _ 3 ((((x.arcs.getD m default).dst)).toNat) rfl Tryz.underlying55 sz3 rfl rfl rfl (by omega) a86)) (Ch.s .junk (.storeEl (y' := (.int .i64 ((min ((pTo x (excS x sig up) p m).getD ((((x.arcs.getD m default).src)).toNat) default) ((pTo x (excS x sig up) p m).getD ((((x.arcs.getD m default).dst)).toNat) default) : Nat) : Int))) _ _ _ rfl rfl rfl (.d _) rfl sz3 rfl (get_setM (f := (fun n : Nat => D.int .i64 (n : Int))) (l := pTo x (excS x sig up) p m) (i := (((x.arcs.getD m default).src)).toNat) (v := min ((pTo x (excS x sig up) p m).getD ((((x.arcs.getD m default).src)).toNat) default) ((pTo x (excS x sig up) p m).getD ((((x.arcs.getD m default).dst)).toNat) default)) a86) rfl rfl) ?_)))))))
      refine Ch.nil (T_region hc (Ch.s (.d (.int .i64 ((m : Int) + 1))) (iX rfl rfl intV_addA) (Ch.s (.d (.int .i64 ((m : Int) + 1))) pm (Ch.nil ?_))))
      exact nx (m + 1) (by omega) (Wk.of rfl rfl (ai rfl (ai rfl (ai rfl (ai rfl (ai rfl (ai rfl (ai rfl (ai (vI a114) trivial)))))))) (ai (oR a26) (ai rfl (ai rfl trivial))))
     ·
      refine T_skip (T_region hc (Ch.s (.d (.int .i64 ((m : Int) + 1))) (iX rfl rfl intV_addA) (Ch.s (.d (.int .i64 ((m : Int) + 1))) pm (Ch.nil ?_))))
      exact nx (m + 1) (by omega) (Wk.of rfl rfl (ai rfl (ai rfl (ai rfl (ai rfl (ai rfl (ai rfl (ai rfl (ai (vI a114) trivial)))))))) (ai (oR a26) (ai rfl (ai rfl trivial))))
    | false =>
     refine Ch.skip rfl rfl (Ch.skip rfl rfl (Ch.skip rfl rfl (Ch.skip rfl rfl (Ch.skip rfl rfl (Ch.s (.d (.bool false)) (.pure (.pickF _ _ _ rfl rfl rfl)) (Ch.nil ?_))))))
     refine T_cond (b := false) rfl (fun h => nomatch h) (fun _ => ?_)
     refine T_skip (T_region hc (Ch.s (.d (.int .i64 ((m : Int) + 1))) (iX rfl rfl intV_addA) (Ch.s (.d (.int .i64 ((m : Int) + 1))) pm (Ch.nil ?_))))
     exact nx (m + 1) (by omega) (Wk.of rfl rfl (ai rfl (ai rfl (ai rfl (ai rfl (ai rfl (ai rfl (ai rfl (ai (vI a114) trivial)))))))) (ai (oR a26) (ai rfl (ai rfl trivial))))
   ·
    try have hek := hen _ (getD_mem (l := x.arcs) (j := m) (d := default) (by omega))
    refine T_exit (T_region hc (Ch.s (.d (.int .i64 ((p : Int) + 1))) (iX rfl rfl intV_addA) (Ch.s (.d (.int .i64 ((p : Int) + 1))) pm (Ch.nil ?_))))
    exact nx (p + 1) (by omega) (Wk.of rfl rfl (ai rfl (ai rfl (ai rfl (ai rfl (ai (vI a114) trivial))))) (ai (oR a87) (ai rfl (ai rfl trivial))))
  ·
   refine T_exit (T_seq (T_region hc (Ch.s (.c (.slice none 0 0)) pa (Ch.nil (T_seq (T_seq (T_region hc ?_)))))))
   refine Ch.s (.row 20000) pm (Ch.s (.d (.int .i64 ((inL x sig (up)).length : Int))) (.pure (.len _ _ 4 rfl Tryz.underlying146 (.row rfl) (by simp))) (Ch.s (.d (.int .i64 0)) pm (Ch.nil (T_block ?_))))
   refine T_loop (ι := Nat) (fun k => { n := 116, sl := [(7, (.row 20000)), (8, (.row 8)), (13, (.row 13)), (81, (.d (.int .i64 ((inL x sig (up)).length : Int)))), (82, (.d (.int .i64 (k : Int))))], hp := [(8, (some (.row 1 ((pTo x (excS x sig up) p 0).map (fun n : Nat => D.int .i64 (n : Int)))))), (13, (some (.row 1 ((regTo (excS x sig up) x.arcs x.codes.length k).map intsU)))), (20000, (some (.row 1 ((inL x sig (up)).map D.bool))))], pin := [] }) (fun k => k ≤ x.codes.length) (fun k => x.codes.length - k) ⟨0, (by omega), (Wk.trans (Wk.nilrow 13 900013 1 rfl rfl rfl) (Wk.ren [(13, 900013)] rfl rfl rfl rfl (ai rfl (ai rfl (ai rfl (ai rfl (ai (vI a114) trivial))))) (ai rfl (ai (oR a28) (ai rfl trivial)))))⟩ (fun k hp3 => ?_)
   have hpe := pTo_end (x := x) (S := (excS x sig up)) (k := p) (by omega); have hpl := pTo_len x (excS x sig up) p 0; have hrl := regTo_le (excS x sig up) x.arcs x.codes.length k
   refine T_seq (T_region hc (Ch.s (.d (.bool (decide ((k : Int) < ((inL x sig (up)).length : Int))))) (iX rfl rfl rfl) (Ch.nil (T_seq ?_))))
   refine T_condD (p := ((k : Int) < ((inL x sig (up)).length : Int))) rfl (fun h6 => ?_) (fun h6 => ?_)
   ·
    refine T_skip (T_seq (T_block (T_seq (T_region hc (Ch.s (.d (.int .i64 (k : Int))) pm (Ch.s (.d (.int .i64 (k : Int))) pa (Ch.nil ?_)))))))
    refine T_seq (T_region hc (Ch.s (.c (.slice none 0 0)) pa (Ch.nil (T_seq (T_seq (T_region hc (Ch.s (.row 20000) pm ?_)))))))
    refine Ch.s (.d (.int .i64 ((inL x sig (up)).length : Int))) (.pure (.len _ _ 4 rfl Tryz.underlying146 (.row rfl) (by simp))) (Ch.s (.d (.int .i64 0)) pm (Ch.nil (T_block ?_)))
    refine T_loop (ι := Nat) (fun m => { n := 116, sl := [(7, (.row 20000)), (8, (.row 8)), (13, (.row 13)), (14, (.d (.int .i64 (k : Int)))), (15, (.row 15)), (81, (.d (.int .i64 ((inL x sig (up)).length : Int)))), (82, (.d (.int .i64 (k : Int)))), (86, (.d (.int .i64 ((inL x sig (up)).length : Int)))), (87, (.d (.int .i64 (m : Int))))], hp := [(8, (some (.row 1 ((pTo x (excS x sig up) p 0).map (fun n : Nat => D.int .i64 (n : Int)))))), (13, (some (.row 1 ((regTo (excS x sig up) x.arcs x.codes.length k).map intsU)))), (15, (some (.row 1 ((clsK x (excS x sig up) k m).map (fun n : Int => D.int .i64 n))))), (20000, (some (.row 1 ((inL x sig (up)).map D.bool))))], pin := [] }) (fun m => m ≤ x.codes.length) (fun m => x.codes.length - m) ⟨0, (by omega), (Wk.trans (Wk.nilrow 15 900015 1 rfl rfl rfl) (Wk.ren [(15, 900015)] rfl rfl rfl rfl (ai rfl (ai rfl (ai rfl (ai rfl (ai rfl (ai rfl (ai rfl (ai rfl (ai (vI a114) trivial))))))))) (ai rfl (ai rfl (ai (oR a29) (ai rfl trivial))))))⟩ (fun m hp4 => ?_)
    have hcl := clsK_le x (excS x sig up) k m
    refine T_seq (T_region hc (Ch.s (.d (.bool (decide ((m : Int) < ((inL x sig (up)).length : Int))))) (iX rfl rfl rfl) (Ch.nil (T_seq ?_))))
    refine T_condD (p := ((m : Int) < ((inL x sig (up)).length : Int))) rfl (fun h7 => ?_) (fun h7 => ?_)
    ·
     refine T_skip (T_seq (T_block (T_seq (T_region hc (Ch.s (.d (.int .i64 (m : Int))) pm (Ch.s (.d (.int .i64 (m : Int))) pa (Ch.nil ?_)))))))
     refine T_seq (T_region hc (Ch.s (.row 20000) pm (Ch.s (.d (.int .i64 (m : Int))) pm (Ch.s (.el 20000 1 m 0) (.pure (.idxRow _ _ _ 4 (m) rfl Tryz.underlying146 sz4 rfl rfl rfl rfl a86)) (Ch.s (.d (.bool (((inL x sig (up)).getD m default)))) (.pure (.loadEl1 _ _ rfl ag4 rfl rfl get_mapA rfl rfl rfl)) (Ch.s (.d (.bool (((inL x sig (up)).getD m default)))) pm ?_))))))
     cases h8 : (((inL x sig (up)).getD m default)) with
     | true =>
      refine Ch.s (.row 8) pm (Ch.s (.d (.int .i64 (m : Int))) pm (Ch.s (.el 8 1 m 0) (.pure (.idxRow _ _ _ 3 (m) rfl Tryz.underlying55 sz3 rfl rfl rfl rfl a86)) (Ch.s (.d (.int .i64 (((pTo x (excS x sig up) p 0).getD m default) : Int))) (.pure (.loadEl1 _ _ rfl ag3 rfl rfl get_mapA rfl rfl rfl)) (Ch.s (.d (.int .i64 (k : Int))) pm (Ch.s (.d (.bool (decide ((((pTo x (excS x sig up) p 0).getD m default) : Int) = (k : Int))))) (iX rfl rfl rfl) (Ch.s (.d (.bool (decide ((((pTo x (excS x sig up) p 0).getD m default) : Int) = (k : Int))))) (.pure (.pickT _ _ _ rfl rfl rfl)) (Ch.nil ?_)))))))
      refine T_condD (p := ((((pTo x (excS x sig up) p 0).getD m default) : Int) = (k : Int))) rfl (fun h9 => ?_) (fun h9 => ?_)
      ·
       refine T_region hc (Ch.s (.row 15) pm (Ch.s (.d (.int .i64 (m : Int))) pm (Ch.s (.row 104000) (.slice 104000 _ 3 _ rfl sty55 (xs := [.tmp 103]) rfl rfl (.cons (.d _) .nil) rfl rfl (by decide)) ?_)))
       refine Ch.step (v := (.row 105000)) rfl (.append 105000 _ _ _ 3 rfl sty55 (by decide) (.rowK rfl) (.inr ⟨_, rfl, rfl⟩) (.row rfl rfl) rfl a56) rfl rfl ?_
       refine Ch.s (.row 105000) pa (Ch.nil (T_region hc (Ch.s (.d (.int .i64 ((m : Int) + 1))) (iX rfl rfl intV_addA) (Ch.s (.d (.int .i64 ((m : Int) + 1))) pm (Ch.nil ?_)))))
       exact nx (m + 1) (by omega) (Wk.ren [(15, 105000)] rfl rfl rfl rfl (ai rfl (ai rfl (ai rfl (ai rfl (ai rfl (ai rfl (ai rfl (ai rfl (ai (vI a114) trivial))))))))) (ai rfl (ai rfl (ai (oR a29) (ai rfl trivial)))))
      ·
       refine T_skip (T_region hc (Ch.s (.d (.int .i64 ((m : Int) + 1))) (iX rfl rfl intV_addA) (Ch.s (.d (.int .i64 ((m : Int) + 1))) pm (Ch.nil ?_))))
       exact nx (m + 1) (by omega) (Wk.of rfl rfl (ai rfl (ai rfl (ai rfl (ai rfl (ai rfl (ai rfl (ai rfl (ai rfl (ai (vI a114) trivial))))))))) (ai rfl (ai rfl (ai (oR a29) (ai rfl trivial)))))
     | false =>
      refine Ch.skip rfl rfl (Ch.skip rfl rfl (Ch.skip rfl rfl (Ch.skip rfl rfl (Ch.skip rfl rfl (Ch.skip rfl rfl (Ch.s (.d (.bool false)) (.pure (.pickF _ _ _ rfl rfl rfl)) (Ch.nil ?_)))))))
      refine T_cond (b := false) rfl (fun h => nomatch h) (fun _ => ?_)
      refine T_skip (T_region hc (Ch.s (.d (.int .i64 ((m : Int) + 1))) (iX rfl rfl intV_addA) (Ch.s (.d (.int .i64 ((m : Int) + 1))) pm (Ch.nil ?_))))
      exact nx (m + 1) (by omega) (Wk.of rfl rfl (ai rfl (ai rfl (ai rfl (ai rfl (ai rfl (ai rfl (ai rfl (ai rfl (ai (vI a114) trivial))))))))) (ai rfl (ai rfl (ai (oR a29) (ai rfl trivial)))))
    ·
     refine T_exit (T_seq (T_region hc (Ch.s (.row 15) pm (Ch.s (.d (.int .i64 ((clsK x (excS x sig up) k m).length : Int))) (.pure (.len _ _ 3 rfl Tryz.underlying55 (.row rfl) (by simp))) (Ch.s (.d (.bool (decide (0 < ((clsK x (excS x sig up) k m).length : Int))))) (iX rfl rfl rfl) (Ch.nil ?_))))))
     refine T_condD (p := (0 < ((clsK x (excS x sig up) k m).length : Int))) rfl (fun h10 => ?_) (fun h10 => ?_)
     ·
      refine T_region hc (Ch.s (.row 13) pm (Ch.s (.row 15) pm (Ch.s (.row 112000) (.slice 112000 _ 55 _ rfl sty49 (xs := [.tmp 111]) rfl rfl (.cons (.row rfl) .nil) rfl rfl (by decide)) ?_)))
      refine Ch.step (v := (.row 113000)) rfl (.append 113000 _ _ _ 55 rfl sty49 (by decide) (.rowK rfl) (.inr ⟨_, rfl, rfl⟩) (.rowK rfl) rfl a56) rfl rfl ?_
      refine Ch.s (.row 113000) pa (Ch.nil (T_region hc (Ch.s (.d (.int .i64 ((k : Int) + 1))) (iX rfl rfl intV_addA) (Ch.s (.d (.int .i64 ((k : Int) + 1))) pm (Ch.nil ?_)))))
      exact nx (k + 1) (by omega) (Wk.ren [(13, 113000)] rfl rfl rfl rfl (ai rfl (ai rfl (ai rfl (ai rfl (ai (vI a114) trivial))))) (ai rfl (ai (oR a28) (ai rfl trivial))))
     ·
      refine T_skip (T_region hc (Ch.s (.d (.int .i64 ((k : Int) + 1))) (iX rfl rfl intV_addA) (Ch.s (.d (.int .i64 ((k : Int) + 1))) pm (Ch.nil ?_))))
      exact nx (k + 1) (by omega) (Wk.of rfl rfl (ai rfl (ai rfl (ai rfl (ai rfl (ai (vI a114) trivial))))) (ai rfl (ai (oR a28) (ai rfl trivial))))
   ·
    refine T_exit (T_seq (T_region hc (Ch.s (.row 13) pm (Ch.s (.row 13) pa (Ch.nil (T_ret ?_))))))
    exact endR [(.row 13)] [] [13] (.cons (.tmp 6 rfl) .nil) (.cons (.any _) (.cons (.any _) (.cons (.any _) .nil))) (Exp.of (congrArg (D.slice true 1) (by rw [exR, regL, show x.codes.length = k by omega])) (.row rfl)) rfl rfl

theorem sp_DeleteFunc_int (xs : List (Int)) (f : FuncId) (caps : List D) (p : Int → Bool) (hf : Enters Tryz.prog f) (hp : ∀ x ∈ xs, Sp Tryz.prog f ((fun n : Int => D.int .i64 n) x :: caps) (.any :: anys caps) (.bool (p x))) (hn : xs.length ≤ 1048576) : Sp Tryz.prog 215 [(.slice true 1 (xs.map (fun n : Int => D.int .i64 n))), (.fn f caps)] [.any, .any] (.slice true 1 ((xs.filter (fun u => !p u)).map (fun n : Int => D.int .i64 n))) := by
 refine Sp_intro (lend := false) Tryz.func215 rfl rfl rfl (fun h => nomatch h) (fun c hc hX => ?_)
 have hixb := ixF_bounds p xs
 refine T_seq (T_region hc (Ch.s (.c (.slice none 0 0)) pa (Ch.nil (T_seq (T_region hc (Ch.s (.row 1) pm (Ch.s (.d (.fn f caps)) pm ?_)))))))
 refine Ch.s (.d (.int .i64 (ixF p xs))) (.call 10000 257 _ _ _ en257 rfl (.inl rfl) (.cons (.lend (.row rfl (frozs_map (fun _ => rfl) _))) (.cons (.d _) .nil)) rfl rfl (sp_IndexFunc_int xs f caps p hf hp a39) (.skip _ _ (.skip _ _ .nil)) rfl) (Ch.s (.d (.int .i64 (ixF p xs))) pa (Ch.nil (T_seq (T_seq (T_region hc (Ch.s (.d (.int .i64 (ixF p xs))) pm (Ch.s (.d (.bool (decide ((ixF p xs) = (-1))))) (iX rfl rfl rfl) ?_)))))))
 refine Ch.nil ?_
 refine T_condD (p := ((ixF p xs) = (-1))) rfl (fun h1 => ?_) (fun h1 => ?_)
 ·
  refine T_seq (T_region hc (Ch.s (.row 1) pm (Ch.s (.row 1) pa (Ch.nil (T_ret ?_)))))
  exact endR [(.row 1)] [] [1] (.cons (.tmp 4 rfl) .nil) (.cons (.any _) (.cons (.any _) .nil)) (Exp.of (congrArg (D.slice true 1) a70) (.row rfl)) rfl rfl
 ·
  refine T_skip (T_seq (T_seq (T_region hc (Ch.s (.d (.int .i64 (ixF p xs))) pm (Ch.s (.d (.int .i64 ((ixF p xs) + 1))) (iX rfl rfl intV_addA) (Ch.s (.d (.int .i64 ((ixF p xs) + 1))) pa (Ch.nil ?_)))))))
  refine T_block ?_
  refine T_loop (ι := Nat × List (Int)) (fun q => { n := 42, sl := [(0, (.row 1)), (1, (.d (.fn f caps))), (5, (.d (.int .i64 ((keepTo p xs q.1).length : Int)))), (6, (.d (.int .i64 (q.1 : Int))))], hp := [(1, (some (.row 1 (q.2.map (fun n : Int => D.int .i64 n)))))], pin := [1] }) (fun q => DelInv p xs q.1 q.2) (fun q => xs.length - q.1) ⟨((ixF p xs).toNat + 1, xs), (by obtain ⟨k0, hk0, hk1, hk2⟩ := ixF_first h1; have e : (ixF p xs).toNat = k0 := (by omega); rw [e]; exact DelInv.start hk0 hk2), (Wk.of rfl rfl (ai rfl (ai rfl (ai (vI a20) (ai (vI a114) trivial)))) (ai (oR a117) trivial))⟩ (fun q hp0 => ?_)
  have hq1 := hp0.len; have hq2 := hp0.lt; have hq3 := hp0.le
  refine T_seq (T_seq (T_region hc (Ch.s (.d (.int .i64 (q.1 : Int))) pm (Ch.s (.row 1) pm (Ch.s (.d (.int .i64 (q.2.length : Int))) (.pure (.len _ _ 3 rfl Tryz.underlying55 (.row rfl) (by simp))) (Ch.s (.d (.bool (decide ((q.1 : Int) < (q.2.length : Int))))) (iX rfl rfl rfl) (Ch.nil ?_)))))))
  refine T_condD (p := ((q.1 : Int) < (q.2.length : Int))) rfl (fun h2 => ?_) (fun h2 => ?_)
  ·
   refine T_skip (T_seq (T_block (T_seq (T_region hc (Ch.s (.row 1) pm (Ch.s (.d (.int .i64 (q.1 : Int))) pm (Ch.s (.el 1 1 q.1 0) (.pure (.idxRow _ _ _ 3 (q.1) rfl Tryz.underlying55 sz3 rfl rfl rfl rfl a86)) ?_)))))))
   refine Ch.s (.d (.int .i64 (q.2.getD q.1 default))) (.pure (.loadEl1 _ _ rfl ag3 rfl rfl get_mapA rfl rfl rfl)) (Ch.s (.d (.int .i64 (q.2.getD q.1 default))) pa (Ch.nil (T_seq (T_region hc (Ch.s (.d (.fn f caps)) pm (Ch.s (.d (.int .i64 (q.2.getD q.1 default))) pm ?_))))))
   refine Ch.step (v := (.d (.bool (p (q.2.getD q.1 default))))) rfl (.callS 28000 f _ #[.tmp 27] _ hf rfl (.inr ⟨caps, rfl, rfl⟩) (.cons (.d _) (exps_ds caps)) rfl ((by first | exact hp _ (getD_mem (by omega)) | exact hp _ (hp0.mem (by omega)))) (.skip _ _ (back_anys caps)) rfl) rfl rfl ?_
   refine Ch.s (.d (.bool (!(p (q.2.getD q.1 default))))) (.pure (.not _ _ rfl rfl)) (Ch.nil ?_)
   refine T_condN (b := (p (q.2.getD q.1 default))) rfl (fun h3 => ?_) (fun h3 => ?_)
   ·
    refine T_seq (T_region hc (Ch.s (.row 1) pm (Ch.s (.d (.int .i64 ((keepTo p xs q.1).length : Int))) pm (Ch.s (.d (.int .i64 (q.2.getD q.1 default))) pm (Ch.s (.el 1 1 ((keepTo p xs q.1).length) 0) (.pure (.idxRow _ _ _ 3 ((keepTo p xs q.1).length) rfl Tryz.underlying55 sz3 rfl rfl rfl rfl a86)) (Ch.s .junk (.storeEl (y' := (.int .i64 (q.2.getD q.1 default))) _ _ _ rfl rfl rfl (.d _) rfl sz3 rfl get_mapA rfl rfl) (Ch.nil ?_)))))))
    refine T_region hc (Ch.s (.d (.int .i64 ((keepTo p xs q.1).length : Int))) pm (Ch.s (.d (.int .i64 (((keepTo p xs q.1).length : Int) + 1))) (iX rfl rfl intV_addA) (Ch.s (.d (.int .i64 (((keepTo p xs q.1).length : Int) + 1))) pa (Ch.nil (T_region hc (Ch.s (.d (.int .i64 (q.1 : Int))) pm (Ch.s (.d (.int .i64 ((q.1 : Int) + 1))) (iX rfl rfl intV_addA) ?_)))))))
    refine Ch.s (.d (.int .i64 ((q.1 : Int) + 1))) pa (Ch.nil ?_)
    exact nx (q.1 + 1, q.2.set (keepTo p xs q.1).length (q.2.getD q.1 default)) a75 (Wk.of rfl rfl (ai rfl (ai rfl (ai (vI a20) (ai (vI a114) trivial)))) (ai (oR a117) trivial))
   ·
    refine T_skip (T_region hc (Ch.s (.d (.int .i64 (q.1 : Int))) pm (Ch.s (.d (.int .i64 ((q.1 : Int) + 1))) (iX rfl rfl intV_addA) (Ch.s (.d (.int .i64 ((q.1 : Int) + 1))) pa (Ch.nil ?_)))))
    exact nx (q.1 + 1, q.2) a75 (Wk.of rfl rfl (ai rfl (ai rfl (ai (vI a20) (ai (vI a114) trivial)))) (ai (oR a117) trivial))
  ·
   refine T_exit (T_seq (T_region hc (Ch.s (.row 1) pm (Ch.s (.d (.int .i64 ((keepTo p xs q.1).length : Int))) pm (Ch.s (.sub 1 1 ((keepTo p xs q.1).length) q.2.length) (.pure (.subRow _ _ _ _ 3 ((keepTo p xs q.1).length) (q.2.length) rfl Tryz.underlying55 sz3 rfl rfl (bndS rfl rfl) (bndN (by simp)) a43 a43)) (Ch.s .junk (.clear _ _ 3 rfl sty55 rfl rfl a43 (noUs_map (fun _ => rfl) _) (zeroD_mk (zd := (.int .i64 0)) zr3 a120 rfl)) (Ch.nil ?_)))))))
   refine T_seq (T_region hc (Ch.s (.row 1) pm (Ch.s (.d (.int .i64 ((keepTo p xs q.1).length : Int))) pm (Ch.s (.row 41000) (.cut 41000 _ _ _ 3 ((keepTo p xs q.1).length) rfl Tryz.underlying55 sz3 rfl rfl (bndS rfl rfl) a43 rfl) (Ch.s (.row 41000) pa (Ch.nil (T_ret ?_)))))))
   exact endR [(.row 41000)] [] [41000] (.cons (.tmp 4 rfl) .nil) (.cons (.any _) (.cons (.any _) .nil)) (Exp.of (congrArg (D.slice true 1) a70) (.row rfl)) rfl rfl

theorem sp_Clone_int (xs : List Int) (hn : xs.length ≤ 1048576) : Sp Tryz.prog 192 [(.slice false 1 (xs.map (fun n : Int => D.int .i64 n)))] [.any] (.slice true 1 (xs.map (fun n : Int => D.int .i64 n))) := by
 refine Sp_intro (lend := true) Tryz.func192 rfl rfl rfl (fun _ => rfl) (fun c hc hX => ?_)
 refine T_seq (T_region hc (Ch.s (.c (.slice none 0 0)) pa (Ch.nil (T_seq (T_seq (T_region hc (Ch.s (.d (.slice false 1 (xs.map (fun n : Int => D.int .i64 n)))) pm ?_)))))))
 refine Ch.nilq (sz := 1) (xs := (xs.map (fun n : Int => D.int .i64 n))) _ _ _ _ 3 rfl rfl Tryz.underlying55 (.sh _ _) rfl rfl (fun q1 hzq1 => ?_)
 refine Ch.nil ?_
 refine T_cond (b := (q1)) rfl (fun h1 => ?_) (fun h1 => ?_)
 ·
  try have hz := hzq1 h1
  refine T_seq (T_region hc (Ch.s (.c (.slice none 0 0)) pa (Ch.nil (T_ret ?_))))
  exact endR [(.c (.slice none 0 0))] [] [] (.cons (.tmp 2 rfl) .nil) (.cons (.any _) .nil) (Exp.of (congrArg (D.slice true 1) (by first | rfl | (rw [hz]; done))) (.nil true 1)) rfl rfl
 ·
  try have hz := hzq1 h1
  refine T_skip (T_seq (T_region hc (Ch.s (.row 5000) (.slice 5000 _ 3 _ rfl sty55 (xs := []) rfl rfl .nil rfl rfl (by decide)) (Ch.s (.d (.slice false 1 (xs.map (fun n : Int => D.int .i64 n)))) pm ?_))))
  refine Ch.step (v := (.row 7000)) rfl (.append 7000 _ _ _ 3 rfl sty55 (by decide) (.rowK rfl) (.inr ⟨_, rfl, rfl⟩) (.sh _ _) rfl a56) rfl rfl ?_
  refine Ch.s (.row 7000) pa (Ch.nil (T_ret ?_))
  exact endR [(.row 7000)] [] [7000] (.cons (.tmp 2 rfl) .nil) (.cons (.any _) .nil) (.row rfl) rfl rfl

theorem sp_Compact_intU (u : Value) (xs : List Int) (hn : xs.length ≤ 1048576) (hc : Lib.compact xs = xs) : SpQ (fun _ _ vs => vs.head? = some u) Tryz.prog 194 [.slice true 1 (xs.map (fun n : Int => D.int .i64 n))] [.slice true 1 (xs.map (fun n : Int => D.int .i64 n))] (.hole u) :=
 sp_keepRow encIntD xs (fun p cap w => Tryz.slices_Compact_int_empty p cap w) (fun blk cap w hH hc1 hm => by
  have h := Tryz.slices_Compact_int blk 0 cap xs w hH (by omega) hc1
  rw [hc, Nat.sub_self, List.replicate_zero, List.append_nil] at h
  exact h)

theorem sp_tidyU (u : Value) (xs : List Int) (hn : xs.length ≤ 1048576) (hnd : xs.Nodup) : SpQ (fun _ _ vs => vs.head? = some u) Tryz.prog 123 [(.slice true 1 (xs.map (fun n : Int => D.int .i64 n)))] [(.slice true 1 ((tidI xs).map (fun n : Int => D.int .i64 n)))] (.hole u) := by
 refine SpU_intro Tryz.func123 rfl 900001 rfl rfl rfl (fun c hc => ?_)
 refine T_seq (T_region hc (Ch.s (.c (.slice none 0 0)) pa (Ch.nil (T_seq (T_region hc (Ch.s (.row 1) pm ?_))))))
 refine Ch.step (v := (.tup [])) rfl (.call 4000 193 _ _ _ en193 rfl (.inl rfl) (.cons (.row rfl) .nil) rfl (sol rfl (solids_c (solid_row (fun _ => rfl) _) rfl)) (sp_Sort_int xs a39) (.row _ _ _ .nil) rfl) rfl rfl ?_
 refine Ch.nil (T_seq (T_region hc (Ch.s (.row 1) pm ?_)))
 refine Ch.step (v := (.d (.hole u))) rfl (.callU (m := 900001) 6000 194 _ _ _ en194 rfl (.inl rfl) (.cons (.row rfl) .nil) rfl (sol rfl (solids_c (solid_row (fun _ => rfl) _) rfl)) (sp_Compact_intU u (xs.mergeSort leI) (by rw [List.length_mergeSort]; assumption) (by first | assumption | exact nodup_mem_compact hnd)) rfl rfl (.row _ _ _ .nil) rfl) rfl rfl ?_
 refine Ch.s (.d (.hole u)) pa (Ch.nil (T_ret ?_))
 exact endR [(.d (.hole u))] [1] [] (.cons (.tmp 2 rfl) .nil) (.cons (Exp.of (congrArg (D.slice true 1) (by rw [nodup_mem_compact hnd])) (.row rfl)) .nil) (.d _) rfl rfl

theorem sp_impl_components_1 (k : Int) (l : List Int) (hn : l.length ≤ 1048576) : Sp Tryz.prog 216 [(.int .i64 k), (.ref (.slice false 1 (l.map (fun n : Int => D.int .i64 n))))] [.any, .any] (.bool (hasI l k)) := by
 refine Sp_intro (lend := true) Tryz.func216 rfl rfl rfl (fun _ => rfl) (fun c hc hX => ?_)
 refine T_seq (T_region hc (Ch.s (.d (.bool false)) pa (Ch.nil (T_seq (T_region hc (Ch.s (.d (.slice false 1 (l.map (fun n : Int => D.int .i64 n)))) (.pure (.loadRef1 _ _ rfl ag55 rfl rfl)) (Ch.s (.d (.int .i64 k)) pm ?_)))))))
 refine Ch.s (.d (.bool (hasI l k))) (.call 6000 160 _ _ _ en160 rfl (.inl rfl) (.cons (.d _) (.cons (.d _) .nil)) rfl rfl (sp_Contains_int l k a39) (.skip _ _ (.skip _ _ .nil)) rfl) (Ch.s (.d (.bool (hasI l k))) pa (Ch.nil (T_ret ?_)))
 exact endR [(.d (.bool (hasI l k)))] [] [] (.cons (.tmp 3 rfl) .nil) (.cons (.any _) (.cons (.any _) .nil)) (.d _) rfl rfl

end Go.AM
