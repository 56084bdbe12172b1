/-
  The contracts that the law FnExactMonotonousCovers needs.
-/
import Derived.Test.YtnmlcebejnlikaaGreatZMonotonousCovers3
namespace Go.AM
open Go.Proofs
set_option linter.unusedVariables false
set_option linter.unusedSimpArgs false

set_option maxHeartbeats 4000000 in
theorem sp_impl_components (x : Sgr) (S : List Int) (hb : x.bulk ≤ 1048576) (hx : SgOk x) (hso : SetOk S x.arcs x.codes.length) (hsl : S.length ≤ 1048576) : Sp Tryz.prog 155 [(.agg [(.slice false 2 (x.sigs.map Sgn.d)), (.slice false 1 (x.codes.map D.str)), (.slice false 4 (x.arcs.map Arc.d))]), (.slice false 1 (S.map (fun n : Int => D.int .i64 n)))] [.any, .any] (.slice true 1 ((regL S x.arcs x.codes.length).map intsU)) := by
 refine Sp_intro (lend := true) Tryz.func155 rfl rfl rfl (fun _ => rfl) (fun c hc hX => ?_)
 obtain ⟨hp0, hp1, hp2⟩ := Sgr.parts hb
 have hn0 := bulkF_len hp0
 have hn1 := bulk_len hp1
 have hx1 := bulk_mem hp1
 have hn2 := bulkF_len hp2; have hxl := hx.len; have hxf := hx.few; have hen := hx.ends
 refine T_seq (T_region hc (Ch.s (.ptr 2000 0) (.box 2000 _ _ rfl (.aggD _)) (Ch.s (.c (.slice none 0 0)) pa (Ch.nil (T_seq (T_region hc (Ch.s (.row 13000) (.slice 13000 _ 55 _ rfl sty49 (xs := []) rfl rfl .nil rfl rfl (by decide)) ?_)))))))
 refine Ch.s (.d (.slice false 1 (S.map (fun n : Int => D.int .i64 n)))) pm ?_
 refine Ch.step (v := (.row 15000)) rfl (.call 15000 192 _ _ _ en192 rfl (.inl rfl) (.cons (.d _) .nil) rfl (sol (solid_row (fun _ => rfl) _) rfl) (sp_Clone_int S a39) (.skip _ _ .nil) rfl) rfl rfl ?_
 refine Ch.s (.row 13000) pa (Ch.s (.row 15000) pa (Ch.nil (T_seq (T_block ?_))))
 refine T_loop (ι := Nat) (fun B => { n := 88, sl := [(1, (.d (.slice false 1 (S.map (fun n : Int => D.int .i64 n))))), (2, (.ptr 2000 0)), (5, (.row 5)), (6, (.row 6))], hp := [(5, (some (.row 1 ((regTo S x.arcs x.codes.length B).map intsU)))), (6, (some (.row 1 ((leftF S x.arcs x.codes.length B).map (fun n : Int => D.int .i64 n))))), (2000, (some (.box (vX x))))], pin := [] }) (fun B => B ≤ x.codes.length) (fun B => x.codes.length - B) ⟨0, (by omega), (Wk.ren [(5, 13000), (6, 15000)] rfl rfl rfl rfl (ai rfl (ai rfl (ai rfl (ai rfl trivial)))) (ai (oR a105) (ai (oR a66) (ai rfl trivial))))⟩ (fun B hp0 => ?_)
 have hll := leftF_le S x.arcs x.codes.length B; have hrl := regTo_le S x.arcs x.codes.length B
 refine T_seq (T_seq (T_region hc (Ch.s (.row 6) pm (Ch.s (.d (.int .i64 ((leftF S x.arcs x.codes.length B).length : Int))) (.pure (.len _ _ 3 rfl Tryz.underlying55 (.row rfl) (by simp))) (Ch.s (.d (.bool (decide (0 < ((leftF S x.arcs x.codes.length B).length : Int))))) (iX rfl rfl rfl) (Ch.nil ?_))))))
 refine T_condD (p := (0 < ((leftF S x.arcs x.codes.length B).length : Int))) rfl (fun h1 => ?_) (fun h1 => ?_)
 ·
  try have hlh := left_head hso (B := B) (by omega)
  try have hla := hlh.2.2.1
  refine T_skip (T_block (T_seq (T_region hc (Ch.s (.row 6) pm (Ch.s (.el 6 1 0 0) (.pure (.idxRow _ _ _ 3 (0) rfl Tryz.underlying55 sz3 rfl rfl rfl rfl a86)) (Ch.s (.d (.int .i64 ((leftF S x.arcs x.codes.length B).getD 0 default))) (.pure (.loadEl1 _ _ rfl ag3 rfl rfl get_mapA rfl rfl rfl)) (Ch.s (.row 22000) (.slice 22000 _ 3 _ rfl sty55 (xs := [.tmp 21]) rfl rfl (.cons (.d _) .nil) rfl rfl (by decide)) ?_)))))))
  refine Ch.s (.ptr 7000 0) (.alloc 7000 _ rfl zer55) (Ch.s .junk (.storePtr _ _ _ rfl rfl rfl (.one _ rfl) sz55 (lb rfl)) (Ch.nil (T_seq (T_seq (T_region hc (Ch.s (.d (.int .i64 0)) pa (Ch.nil ?_)))))))
  refine T_block ?_
  refine T_loop (ι := List Int × Nat) (fun q => { n := 88, sl := [(1, (.d (.slice false 1 (S.map (fun n : Int => D.int .i64 n))))), (2, (.ptr 2000 0)), (5, (.row 5)), (6, (.row 6)), (7, (.ptr 7000 0)), (8, (.d (.int .i64 (q.2 : Int))))], hp := [(5, (some (.row 1 ((regTo S x.arcs x.codes.length B).map intsU)))), (6, (some (.row 1 ((leftF S x.arcs x.codes.length B).map (fun n : Int => D.int .i64 n))))), (2000, (some (.box (vX x)))), (7000, (some (.box [(.row 7700)]))), (7700, (some (.row 1 (q.1.map (fun n : Int => D.int .i64 n)))))], pin := [] }) (fun q => CLoop x S ((leftF S x.arcs x.codes.length B).getD 0 default) q) (fun q => x.codes.length - q.2) ⟨([((leftF S x.arcs x.codes.length B).getD 0 default)], 0), (CLoop.zero hlh.2.1 hlh.1), (Wk.ren [(7700, 22000)] rfl rfl rfl rfl (ai rfl (ai rfl (ai rfl (ai rfl (ai rfl (ai (vI a114) trivial)))))) (ai rfl (ai rfl (ai rfl (ai (oB (Eq.trans (b := [(.row 22000)]) rfl (by rfl))) (ai (oR (by first | rfl | (rw [show m = x.arcs.length by omega]))) trivial))))))⟩ (fun q hp1 => ?_)
  have hol := hp1.inv.wl.len
  refine T_seq (T_seq (T_region hc (Ch.s (.d (.int .i64 (q.2 : Int))) pm (Ch.s (.row 7700) (.pure (.loadPtr1 _ _ rfl ag55 rfl rfl rfl)) (Ch.s (.d (.int .i64 (q.1.length : Int))) (.pure (.len _ _ 3 rfl Tryz.underlying55 (.row rfl) (by simp))) (Ch.s (.d (.bool (decide ((q.2 : Int) < (q.1.length : Int))))) (iX rfl rfl rfl) (Ch.nil ?_)))))))
  refine T_condD (p := ((q.2 : Int) < (q.1.length : Int))) rfl (fun h2 => ?_) (fun h2 => ?_)
  ·
   try have hqe := hp1.end hso hlh.2.1 hlh.2.2.1 (by omega)
   try have hol2 : (tidI q.1).length ≤ 1048576 := by (have := tid_len leI q.1; unfold tidI; omega)
   refine T_skip (T_seq (T_block (T_seq (T_region hc (Ch.s (.ptr 2000 2) (.pure (.fldPtr _ _ _ rfl fld35_2 rfl)) (Ch.s (.d (.slice false 4 (x.arcs.map Arc.d))) (.pure (.loadPtr1 _ _ rfl ag33 rfl rfl rfl)) (Ch.s (.d (.int .i64 (x.arcs.length : Int))) (.pure (.len _ _ 125 rfl Tryz.underlying33 (.sh _ _) (by simp))) ?_)))))))
   refine Ch.s (.d (.int .i64 0)) pm (Ch.nil (T_block ?_))
   refine T_loop (ι := Nat) (fun m => { n := 88, sl := [(1, (.d (.slice false 1 (S.map (fun n : Int => D.int .i64 n))))), (2, (.ptr 2000 0)), (5, (.row 5)), (6, (.row 6)), (7, (.ptr 7000 0)), (8, (.d (.int .i64 (q.2 : Int)))), (30, (.d (.slice false 4 (x.arcs.map Arc.d)))), (31, (.d (.int .i64 (x.arcs.length : Int)))), (32, (.d (.int .i64 (m : Int))))], hp := [(5, (some (.row 1 ((regTo S x.arcs x.codes.length B).map intsU)))), (6, (some (.row 1 ((leftF S x.arcs x.codes.length B).map (fun n : Int => D.int .i64 n))))), (2000, (some (.box (vX x)))), (7000, (some (.box [(.row 7700)]))), (7700, (some (.row 1 ((cTo x S (q.1.getD q.2 default) q.1 m).map (fun n : Int => D.int .i64 n)))))], pin := [] }) (fun m => m ≤ x.arcs.length) (fun m => x.arcs.length - m) ⟨0, (by omega), (Wk.of rfl rfl (ai rfl (ai rfl (ai rfl (ai rfl (ai rfl (ai rfl (ai rfl (ai rfl (ai (vI a114) trivial))))))))) (ai rfl (ai rfl (ai rfl (ai rfl (ai (oR a89) trivial))))))⟩ (fun m hp2 => ?_)
   obtain ⟨hw1, hw2, hw3⟩ := hp1.inv.tos hen (getD_mem (l := q.1) (j := q.2) (d := default) (by omega)) m hp2; have hwl := hw1.wl.len; obtain ⟨hwr, hwe⟩ := hw2
   refine T_seq (T_region hc (Ch.s (.d (.bool (decide ((m : Int) < (x.arcs.length : Int))))) (iX rfl rfl rfl) (Ch.nil (T_seq ?_))))
   refine T_condD (p := ((m : Int) < (x.arcs.length : Int))) rfl (fun h3 => ?_) (fun h3 => ?_)
   ·
    refine T_skip (T_seq (T_block (T_seq (T_region hc (Ch.s (.d (.ref (.agg [(.int .i64 ((x.arcs.getD m default).src)), (.int .i64 ((x.arcs.getD m default).sig)), (.bool ((x.arcs.getD m default).up)), (.int .i64 ((x.arcs.getD m default).dst))]))) (.pure (.idx _ _ _ 125 (m) rfl Tryz.underlying33 sz125 rfl rfl rfl get_mapA)) (Ch.s (.d (.agg [(.int .i64 ((x.arcs.getD m default).src)), (.int .i64 ((x.arcs.getD m default).sig)), (.bool ((x.arcs.getD m default).up)), (.int .i64 ((x.arcs.getD m default).dst))])) (.pure (.loadRefA _ _ rfl ag125 sz125 rfl)) (Ch.s (.ptr 10000 0) (.alloc 10000 _ rfl zer125) ?_)))))))
    refine Ch.s .junk (.storePtr _ _ _ rfl rfl rfl (.aggD _) sz125 (lb rfl)) (Ch.nil (T_seq (T_region hc (Ch.s (.ptr 10000 0) (.pure (.fldPtr _ _ _ rfl fld125_0 rfl)) (Ch.s (.d (.int .i64 ((x.arcs.getD m default).src))) (.pure (.loadPtr1 _ _ rfl ag3 rfl rfl rfl)) (Ch.s (.ptr 10000 3) (.pure (.fldPtr _ _ _ rfl fld125_3 rfl)) (Ch.s (.d (.int .i64 ((x.arcs.getD m default).dst))) (.pure (.loadPtr1 _ _ rfl ag3 rfl rfl rfl)) ?_)))))))
    refine Ch.s (.agg [(.d (.int .i64 ((x.arcs.getD m default).src))), (.d (.int .i64 ((x.arcs.getD m default).dst)))]) (.build _ _ rfl stru212 (.cons (.one _ rfl) (.cons (.one _ rfl) .nil)) rfl) (Ch.s (.ptr 10000 3) (.pure (.fldPtr _ _ _ rfl fld125_3 rfl)) (Ch.s (.d (.int .i64 ((x.arcs.getD m default).dst))) (.pure (.loadPtr1 _ _ rfl ag3 rfl rfl rfl)) (Ch.s (.ptr 10000 0) (.pure (.fldPtr _ _ _ rfl fld125_0 rfl)) (Ch.s (.d (.int .i64 ((x.arcs.getD m default).src))) (.pure (.loadPtr1 _ _ rfl ag3 rfl rfl rfl)) (Ch.s (.agg [(.d (.int .i64 ((x.arcs.getD m default).dst))), (.d (.int .i64 ((x.arcs.getD m default).src)))]) (.build _ _ rfl stru212 (.cons (.one _ rfl) (.cons (.one _ rfl) .nil)) rfl) (Ch.s (.row 46000) (.slice 46000 _ 212 _ rfl sty193 (xs := [.tmp 40, .tmp 45]) rfl rfl (.cons (.agg (.cons (.d _) (.cons (.d _) .nil)) rfl) (.cons (.agg (.cons (.d _) (.cons (.d _) .nil)) rfl) .nil)) rfl rfl (by decide)) (Ch.s (.d (.int .i64 ((2 : Nat) : Int))) (.pure (.len _ _ 212 rfl Tryz.underlying193 (.row rfl) rfl)) ?_)))))))
    refine Ch.s (.d (.int .i64 0)) pm (Ch.nil (T_block ?_))
    refine T_loop (ι := Nat) (fun e => { n := 88, sl := [(1, (.d (.slice false 1 (S.map (fun n : Int => D.int .i64 n))))), (2, (.ptr 2000 0)), (5, (.row 5)), (6, (.row 6)), (7, (.ptr 7000 0)), (8, (.d (.int .i64 (q.2 : Int)))), (30, (.d (.slice false 4 (x.arcs.map Arc.d)))), (31, (.d (.int .i64 (x.arcs.length : Int)))), (32, (.d (.int .i64 (m : Int)))), (46, (.row 46000)), (47, (.d (.int .i64 ((2 : Nat) : Int)))), (48, (.d (.int .i64 (e : Int))))], hp := [(5, (some (.row 1 ((regTo S x.arcs x.codes.length B).map intsU)))), (6, (some (.row 1 ((leftF S x.arcs x.codes.length B).map (fun n : Int => D.int .i64 n))))), (2000, (some (.box (vX x)))), (7000, (some (.box [(.row 7700)]))), (7700, (some (.row 1 ((cIn S (q.1.getD q.2 default) (cTo x S (q.1.getD q.2 default) q.1 m) (x.arcs.getD m default) e).map (fun n : Int => D.int .i64 n))))), (46000, (some (.row 2 [(.agg [(.int .i64 ((x.arcs.getD m default).src)), (.int .i64 ((x.arcs.getD m default).dst))]), (.agg [(.int .i64 ((x.arcs.getD m default).dst)), (.int .i64 ((x.arcs.getD m default).src))])])))], pin := [] }) (fun e => e ≤ 2) (fun e => 2 - e) ⟨0, (by omega), (Wk.of rfl rfl (ai rfl (ai rfl (ai rfl (ai rfl (ai rfl (ai rfl (ai rfl (ai rfl (ai rfl (ai rfl (ai rfl (ai (vI a114) trivial)))))))))))) (ai rfl (ai rfl (ai rfl (ai rfl (ai (oR a10) (ai rfl trivial)))))))⟩ (fun e hp3 => ?_)
    obtain ⟨hv1, hv2, hv3⟩ := hw1.ins hen (c := (q.1.getD q.2 default)) (by rw [hwe]; exact List.mem_append_left _ (getD_mem (by omega))) (getD_mem (l := x.arcs) (j := m) (d := default) (by omega)) e hp3; have hvl := hv1.wl.len; obtain ⟨hvr, hve⟩ := hv2; have hvc : (cIn S (q.1.getD q.2 default) (cTo x S (q.1.getD q.2 default) q.1 m) (x.arcs.getD m default) e).getD q.2 default = (q.1.getD q.2 default) := (by rw [hve, hwe, List.append_assoc, getD_app (by omega)]); have hvs : q.2 < (cIn S (q.1.getD q.2 default) (cTo x S (q.1.getD q.2 default) q.1 m) (x.arcs.getD m default) e).length := (by rw [hve, hwe, List.append_assoc, List.length_append]; omega)
    refine T_seq (T_region hc (Ch.s (.d (.bool (decide ((e : Int) < ((2 : Nat) : Int))))) (iX rfl rfl rfl) (Ch.nil (T_seq ?_))))
    refine T_condD (p := ((e : Int) < ((2 : Nat) : Int))) rfl (fun h4 => ?_) (fun h4 => ?_)
    ·
     refine T_skip (T_seq (T_block (T_seq (T_region hc (Ch.s (.el 46000 2 e 0) (.pure (.idxRow _ _ _ 212 (e) rfl Tryz.underlying193 sz212 rfl rfl rfl rfl a86)) (Ch.s (.d (.agg [(.int .i64 ((([(Stp.mk ((x.arcs.getD m default).src) ((x.arcs.getD m default).dst)), (Stp.mk ((x.arcs.getD m default).dst) ((x.arcs.getD m default).src))]).getD e default).src)), (.int .i64 ((([(Stp.mk ((x.arcs.getD m default).src) ((x.arcs.getD m default).dst)), (Stp.mk ((x.arcs.getD m default).dst) ((x.arcs.getD m default).src))]).getD e default).dst))])) (.pure (.loadElA _ _ rfl ag212 sz212 rfl rfl (get_map (f := Stp.d) (l := [(Stp.mk ((x.arcs.getD m default).src) ((x.arcs.getD m default).dst)), (Stp.mk ((x.arcs.getD m default).dst) ((x.arcs.getD m default).src))]) a43) rfl)) (Ch.s (.ptr 12000 0) (.alloc 12000 _ rfl zer212) ?_)))))))
     refine Ch.s .junk (.storePtr _ _ _ rfl rfl rfl (.aggD _) sz212 (lb rfl)) (Ch.nil (T_seq ?_))
     refine T_regionD hc (by kernel_rfl) ?_
     refine ChD.s (.ptr 12000 0) [] (.pure (.fldPtr _ _ _ rfl fld212_0 rfl)) (ChD.s (.d (.int .i64 ((([(Stp.mk ((x.arcs.getD m default).src) ((x.arcs.getD m default).dst)), (Stp.mk ((x.arcs.getD m default).dst) ((x.arcs.getD m default).src))]).getD e default).src))) [12000] (.pure (.loadPtr1 _ _ rfl ag3 rfl rfl rfl)) (ChD.s (.row 7700) [7000] (.pure (.loadPtr1 _ _ rfl ag55 rfl rfl rfl)) (ChD.s (.d (.int .i64 (q.2 : Int))) [] pm (ChD.s (.el 7700 1 q.2 0) [7700] (.pure (.idxRow _ _ _ 3 (q.2) rfl Tryz.underlying55 sz3 rfl rfl rfl rfl a86)) (ChD.s (.d (.int .i64 ((cIn S (q.1.getD q.2 default) (cTo x S (q.1.getD q.2 default) q.1 m) (x.arcs.getD m default) e).getD q.2 default))) [7700] (.pure (.loadEl1 _ _ rfl ag3 rfl rfl get_mapA rfl rfl rfl)) (ChD.s (.d (.bool (decide (((([(Stp.mk ((x.arcs.getD m default).src) ((x.arcs.getD m default).dst)), (Stp.mk ((x.arcs.getD m default).dst) ((x.arcs.getD m default).src))]).getD e default).src) = ((cIn S (q.1.getD q.2 default) (cTo x S (q.1.getD q.2 default) q.1 m) (x.arcs.getD m default) e).getD q.2 default))))) [] (iX rfl rfl rfl) (ChD.s (.d (.bool (decide (((([(Stp.mk ((x.arcs.getD m default).src) ((x.arcs.getD m default).dst)), (Stp.mk ((x.arcs.getD m default).dst) ((x.arcs.getD m default).src))]).getD e default).src) = ((cIn S (q.1.getD q.2 default) (cTo x S (q.1.getD q.2 default) q.1 m) (x.arcs.getD m default) e).getD q.2 default))))) [] pm ?_)))))))
     cases h5 : (decide (((([(Stp.mk ((x.arcs.getD m default).src) ((x.arcs.getD m default).dst)), (Stp.mk ((x.arcs.getD m default).dst) ((x.arcs.getD m default).src))]).getD e default).src) = ((cIn S (q.1.getD q.2 default) (cTo x S (q.1.getD q.2 default) q.1 m) (x.arcs.getD m default) e).getD q.2 default))) with
     | true =>
      replace h5 := of_decide_eq_true h5
      refine ChD.s (.d (.slice false 1 (S.map (fun n : Int => D.int .i64 n)))) [] pm (ChD.s (.ptr 12000 1) [] (.pure (.fldPtr _ _ _ rfl fld212_1 rfl)) (ChD.s (.d (.int .i64 ((([(Stp.mk ((x.arcs.getD m default).src) ((x.arcs.getD m default).dst)), (Stp.mk ((x.arcs.getD m default).dst) ((x.arcs.getD m default).src))]).getD e default).dst))) [12000] (.pure (.loadPtr1 _ _ rfl ag3 rfl rfl rfl)) (ChD.s (.d (.bool (hasI S ((([(Stp.mk ((x.arcs.getD m default).src) ((x.arcs.getD m default).dst)), (Stp.mk ((x.arcs.getD m default).dst) ((x.arcs.getD m default).src))]).getD e default).dst)))) [] (.call 63000 160 _ _ _ en160 rfl (.inl rfl) (.cons (.d _) (.cons (.d _) .nil)) rfl rfl (sp_Contains_int S ((([(Stp.mk ((x.arcs.getD m default).src) ((x.arcs.getD m default).dst)), (Stp.mk ((x.arcs.getD m default).dst) ((x.arcs.getD m default).src))]).getD e default).dst) a39) (.skip _ _ (.skip _ _ .nil)) rfl) (ChD.s (.d (.bool (hasI S ((([(Stp.mk ((x.arcs.getD m default).src) ((x.arcs.getD m default).dst)), (Stp.mk ((x.arcs.getD m default).dst) ((x.arcs.getD m default).src))]).getD e default).dst)))) [] (.pure (.pickT _ _ _ rfl rfl rfl)) (ChD.s (.d (.bool (hasI S ((([(Stp.mk ((x.arcs.getD m default).src) ((x.arcs.getD m default).dst)), (Stp.mk ((x.arcs.getD m default).dst) ((x.arcs.getD m default).src))]).getD e default).dst)))) [] pm ?_)))))
      cases h6 : (hasI S ((([(Stp.mk ((x.arcs.getD m default).src) ((x.arcs.getD m default).dst)), (Stp.mk ((x.arcs.getD m default).dst) ((x.arcs.getD m default).src))]).getD e default).dst)) with
      | true =>
       refine ChD.s (.row 7700) [7000] (.pure (.loadPtr1 _ _ rfl ag55 rfl rfl rfl)) (ChD.s (.ptr 12000 1) [] (.pure (.fldPtr _ _ _ rfl fld212_1 rfl)) (ChD.s (.d (.int .i64 ((([(Stp.mk ((x.arcs.getD m default).src) ((x.arcs.getD m default).dst)), (Stp.mk ((x.arcs.getD m default).dst) ((x.arcs.getD m default).src))]).getD e default).dst))) [12000] (.pure (.loadPtr1 _ _ rfl ag3 rfl rfl rfl)) (ChD.s (.d (.bool (hasI (cIn S (q.1.getD q.2 default) (cTo x S (q.1.getD q.2 default) q.1 m) (x.arcs.getD m default) e) ((([(Stp.mk ((x.arcs.getD m default).src) ((x.arcs.getD m default).dst)), (Stp.mk ((x.arcs.getD m default).dst) ((x.arcs.getD m default).src))]).getD e default).dst)))) [7700] (.call 69000 160 _ _ _ en160 rfl (.inl rfl) (.cons (.lend (.row rfl (frozs_map (fun _ => rfl) _))) (.cons (.d _) .nil)) rfl rfl (sp_Contains_int (cIn S (q.1.getD q.2 default) (cTo x S (q.1.getD q.2 default) q.1 m) (x.arcs.getD m default) e) ((([(Stp.mk ((x.arcs.getD m default).src) ((x.arcs.getD m default).dst)), (Stp.mk ((x.arcs.getD m default).dst) ((x.arcs.getD m default).src))]).getD e default).dst) a39) (.skip _ _ (.skip _ _ .nil)) rfl) (ChD.s (.d (.bool (!(hasI (cIn S (q.1.getD q.2 default) (cTo x S (q.1.getD q.2 default) q.1 m) (x.arcs.getD m default) e) ((([(Stp.mk ((x.arcs.getD m default).src) ((x.arcs.getD m default).dst)), (Stp.mk ((x.arcs.getD m default).dst) ((x.arcs.getD m default).src))]).getD e default).dst))))) [] (.pure (.not _ _ rfl rfl)) (ChD.s (.d (.bool (!(hasI (cIn S (q.1.getD q.2 default) (cTo x S (q.1.getD q.2 default) q.1 m) (x.arcs.getD m default) e) ((([(Stp.mk ((x.arcs.getD m default).src) ((x.arcs.getD m default).dst)), (Stp.mk ((x.arcs.getD m default).dst) ((x.arcs.getD m default).src))]).getD e default).dst))))) [] (.pure (.pickT _ _ _ rfl rfl rfl)) ?_)))))
       refine ChD.nil (And.intro ?_ (by kernel_rfl))
       refine T_condN (b := (hasI (cIn S (q.1.getD q.2 default) (cTo x S (q.1.getD q.2 default) q.1 m) (x.arcs.getD m default) e) ((([(Stp.mk ((x.arcs.getD m default).src) ((x.arcs.getD m default).dst)), (Stp.mk ((x.arcs.getD m default).dst) ((x.arcs.getD m default).src))]).getD e default).dst))) rfl (fun h7 => ?_) (fun h7 => ?_)
       ·
        refine T_region hc (Ch.s (.row 7700) (.pure (.loadPtr1 _ _ rfl ag55 rfl rfl rfl)) (Ch.s (.ptr 12000 1) (.pure (.fldPtr _ _ _ rfl fld212_1 rfl)) (Ch.s (.d (.int .i64 ((([(Stp.mk ((x.arcs.getD m default).src) ((x.arcs.getD m default).dst)), (Stp.mk ((x.arcs.getD m default).dst) ((x.arcs.getD m default).src))]).getD e default).dst))) (.pure (.loadPtr1 _ _ rfl ag3 rfl rfl rfl)) (Ch.s (.row 75000) (.slice 75000 _ 3 _ rfl sty55 (xs := [.tmp 74]) rfl rfl (.cons (.d _) .nil) rfl rfl (by decide)) ?_))))
        refine Ch.step (v := (.row 76000)) rfl (.append 76000 _ _ _ 3 rfl sty55 (by decide) (.rowK rfl) (.inr ⟨_, rfl, rfl⟩) (.row rfl rfl) rfl a56) rfl rfl ?_
        refine Ch.s .junk (.storePtr _ _ _ rfl rfl rfl (.one _ rfl) sz55 (lb rfl)) (Ch.nil (T_region hc (Ch.s (.d (.int .i64 ((e : Int) + 1))) (iX rfl rfl intV_addA) (Ch.s (.d (.int .i64 ((e : Int) + 1))) pm (Ch.nil ?_)))))
        exact nx (e + 1) (by omega) (Wk.ren [(7700, 76000)] rfl rfl rfl rfl (ai rfl (ai rfl (ai rfl (ai rfl (ai rfl (ai rfl (ai rfl (ai rfl (ai rfl (ai rfl (ai rfl (ai (vI a114) trivial)))))))))))) (ai rfl (ai rfl (ai rfl (ai (oB (Eq.trans (b := [(.row 76000)]) rfl (by rfl))) (ai (oR a10) (ai rfl trivial)))))))
       ·
        refine T_skip (T_region hc (Ch.s (.d (.int .i64 ((e : Int) + 1))) (iX rfl rfl intV_addA) (Ch.s (.d (.int .i64 ((e : Int) + 1))) pm (Ch.nil ?_))))
        exact nx (e + 1) (by omega) (Wk.of rfl rfl (ai rfl (ai rfl (ai rfl (ai rfl (ai rfl (ai rfl (ai rfl (ai rfl (ai rfl (ai rfl (ai rfl (ai (vI a114) trivial)))))))))))) (ai rfl (ai rfl (ai rfl (ai rfl (ai (oR a10) (ai rfl trivial)))))))
      | false =>
       refine ChD.skip rfl rfl (ChD.skip rfl rfl (ChD.skip rfl rfl (ChD.skip rfl rfl (ChD.skip rfl rfl (ChD.s (.d (.bool false)) [] (.pure (.pickF _ _ _ rfl rfl rfl)) ?_)))))
       refine ChD.nil (And.intro ?_ (by kernel_rfl))
       refine T_cond (b := false) rfl (fun h => nomatch h) (fun _ => ?_)
       refine T_skip (T_region hc (Ch.s (.d (.int .i64 ((e : Int) + 1))) (iX rfl rfl intV_addA) (Ch.s (.d (.int .i64 ((e : Int) + 1))) pm (Ch.nil ?_))))
       exact nx (e + 1) (by omega) (Wk.of rfl rfl (ai rfl (ai rfl (ai rfl (ai rfl (ai rfl (ai rfl (ai rfl (ai rfl (ai rfl (ai rfl (ai rfl (ai (vI a114) trivial)))))))))))) (ai rfl (ai rfl (ai rfl (ai rfl (ai (oR a10) (ai rfl trivial)))))))
     | false =>
      replace h5 := of_decide_eq_false h5
      refine ChD.skip rfl rfl (ChD.skip rfl rfl (ChD.skip rfl rfl (ChD.skip rfl rfl (ChD.s (.d (.bool false)) [] (.pure (.pickF _ _ _ rfl rfl rfl)) (ChD.s (.d (.bool false)) [] pm (ChD.skip rfl rfl (ChD.skip rfl rfl ?_)))))))
      refine ChD.skip rfl rfl (ChD.skip rfl rfl (ChD.skip rfl rfl (ChD.s (.d (.bool false)) [] (.pure (.pickF _ _ _ rfl rfl rfl)) ?_)))
      refine ChD.nil (And.intro ?_ (by kernel_rfl))
      refine T_cond (b := false) rfl (fun h => nomatch h) (fun _ => ?_)
      refine T_skip (T_region hc (Ch.s (.d (.int .i64 ((e : Int) + 1))) (iX rfl rfl intV_addA) (Ch.s (.d (.int .i64 ((e : Int) + 1))) pm (Ch.nil ?_))))
      exact nx (e + 1) (by omega) (Wk.of rfl rfl (ai rfl (ai rfl (ai rfl (ai rfl (ai rfl (ai rfl (ai rfl (ai rfl (ai rfl (ai rfl (ai rfl (ai (vI a114) trivial)))))))))))) (ai rfl (ai rfl (ai rfl (ai rfl (ai (oR a10) (ai rfl trivial)))))))
    ·
     refine T_exit (T_region hc (Ch.s (.d (.int .i64 ((m : Int) + 1))) (iX rfl rfl intV_addA) (Ch.s (.d (.int .i64 ((m : Int) + 1))) pm (Ch.nil ?_))))
     exact nx (m + 1) (by omega) (Wk.of rfl rfl (ai rfl (ai rfl (ai rfl (ai rfl (ai rfl (ai rfl (ai rfl (ai rfl (ai (vI a114) trivial))))))))) (ai rfl (ai rfl (ai rfl (ai rfl (ai (oR a89) trivial))))))
   ·
    refine T_exit (T_region hc (Ch.s (.d (.int .i64 (q.2 : Int))) pm (Ch.s (.d (.int .i64 ((q.2 : Int) + 1))) (iX rfl rfl intV_addA) (Ch.s (.d (.int .i64 ((q.2 : Int) + 1))) pa (Ch.nil ?_)))))
    refine Exists.intro ((cTo x S (q.1.getD q.2 default) q.1 x.arcs.length, q.2 + 1)) (And.intro (hp1.step hen (by omega)) (And.intro (by dsimp only; omega) (Wk.of rfl rfl (ai rfl (ai rfl (ai rfl (ai rfl (ai rfl (ai (vI a114) trivial)))))) (ai rfl (ai rfl (ai rfl (ai rfl (ai (oR (by first | rfl | (rw [show m = x.arcs.length by omega]))) trivial))))))))
  ·
   try have hqe := hp1.end hso hlh.2.1 hlh.2.2.1 (by omega)
   try have hol2 : (tidI q.1).length ≤ 1048576 := by (have := tid_len leI q.1; unfold tidI; omega)
   refine T_exit (T_seq (T_region hc (Ch.s (.row 5) pm (Ch.s (.row 7700) (.pure (.loadPtr1 _ _ rfl ag55 rfl rfl rfl)) ?_))))
   refine Ch.heads 7700 7000002 rfl rfl (fun u1 => ?_)
   refine Ch.step (v := (.d (.hole u1))) rfl (.callU (m := 7000002) 81000 123 _ _ _ en123 rfl (.inl rfl) (.cons (.row rfl) .nil) rfl (sol rfl (solids_c (solid_row (fun _ => rfl) _) rfl)) (sp_tidyU u1 q.1 (by omega) hp1.nod) rfl rfl (.row _ _ _ .nil) rfl) rfl rfl ?_
   refine Ch.s (.row 82000) (.slice 82000 _ 55 _ rfl sty49 (xs := [.tmp 81]) rfl rfl (.cons (.d _) .nil) rfl rfl (by decide)) ?_
   refine Ch.step (v := (.row 83000)) rfl (.append 83000 _ _ _ 55 rfl sty49 (by decide) (.rowK rfl) (.inr ⟨_, rfl, rfl⟩) (.row rfl rfl) rfl a56) rfl rfl ?_
   refine Ch.s (.row 83000) pa (Ch.nil (T_region hc (Ch.s (.row 6) pm (Ch.s (.fn 216 [(.ptr 7000 0)]) (.pure (.func _ _ rfl rfl)) ?_))))
   refine Ch.step (v := (.row 86000)) rfl (.call 86000 215 _ _ _ en215 rfl (.inl rfl) (.cons (.row rfl) (.cons (.lend (.fn (.cons (.ptr rfl (.one (.row rfl (frozs_map (fun _ => rfl) _)) rfl)) .nil))) .nil)) rfl (sol (solid_row (fun _ => rfl) _) rfl) (sp_DeleteFunc_int (leftF S x.arcs x.codes.length B) 216 [(.ref (.slice false 1 ((tidI q.1).map (fun n : Int => D.int .i64 n))))] (hasI (tidI q.1)) en216 (fun k _ => sp_impl_components_1 k (tidI q.1) a123) a39) (.skip _ _ (.skip _ _ .nil)) rfl) rfl rfl ?_
   refine Ch.s (.row 86000) pa (Ch.nil ?_)
   exact nx (((leftF S x.arcs x.codes.length B).getD 0 default).toNat + 1) (by omega) (Wk.trans (Wk.give 83000 ((regTo S x.arcs x.codes.length B).length) 7700 7000002 rfl (get_last (by simp)) rfl rfl rfl (set_last (by simp))) (Wk.ren [(5, 83000), (6, 86000)] rfl rfl rfl rfl (ai rfl (ai rfl (ai rfl (ai rfl trivial)))) (ai (oR a105) (ai (oR a66) (ai rfl trivial)))))
 ·
  try have hlh := left_head hso (B := B) (by omega)
  try have hla := hlh.2.2.1
  refine T_exit (T_seq (T_region hc (Ch.s (.row 5) pm (Ch.s (.row 5) pa (Ch.nil (T_ret ?_))))))
  exact endR [(.row 5)] [] [5] (.cons (.tmp 4 rfl) .nil) (.cons (.any _) (.cons (.any _) .nil)) (Exp.of (congrArg (D.slice true 1) (by exact congrArg (List.map _) (left_end hso hp0 (by omega)))) (.row rfl)) rfl rfl

theorem sp_impl_excitationRegions (x : Sgr) (sig : Int) (up : Bool) (hb : x.bulk ≤ 1048576) (hx : SgOk x) : Sp Tryz.prog 88 [(.agg [(.slice false 2 (x.sigs.map Sgn.d)), (.slice false 1 (x.codes.map D.str)), (.slice false 4 (x.arcs.map Arc.d))]), (.int .i64 sig), (.bool (up))] [.any, .any, .any] (.slice true 1 ((exR x sig up).map intsU)) := by
 refine Sp_intro (lend := true) Tryz.func88 rfl rfl rfl (fun _ => rfl) (fun c hc hX => ?_)
 obtain ⟨hp0, hp1, hp2⟩ := Sgr.parts hb
 have hn0 := bulkF_len hp0
 have hn1 := bulk_len hp1
 have hx1 := bulk_mem hp1
 have hn2 := bulkF_len hp2; have hel : (excS x sig up).length ≤ 1048576 := Nat.le_trans (excTo_le x sig up x.arcs.length) hn1
 refine T_seq (T_region hc (Ch.s (.ptr 3000 0) (.box 3000 _ _ rfl (.aggD _)) (Ch.s (.c (.slice none 0 0)) pa (Ch.nil (T_seq ?_)))))
 refine T_regionD hc (by kernel_rfl) ?_
 refine ChD.s (.agg (vX x)) [3000] (.pure (.loadPtrA _ _ rfl ag35 sz35 rfl rfl (lb rfl) rfl)) (ChD.s (.agg (vX x)) [3000] (.pure (.loadPtrA _ _ rfl ag35 sz35 rfl rfl (lb rfl) rfl)) (ChD.s (.d (.int .i64 sig)) [] pm (ChD.s (.d (.bool (up))) [] pm (ChD.s (.agg [(.d (.int .i64 sig)), (.d (.bool (up)))]) [] (.build _ _ rfl stru107 (.cons (.one _ rfl) (.cons (.one _ rfl) .nil)) rfl) (ChD.s (.row 12000) [] (.call 12000 156 _ _ _ en156 rfl (.inl rfl) (.cons lX (.cons (.lend (.agg (.cons (.d _) (.cons (.d _) .nil)) rfl)) .nil)) rfl (sol (solid_row (fun _ => rfl) _) rfl) (sp_impl_excited x (Lab.mk sig up) a39 (by assumption)) (.skip _ _ (.skip _ _ .nil)) rfl) (ChD.s (.row 13000) [12000] (.call 13000 155 _ _ _ en155 rfl (.inl rfl) (.cons lX (.cons (.lend (.row rfl (frozs_map (fun _ => rfl) _))) .nil)) rfl (sol (solid_row intsU_sol _) rfl) (sp_impl_components x (excS x (Lab.mk sig up).sig (Lab.mk sig up).up) a39 (by assumption) (by first | assumption | exact setok hx _ _) a39) (.skip _ _ (.skip _ _ .nil)) rfl) (ChD.s (.row 13000) [] pa ?_)))))))
 refine ChD.nil (And.intro ?_ (by kernel_rfl))
 refine T_ret ?_
 exact endR [(.row 13000)] [] [13000] (.cons (.tmp 6 rfl) .nil) (.cons (.any _) (.cons (.any _) (.cons (.any _) .nil))) (Exp.of (congrArg (D.slice true 1) (by rfl)) (.row rfl)) rfl rfl

theorem en159 : Enters Tryz.prog 159 := ⟨_, Tryz.func159, by kernel_rfl, rfl⟩

theorem en157 : Enters Tryz.prog 157 := ⟨_, Tryz.func157, by kernel_rfl, rfl⟩

theorem en92 : Enters Tryz.prog 92 := ⟨_, Tryz.func92, by kernel_rfl, rfl⟩

theorem en90 : Enters Tryz.prog 90 := ⟨_, Tryz.func90, by kernel_rfl, rfl⟩

theorem en128 : Enters Tryz.prog 128 := ⟨_, Tryz.func128, by kernel_rfl, rfl⟩

theorem en126 : Enters Tryz.prog 126 := ⟨_, Tryz.func126, by kernel_rfl, rfl⟩

theorem en202 : Enters Tryz.prog 202 := ⟨_, Tryz.func202, by kernel_rfl, rfl⟩

theorem en200 : Enters Tryz.prog 200 := ⟨_, Tryz.func200, by kernel_rfl, rfl⟩

theorem en130 : Enters Tryz.prog 130 := ⟨_, Tryz.func130, by kernel_rfl, rfl⟩

theorem en129 : Enters Tryz.prog 129 := ⟨_, Tryz.func129, by kernel_rfl, rfl⟩

theorem sp_quiescent_1 (k : Int) (x : Sgr) (l : Lab) (o : List Int) (hb : x.bulk ≤ 1048576) (ho : o.length ≤ 1048576) : Sp Tryz.prog 159 [(.int .i64 k), (.ref (.agg [(.slice false 2 (x.sigs.map Sgn.d)), (.slice false 1 (x.codes.map D.str)), (.slice false 4 (x.arcs.map Arc.d))])), (.ref (.agg [(.int .i64 l.sig), (.bool (l.up))])), (.box [(.slice true 1 (o.map (fun n : Int => D.int .i64 n)))])] [.any, .any, .any, (.box [(.slice true 1 ((addQ x l.sig o k).map (fun n : Int => D.int .i64 n)))])] (.tup []) := by
 refine Sp_intro (lend := false) Tryz.func159 rfl rfl rfl (fun h => nomatch h) (fun c hc hX => ?_)
 refine T_open 1 8000010 rfl rfl rfl ?_
 obtain ⟨hp0, hp1, hp2⟩ := Sgr.parts hb
 have hn0 := bulkF_len hp0
 have hn1 := bulk_len hp1
 have hx1 := bulk_mem hp1
 have hn2 := bulkF_len hp2
 refine T_seq (T_region hc (Ch.s (.d (.agg [(.slice false 2 (x.sigs.map Sgn.d)), (.slice false 1 (x.codes.map D.str)), (.slice false 4 (x.arcs.map Arc.d))])) (.pure (.loadRefA _ _ rfl ag35 sz35 rfl)) (Ch.s (.d (.int .i64 k)) pm (Ch.s (.d (.ref (.int .i64 l.sig))) (.pure (.fldRef _ _ _ rfl fld107_0 rfl rfl rfl)) (Ch.s (.d (.int .i64 l.sig)) (.pure (.loadRef1 _ _ rfl ag3 rfl rfl)) (Ch.s (.d (.bool (excB x k l.sig))) (.call 9000 141 _ _ _ en141 rfl (.inl rfl) (.cons (.d _) (.cons (.d _) (.cons (.d _) .nil))) rfl rfl (sp_impl_isExcited x k l.sig a39) (.skip _ _ (.skip _ _ (.skip _ _ .nil))) rfl) (Ch.s (.d (.bool (!(excB x k l.sig)))) (.pure (.not _ _ rfl rfl)) ?_)))))))
 refine Ch.s (.d (.bool (!(excB x k l.sig)))) pm ?_
 cases h1 : (excB x k l.sig) with
 | true =>
  refine Ch.skip rfl rfl (Ch.skip rfl rfl (Ch.skip rfl rfl (Ch.skip rfl rfl (Ch.s (.d (.bool false)) (.pure (.pickF _ _ _ rfl rfl rfl)) (Ch.nil ?_)))))
  refine T_cond (b := false) rfl (fun h => nomatch h) (fun _ => ?_)
  refine T_skip ?_
  exact endN [] [1, 8000010] [] .nil (.cons (.any _) (.cons (.any _) (.cons (.any _) (.cons (.box rfl (.cons (Exp.of (congrArg (D.slice true 1) a37) (.row rfl)) .nil) rfl) .nil)))) (.tup .nil) rfl rfl
 | false =>
  refine Ch.s (.row 8000010) (.pure (.loadPtr1 _ _ rfl ag55 rfl rfl rfl)) (Ch.s (.d (.int .i64 k)) pm (Ch.s (.d (.bool (hasI o k))) (.call 14000 160 _ _ _ en160 rfl (.inl rfl) (.cons (.lend (.row rfl (frozs_map (fun _ => rfl) _))) (.cons (.d _) .nil)) rfl rfl (sp_Contains_int o k a39) (.skip _ _ (.skip _ _ .nil)) rfl) (Ch.s (.d (.bool (!(hasI o k)))) (.pure (.not _ _ rfl rfl)) (Ch.s (.d (.bool (!(hasI o k)))) (.pure (.pickT _ _ _ rfl rfl rfl)) (Ch.nil ?_)))))
  refine T_condN (b := (hasI o k)) rfl (fun h2 => ?_) (fun h2 => ?_)
  ·
   refine T_region hc (Ch.s (.row 8000010) (.pure (.loadPtr1 _ _ rfl ag55 rfl rfl rfl)) (Ch.s (.d (.int .i64 k)) pm (Ch.s (.row 19000) (.slice 19000 _ 3 _ rfl sty55 (xs := [.tmp 18]) rfl rfl (.cons (.d _) .nil) rfl rfl (by decide)) ?_)))
   refine Ch.step (v := (.row 20000)) rfl (.append 20000 _ _ _ 3 rfl sty55 (by decide) (.rowK rfl) (.inr ⟨_, rfl, rfl⟩) (.row rfl rfl) rfl a56) rfl rfl ?_
   refine Ch.s .junk (.storePtr _ _ _ rfl rfl rfl (.one _ rfl) sz55 (lb rfl)) (Ch.nil ?_)
   exact endN [] [1, 20000] [] .nil (.cons (.any _) (.cons (.any _) (.cons (.any _) (.cons (.box rfl (.cons (Exp.of (congrArg (D.slice true 1) a37) (.row rfl)) .nil) rfl) .nil)))) (.tup .nil) rfl rfl
  ·
   refine T_skip ?_
   exact endN [] [1, 8000010] [] .nil (.cons (.any _) (.cons (.any _) (.cons (.any _) (.cons (.box rfl (.cons (Exp.of (congrArg (D.slice true 1) a37) (.row rfl)) .nil) rfl) .nil)))) (.tup .nil) rfl rfl

set_option maxHeartbeats 2000000 in
theorem sp_impl_quiescent (x : Sgr) (l : Lab) (r : List Int) (hb : x.bulk ≤ 1048576) (hx : SgOk x) (h0 : 0 ≤ l.sig) (hr : ∀ a ∈ r, (0 ≤ a ∧ a.toNat < x.codes.length) ∧ a ∈ excS x l.sig l.up) (hrl : r.length ≤ 1048576) : Sp Tryz.prog 92 [(.agg [(.slice false 2 (x.sigs.map Sgn.d)), (.slice false 1 (x.codes.map D.str)), (.slice false 4 (x.arcs.map Arc.d))]), (.agg [(.int .i64 l.sig), (.bool (l.up))]), (.slice false 1 (r.map (fun n : Int => D.int .i64 n)))] [.any, .any, .any] (.slice true 1 ((quietL x l.sig r).map (fun n : Int => D.int .i64 n))) := by
 refine Sp_intro (lend := true) Tryz.func92 rfl rfl rfl (fun _ => rfl) (fun c hc hX => ?_)
 obtain ⟨hp0, hp1, hp2⟩ := Sgr.parts hb
 have hn0 := bulkF_len hp0
 have hn1 := bulk_len hp1
 have hx1 := bulk_mem hp1
 have hn2 := bulkF_len hp2; have hxl := hx.len; have hxf := hx.few; have hen := hx.ends; have hx8 := hx.eight
 refine T_seq (T_region hc (Ch.s (.ptr 3000 0) (.box 3000 _ _ rfl (.aggD _)) (Ch.s (.ptr 4000 0) (.box 4000 _ _ rfl (.aggD _)) (Ch.s (.c (.slice none 0 0)) pa (Ch.nil (T_seq (T_region hc ?_)))))))
 refine Ch.s (.row 14000) (.slice 14000 _ 3 _ rfl sty55 (xs := []) rfl rfl .nil rfl rfl (by decide)) (Ch.s (.ptr 7000 0) (.alloc 7000 _ rfl zer55) (Ch.s .junk (.storePtr _ _ _ rfl rfl rfl (.one _ rfl) sz55 (lb rfl)) (Ch.nil (T_seq (T_region hc (Ch.s (.fn 159 [(.ptr 3000 0), (.ptr 4000 0), (.ptr 7000 0)]) (.pure (.func _ _ rfl rfl)) (Ch.s (.fn 159 [(.ptr 3000 0), (.ptr 4000 0), (.ptr 7000 0)]) pa ?_)))))))
 refine Ch.nil (T_seq (T_seq (T_region hc (Ch.s (.ptr 3000 2) (.pure (.fldPtr _ _ _ rfl fld35_2 rfl)) (Ch.s (.d (.slice false 4 (x.arcs.map Arc.d))) (.pure (.loadPtr1 _ _ rfl ag33 rfl rfl rfl)) (Ch.s (.d (.int .i64 (x.arcs.length : Int))) (.pure (.len _ _ 125 rfl Tryz.underlying33 (.sh _ _) (by simp))) (Ch.s (.d (.int .i64 0)) pm ?_)))))))
 refine Ch.nil (T_block ?_)
 refine T_loop (ι := Nat) (fun k => { n := 65, sl := [(2, (.d (.slice false 1 (r.map (fun n : Int => D.int .i64 n))))), (3, (.ptr 3000 0)), (4, (.ptr 4000 0)), (7, (.ptr 7000 0)), (8, (.fn 159 [(.ptr 3000 0), (.ptr 4000 0), (.ptr 7000 0)])), (17, (.d (.slice false 4 (x.arcs.map Arc.d)))), (18, (.d (.int .i64 (x.arcs.length : Int)))), (19, (.d (.int .i64 (k : Int))))], hp := [(3000, (some (.box (vX x)))), (4000, (some (.box [(.d (.int .i64 l.sig)), (.d (.bool (l.up)))]))), (7000, (some (.box [(.row 7700)]))), (7700, (some (.row 1 ((q0To x l r k).map (fun n : Int => D.int .i64 n)))))], pin := [] }) (fun k => k ≤ x.arcs.length) (fun k => x.arcs.length - k) ⟨0, (by omega), (Wk.ren [(7700, 14000)] rfl rfl rfl rfl (ai rfl (ai rfl (ai rfl (ai rfl (ai rfl (ai rfl (ai rfl (ai (vI a114) trivial)))))))) (ai rfl (ai rfl (ai (oB (Eq.trans (b := [(.row 14000)]) rfl (by rfl))) (ai (oR a9) trivial)))))⟩ (fun k hp0 => ?_)
 have hq0 := (q0To_ok (x := x) (l := l) (r := r) k hp0).2.2
 refine T_seq (T_region hc (Ch.s (.d (.bool (decide ((k : Int) < (x.arcs.length : Int))))) (iX rfl rfl rfl) (Ch.nil (T_seq ?_))))
 refine T_condD (p := ((k : Int) < (x.arcs.length : Int))) rfl (fun h1 => ?_) (fun h1 => ?_)
 ·
  refine T_skip (T_seq (T_block (T_seq (T_region hc (Ch.s (.d (.ref (.agg [(.int .i64 ((x.arcs.getD k default).src)), (.int .i64 ((x.arcs.getD k default).sig)), (.bool ((x.arcs.getD k default).up)), (.int .i64 ((x.arcs.getD k default).dst))]))) (.pure (.idx _ _ _ 125 (k) rfl Tryz.underlying33 sz125 rfl rfl rfl get_mapA)) (Ch.s (.d (.agg [(.int .i64 ((x.arcs.getD k default).src)), (.int .i64 ((x.arcs.getD k default).sig)), (.bool ((x.arcs.getD k default).up)), (.int .i64 ((x.arcs.getD k default).dst))])) (.pure (.loadRefA _ _ rfl ag125 sz125 rfl)) (Ch.s (.ptr 10000 0) (.alloc 10000 _ rfl zer125) ?_)))))))
  refine Ch.s .junk (.storePtr _ _ _ rfl rfl rfl (.aggD _) sz125 (lb rfl)) (Ch.nil (T_seq ?_))
  refine T_regionD hc (by kernel_rfl) ?_
  refine ChD.s (.agg [(.d (.int .i64 ((x.arcs.getD k default).src))), (.d (.int .i64 ((x.arcs.getD k default).sig))), (.d (.bool ((x.arcs.getD k default).up))), (.d (.int .i64 ((x.arcs.getD k default).dst)))]) [10000] (.pure (.loadPtrA _ _ rfl ag125 sz125 rfl rfl (lb rfl) rfl)) (ChD.s (.d (.agg [(.int .i64 ((Lab.mk (x.arcs.getD k default).sig (x.arcs.getD k default).up).sig)), (.bool ((Lab.mk (x.arcs.getD k default).sig (x.arcs.getD k default).up).up))])) [] (.call 24000 161 _ _ _ en161 rfl (.inl rfl) (.cons (.lend (.agg (.cons (.d _) (.cons (.d _) (.cons (.d _) (.cons (.d _) .nil)))) rfl)) .nil) rfl rfl (sp_impl_labelOfArc (x.arcs.getD k default)) (.skip _ _ .nil) rfl) (ChD.s (.agg [(.d (.int .i64 l.sig)), (.d (.bool (l.up)))]) [4000] (.pure (.loadPtrA _ _ rfl ag107 sz107 rfl rfl (lb rfl) rfl)) (ChD.s (.d (.bool (decide ((Lab.mk (x.arcs.getD k default).sig (x.arcs.getD k default).up) = l)))) [] (.pure (.eqA _ _ _ _ rfl (eqa107 _ _ _ _) (.d _) (.v [(.int .i64 l.sig), (.bool (l.up))]) (Lab.eqv (Lab.mk (x.arcs.getD k default).sig (x.arcs.getD k default).up) l))) (ChD.s (.d (.bool (decide ((Lab.mk (x.arcs.getD k default).sig (x.arcs.getD k default).up) = l)))) [] pm ?_))))
  cases h2 : (decide ((Lab.mk (x.arcs.getD k default).sig (x.arcs.getD k default).up) = l)) with
  | true =>
   replace h2 := of_decide_eq_true h2
   refine ChD.s (.d (.slice false 1 (r.map (fun n : Int => D.int .i64 n)))) [] pm (ChD.s (.ptr 10000 0) [] (.pure (.fldPtr _ _ _ rfl fld125_0 rfl)) (ChD.s (.d (.int .i64 ((x.arcs.getD k default).src))) [10000] (.pure (.loadPtr1 _ _ rfl ag3 rfl rfl rfl)) (ChD.s (.d (.bool (hasI r ((x.arcs.getD k default).src)))) [] (.call 31000 160 _ _ _ en160 rfl (.inl rfl) (.cons (.d _) (.cons (.d _) .nil)) rfl rfl (sp_Contains_int r ((x.arcs.getD k default).src) a39) (.skip _ _ (.skip _ _ .nil)) rfl) (ChD.s (.d (.bool (hasI r ((x.arcs.getD k default).src)))) [] (.pure (.pickT _ _ _ rfl rfl rfl)) ?_))))
   refine ChD.nil (And.intro ?_ (by kernel_rfl))
   refine T_cond (b := (hasI r ((x.arcs.getD k default).src))) rfl (fun h3 => ?_) (fun h3 => ?_)
   ·
    refine T_region hc (Ch.s (.fn 159 [(.ptr 3000 0), (.ptr 4000 0), (.ptr 7000 0)]) pm (Ch.s (.ptr 10000 3) (.pure (.fldPtr _ _ _ rfl fld125_3 rfl)) (Ch.s (.d (.int .i64 ((x.arcs.getD k default).dst))) (.pure (.loadPtr1 _ _ rfl ag3 rfl rfl rfl)) ?_)))
    refine Ch.step (v := (.tup [])) rfl (.call 36000 159 _ _ _ en159 rfl (.inl rfl) (.cons (.d _) (.cons (.lend (.ptr rfl (.agg (.cons (.d _) (.cons (.d _) (.cons (.d _) .nil))) rfl))) (.cons (.lend (.ptr rfl (.agg (.cons (.d _) (.cons (.d _) .nil)) rfl))) (.cons (.box rfl (.cons (.row rfl) .nil) rfl) .nil)))) rfl (sol rfl (solids_c rfl (solids_c rfl (solids_c rfl (solids_c a104 rfl))))) (sp_quiescent_1 ((x.arcs.getD k default).dst) x l (q0To x l r k) a39 a39) (.skip _ _ (.skip _ _ (.skip _ _ (.box _ _ .nil)))) rfl) rfl rfl ?_
    refine Ch.opens 7000 8000010 rfl rfl rfl ?_
    refine Ch.nil (T_region hc (Ch.s (.d (.int .i64 ((k : Int) + 1))) (iX rfl rfl intV_addA) (Ch.s (.d (.int .i64 ((k : Int) + 1))) pm (Ch.nil ?_))))
    exact nx (k + 1) (by omega) (Wk.ren [(7700, 8000010)] rfl rfl rfl rfl (ai rfl (ai rfl (ai rfl (ai rfl (ai rfl (ai rfl (ai rfl (ai (vI a114) trivial)))))))) (ai rfl (ai rfl (ai (oB (Eq.trans (b := [(.row 8000010)]) rfl (by rfl))) (ai (oR a9) trivial)))))
   ·
    refine T_skip (T_region hc (Ch.s (.d (.int .i64 ((k : Int) + 1))) (iX rfl rfl intV_addA) (Ch.s (.d (.int .i64 ((k : Int) + 1))) pm (Ch.nil ?_))))
    exact nx (k + 1) (by omega) (Wk.of rfl rfl (ai rfl (ai rfl (ai rfl (ai rfl (ai rfl (ai rfl (ai rfl (ai (vI a114) trivial)))))))) (ai rfl (ai rfl (ai rfl (ai (oR a9) trivial)))))
  | false =>
   replace h2 := of_decide_eq_false h2
   refine ChD.skip rfl rfl (ChD.skip rfl rfl (ChD.skip rfl rfl (ChD.skip rfl rfl (ChD.s (.d (.bool false)) [] (.pure (.pickF _ _ _ rfl rfl rfl)) ?_))))
   refine ChD.nil (And.intro ?_ (by kernel_rfl))
   refine T_cond (b := false) rfl (fun h => nomatch h) (fun _ => ?_)
   refine T_skip (T_region hc (Ch.s (.d (.int .i64 ((k : Int) + 1))) (iX rfl rfl intV_addA) (Ch.s (.d (.int .i64 ((k : Int) + 1))) pm (Ch.nil ?_))))
   exact nx (k + 1) (by omega) (Wk.of rfl rfl (ai rfl (ai rfl (ai rfl (ai rfl (ai rfl (ai rfl (ai rfl (ai (vI a114) trivial)))))))) (ai rfl (ai rfl (ai rfl (ai (oR a9) trivial)))))
 ·
  refine T_exit (T_seq (T_seq (T_region hc (Ch.s (.d (.int .i64 0)) pa (Ch.nil (T_block ?_))))))
  refine T_loop (ι := List Int × Nat) (fun q => { n := 65, sl := [(3, (.ptr 3000 0)), (7, (.ptr 7000 0)), (8, (.fn 159 [(.ptr 3000 0), (.ptr 4000 0), (.ptr 7000 0)])), (11, (.d (.int .i64 (q.2 : Int))))], hp := [(3000, (some (.box (vX x)))), (4000, (some (.box [(.d (.int .i64 l.sig)), (.d (.bool (l.up)))]))), (7000, (some (.box [(.row 7700)]))), (7700, (some (.row 1 (q.1.map (fun n : Int => D.int .i64 n)))))], pin := [] }) (fun q => QLoop x l r q) (fun q => x.codes.length - q.2) ⟨(q0To x l r x.arcs.length, 0), (QLoop.zero hen l r), (Wk.of rfl rfl (ai rfl (ai rfl (ai rfl (ai (vI a114) trivial)))) (ai rfl (ai rfl (ai rfl (ai (oR a79) trivial)))))⟩ (fun q hp1 => ?_)
  have hol := hp1.inv.len
  refine T_seq (T_seq (T_region hc (Ch.s (.d (.int .i64 (q.2 : Int))) pm (Ch.s (.row 7700) (.pure (.loadPtr1 _ _ rfl ag55 rfl rfl rfl)) (Ch.s (.d (.int .i64 (q.1.length : Int))) (.pure (.len _ _ 3 rfl Tryz.underlying55 (.row rfl) (by simp))) (Ch.s (.d (.bool (decide ((q.2 : Int) < (q.1.length : Int))))) (iX rfl rfl rfl) (Ch.nil ?_)))))))
  refine T_condD (p := ((q.2 : Int) < (q.1.length : Int))) rfl (fun h4 => ?_) (fun h4 => ?_)
  ·
   refine T_skip (T_seq (T_block (T_seq (T_region hc (Ch.s (.ptr 3000 2) (.pure (.fldPtr _ _ _ rfl fld35_2 rfl)) (Ch.s (.d (.slice false 4 (x.arcs.map Arc.d))) (.pure (.loadPtr1 _ _ rfl ag33 rfl rfl rfl)) (Ch.s (.d (.int .i64 (x.arcs.length : Int))) (.pure (.len _ _ 125 rfl Tryz.underlying33 (.sh _ _) (by simp))) ?_)))))))
   refine Ch.s (.d (.int .i64 0)) pm (Ch.nil (T_block ?_))
   refine T_loop (ι := Nat) (fun m => { n := 65, sl := [(3, (.ptr 3000 0)), (7, (.ptr 7000 0)), (8, (.fn 159 [(.ptr 3000 0), (.ptr 4000 0), (.ptr 7000 0)])), (11, (.d (.int .i64 (q.2 : Int)))), (45, (.d (.slice false 4 (x.arcs.map Arc.d)))), (46, (.d (.int .i64 (x.arcs.length : Int)))), (47, (.d (.int .i64 (m : Int))))], hp := [(3000, (some (.box (vX x)))), (4000, (some (.box [(.d (.int .i64 l.sig)), (.d (.bool (l.up)))]))), (7000, (some (.box [(.row 7700)]))), (7700, (some (.row 1 ((q1To x l.sig (q.1.getD q.2 default) q.1 m).map (fun n : Int => D.int .i64 n)))))], pin := [] }) (fun m => m ≤ x.arcs.length) (fun m => x.arcs.length - m) ⟨0, (by omega), (Wk.of rfl rfl (ai rfl (ai rfl (ai rfl (ai rfl (ai rfl (ai rfl (ai (vI a114) trivial))))))) (ai rfl (ai rfl (ai rfl (ai (oR a44) trivial)))))⟩ (fun m hp2 => ?_)
   obtain ⟨hw1, ⟨hwr, hwe⟩, hw3⟩ := qw_tos hen hp1.inv (getD_mem (l := q.1) (j := q.2) (d := default) (by omega)) m hp2; have hwl := hw1.len; have hvs : q.2 < (q1To x l.sig (q.1.getD q.2 default) q.1 m).length := (by rw [hwe, List.length_append]; omega); have hvc : (q1To x l.sig (q.1.getD q.2 default) q.1 m).getD q.2 default = (q.1.getD q.2 default) := (by rw [hwe, getD_app (by omega)])
   refine T_seq (T_region hc (Ch.s (.d (.bool (decide ((m : Int) < (x.arcs.length : Int))))) (iX rfl rfl rfl) (Ch.nil (T_seq ?_))))
   refine T_condD (p := ((m : Int) < (x.arcs.length : Int))) rfl (fun h5 => ?_) (fun h5 => ?_)
   ·
    refine T_skip (T_seq (T_block (T_seq (T_region hc (Ch.s (.d (.ref (.agg [(.int .i64 ((x.arcs.getD m default).src)), (.int .i64 ((x.arcs.getD m default).sig)), (.bool ((x.arcs.getD m default).up)), (.int .i64 ((x.arcs.getD m default).dst))]))) (.pure (.idx _ _ _ 125 (m) rfl Tryz.underlying33 sz125 rfl rfl rfl get_mapA)) (Ch.s (.d (.agg [(.int .i64 ((x.arcs.getD m default).src)), (.int .i64 ((x.arcs.getD m default).sig)), (.bool ((x.arcs.getD m default).up)), (.int .i64 ((x.arcs.getD m default).dst))])) (.pure (.loadRefA _ _ rfl ag125 sz125 rfl)) (Ch.s (.ptr 13000 0) (.alloc 13000 _ rfl zer125) ?_)))))))
    refine Ch.s .junk (.storePtr _ _ _ rfl rfl rfl (.aggD _) sz125 (lb rfl)) (Ch.nil (T_seq ?_))
    refine T_regionD hc (by kernel_rfl) ?_
    refine ChD.s (.ptr 13000 0) [] (.pure (.fldPtr _ _ _ rfl fld125_0 rfl)) (ChD.s (.d (.int .i64 ((x.arcs.getD m default).src))) [13000] (.pure (.loadPtr1 _ _ rfl ag3 rfl rfl rfl)) (ChD.s (.row 7700) [7000] (.pure (.loadPtr1 _ _ rfl ag55 rfl rfl rfl)) (ChD.s (.d (.int .i64 (q.2 : Int))) [] pm (ChD.s (.el 7700 1 q.2 0) [7700] (.pure (.idxRow _ _ _ 3 (q.2) rfl Tryz.underlying55 sz3 rfl rfl rfl rfl a86)) (ChD.s (.d (.int .i64 ((q1To x l.sig (q.1.getD q.2 default) q.1 m).getD q.2 default))) [7700] (.pure (.loadEl1 _ _ rfl ag3 rfl rfl get_mapA rfl rfl rfl)) (ChD.s (.d (.bool (decide (((x.arcs.getD m default).src) = ((q1To x l.sig (q.1.getD q.2 default) q.1 m).getD q.2 default))))) [] (iX rfl rfl rfl) ?_))))))
    refine ChD.nil (And.intro ?_ (by kernel_rfl))
    refine T_condD (p := (((x.arcs.getD m default).src) = ((q1To x l.sig (q.1.getD q.2 default) q.1 m).getD q.2 default))) rfl (fun h6 => ?_) (fun h6 => ?_)
    ·
     refine T_region hc (Ch.s (.fn 159 [(.ptr 3000 0), (.ptr 4000 0), (.ptr 7000 0)]) pm (Ch.s (.ptr 13000 3) (.pure (.fldPtr _ _ _ rfl fld125_3 rfl)) (Ch.s (.d (.int .i64 ((x.arcs.getD m default).dst))) (.pure (.loadPtr1 _ _ rfl ag3 rfl rfl rfl)) ?_)))
     refine Ch.step (v := (.tup [])) rfl (.call 61000 159 _ _ _ en159 rfl (.inl rfl) (.cons (.d _) (.cons (.lend (.ptr rfl (.agg (.cons (.d _) (.cons (.d _) (.cons (.d _) .nil))) rfl))) (.cons (.lend (.ptr rfl (.agg (.cons (.d _) (.cons (.d _) .nil)) rfl))) (.cons (.box rfl (.cons (.row rfl) .nil) rfl) .nil)))) rfl (sol rfl (solids_c rfl (solids_c rfl (solids_c rfl (solids_c a104 rfl))))) (sp_quiescent_1 ((x.arcs.getD m default).dst) x l (q1To x l.sig (q.1.getD q.2 default) q.1 m) a39 a39) (.skip _ _ (.skip _ _ (.skip _ _ (.box _ _ .nil)))) rfl) rfl rfl ?_
     refine Ch.opens 7000 8000020 rfl rfl rfl ?_
     refine Ch.nil (T_region hc (Ch.s (.d (.int .i64 ((m : Int) + 1))) (iX rfl rfl intV_addA) (Ch.s (.d (.int .i64 ((m : Int) + 1))) pm (Ch.nil ?_))))
     exact nx (m + 1) (by omega) (Wk.ren [(7700, 8000020)] rfl rfl rfl rfl (ai rfl (ai rfl (ai rfl (ai rfl (ai rfl (ai rfl (ai (vI a114) trivial))))))) (ai rfl (ai rfl (ai (oB (Eq.trans (b := [(.row 8000020)]) rfl (by rfl))) (ai (oR a44) trivial)))))
    ·
     refine T_skip (T_region hc (Ch.s (.d (.int .i64 ((m : Int) + 1))) (iX rfl rfl intV_addA) (Ch.s (.d (.int .i64 ((m : Int) + 1))) pm (Ch.nil ?_))))
     exact nx (m + 1) (by omega) (Wk.of rfl rfl (ai rfl (ai rfl (ai rfl (ai rfl (ai rfl (ai rfl (ai (vI a114) trivial))))))) (ai rfl (ai rfl (ai rfl (ai (oR a44) trivial)))))
   ·
    refine T_exit (T_region hc (Ch.s (.d (.int .i64 (q.2 : Int))) pm (Ch.s (.d (.int .i64 ((q.2 : Int) + 1))) (iX rfl rfl intV_addA) (Ch.s (.d (.int .i64 ((q.2 : Int) + 1))) pa (Ch.nil ?_)))))
    refine Exists.intro ((q1To x l.sig (q.1.getD q.2 default) q.1 x.arcs.length, q.2 + 1)) (And.intro (hp1.step hen (by omega)) (And.intro (by dsimp only; omega) (Wk.of rfl rfl (ai rfl (ai rfl (ai rfl (ai (vI a114) trivial)))) (ai rfl (ai rfl (ai rfl (ai (oR a79) trivial)))))))
  ·
   refine T_exit (T_seq (T_region hc (Ch.s (.row 7700) (.pure (.loadPtr1 _ _ rfl ag55 rfl rfl rfl)) ?_)))
   refine Ch.step (v := (.row 64000)) rfl (.call 64000 123 _ _ _ en123 rfl (.inl rfl) (.cons (.row rfl) .nil) rfl (sol (solid_row (fun _ => rfl) _) rfl) (sp_impl_tidy q.1 a39) (.skip _ _ .nil) rfl) rfl rfl ?_
   refine Ch.s (.row 64000) pa (Ch.nil (T_ret ?_))
   exact endR [(.row 64000)] [] [64000] (.cons (.tmp 6 rfl) .nil) (.cons (.any _) (.cons (.any _) (.cons (.any _) .nil))) (Exp.of (congrArg (D.slice true 1) (by rw [hp1.end hx h0 hr (by omega)])) (.row rfl)) rfl rfl

set_option maxHeartbeats 2000000 in
theorem sp_spec_l17Quiet (x : Sgr) (sig : Int) (r : List Int) (hb : x.bulk ≤ 1048576) (hx : SgOk x) (hrl : r.length ≤ 1048576) : Sp Tryz.prog 90 [(.agg [(.slice false 2 (x.sigs.map Sgn.d)), (.slice false 1 (x.codes.map D.str)), (.slice false 4 (x.arcs.map Arc.d))]), (.int .i64 sig), (.slice false 1 (r.map (fun n : Int => D.int .i64 n)))] [.any, .any, .any] (.slice true 1 ((quietL x sig r).map (fun n : Int => D.int .i64 n))) := by
 refine Sp_intro (lend := true) Tryz.func90 rfl rfl rfl (fun _ => rfl) (fun c hc hX => ?_)
 obtain ⟨hp0, hp1, hp2⟩ := Sgr.parts hb
 have hn0 := bulkF_len hp0
 have hn1 := bulk_len hp1
 have hx1 := bulk_mem hp1
 have hn2 := bulkF_len hp2; have hxl := hx.len; have hxf := hx.few; have hen := hx.ends; have hx8 := hx.eight
 refine T_seq (T_region hc (Ch.s (.ptr 3000 0) (.box 3000 _ _ rfl (.aggD _)) (Ch.s (.c (.slice none 0 0)) pa (Ch.nil (T_seq (T_region hc (Ch.s (.ptr 3000 1) (.pure (.fldPtr _ _ _ rfl fld35_1 rfl)) ?_)))))))
 refine Ch.s (.d (.slice false 1 (x.codes.map D.str))) (.pure (.loadPtr1 _ _ rfl ag23 rfl rfl rfl)) (Ch.s (.d (.int .i64 (x.codes.length : Int))) (.pure (.len _ _ 9 rfl Tryz.underlying23 (.sh _ _) (by simp))) (Ch.s (.row 18000) (.make 18000 _ 4 _ _ (x.codes.length) (x.codes.length) rfl sty146 rfl rfl rfl rfl a43 a43 a43 (zeroD_mk (zd := (.bool false)) zr4 a120 rfl)) (Ch.s (.row 18000) pa (Ch.nil (T_seq (T_seq (T_region hc ?_)))))))
 refine Ch.s (.ptr 3000 2) (.pure (.fldPtr _ _ _ rfl fld35_2 rfl)) (Ch.s (.d (.slice false 4 (x.arcs.map Arc.d))) (.pure (.loadPtr1 _ _ rfl ag33 rfl rfl rfl)) (Ch.s (.d (.int .i64 (x.arcs.length : Int))) (.pure (.len _ _ 125 rfl Tryz.underlying33 (.sh _ _) (by simp))) (Ch.s (.d (.int .i64 0)) pm (Ch.nil (T_block ?_)))))
 refine T_loop (ι := Nat) (fun k => { n := 93, sl := [(1, (.d (.int .i64 sig))), (2, (.d (.slice false 1 (r.map (fun n : Int => D.int .i64 n))))), (3, (.ptr 3000 0)), (7, (.row 7)), (20, (.d (.slice false 4 (x.arcs.map Arc.d)))), (21, (.d (.int .i64 (x.arcs.length : Int)))), (22, (.d (.int .i64 (k : Int))))], hp := [(7, (some (.row 1 ((mq0 x sig r k).map D.bool)))), (3000, (some (.box (vX x))))], pin := [] }) (fun k => k ≤ x.arcs.length) (fun k => x.arcs.length - k) ⟨0, (by omega), (Wk.ren [(7, 18000)] rfl rfl rfl rfl (ai rfl (ai rfl (ai rfl (ai rfl (ai rfl (ai rfl (ai (vI a114) trivial))))))) (ai (oR a15) (ai rfl trivial)))⟩ (fun k hp0 => ?_)
 have hml := mq0_len x sig r k hp0
 refine T_seq (T_region hc (Ch.s (.d (.bool (decide ((k : Int) < (x.arcs.length : Int))))) (iX rfl rfl rfl) (Ch.nil (T_seq ?_))))
 refine T_condD (p := ((k : Int) < (x.arcs.length : Int))) rfl (fun h1 => ?_) (fun h1 => ?_)
 ·
  try have hek := hen _ (getD_mem (l := x.arcs) (j := k) (d := default) (by omega))
  refine T_skip (T_seq (T_block (T_seq (T_region hc (Ch.s (.d (.ref (.agg [(.int .i64 ((x.arcs.getD k default).src)), (.int .i64 ((x.arcs.getD k default).sig)), (.bool ((x.arcs.getD k default).up)), (.int .i64 ((x.arcs.getD k default).dst))]))) (.pure (.idx _ _ _ 125 (k) rfl Tryz.underlying33 sz125 rfl rfl rfl get_mapA)) (Ch.s (.d (.agg [(.int .i64 ((x.arcs.getD k default).src)), (.int .i64 ((x.arcs.getD k default).sig)), (.bool ((x.arcs.getD k default).up)), (.int .i64 ((x.arcs.getD k default).dst))])) (.pure (.loadRefA _ _ rfl ag125 sz125 rfl)) (Ch.s (.ptr 9000 0) (.alloc 9000 _ rfl zer125) ?_)))))))
  refine Ch.s .junk (.storePtr _ _ _ rfl rfl rfl (.aggD _) sz125 (lb rfl)) (Ch.nil (T_seq (T_region hc (Ch.s (.d (.slice false 1 (r.map (fun n : Int => D.int .i64 n)))) pm (Ch.s (.ptr 9000 0) (.pure (.fldPtr _ _ _ rfl fld125_0 rfl)) (Ch.s (.d (.int .i64 ((x.arcs.getD k default).src))) (.pure (.loadPtr1 _ _ rfl ag3 rfl rfl rfl)) (Ch.s (.d (.bool (hasI r ((x.arcs.getD k default).src)))) (.call 29000 157 _ _ _ en157 rfl (.inl rfl) (.cons (.d _) (.cons (.d _) .nil)) rfl rfl (sp_spec_l1Has r ((x.arcs.getD k default).src) a39) (.skip _ _ (.skip _ _ .nil)) rfl) ?_)))))))
  refine Ch.s (.d (.bool (hasI r ((x.arcs.getD k default).src)))) pm ?_
  cases h2 : (hasI r ((x.arcs.getD k default).src)) with
  | true =>
   refine Ch.s (.ptr 9000 1) (.pure (.fldPtr _ _ _ rfl fld125_1 rfl)) (Ch.s (.d (.int .i64 ((x.arcs.getD k default).sig))) (.pure (.loadPtr1 _ _ rfl ag3 rfl rfl rfl)) (Ch.s (.d (.int .i64 sig)) pm (Ch.s (.d (.bool (decide (((x.arcs.getD k default).sig) = sig)))) (iX rfl rfl rfl) (Ch.s (.d (.bool (decide (((x.arcs.getD k default).sig) = sig)))) (.pure (.pickT _ _ _ rfl rfl rfl)) (Ch.s (.d (.bool (decide (((x.arcs.getD k default).sig) = sig)))) pm ?_)))))
   cases h3 : (decide (((x.arcs.getD k default).sig) = sig)) with
   | true =>
    replace h3 := of_decide_eq_true h3
    refine Ch.s (.agg (vX x)) (.pure (.loadPtrA _ _ rfl ag35 sz35 rfl rfl (lb rfl) rfl)) (Ch.s (.ptr 9000 3) (.pure (.fldPtr _ _ _ rfl fld125_3 rfl)) (Ch.s (.d (.int .i64 ((x.arcs.getD k default).dst))) (.pure (.loadPtr1 _ _ rfl ag3 rfl rfl rfl)) (Ch.s (.d (.int .i64 sig)) pm (Ch.s (.d (.bool (excB x ((x.arcs.getD k default).dst) sig))) (.call 41000 158 _ _ _ en158 rfl (.inl rfl) (.cons lX (.cons (.d _) (.cons (.d _) .nil))) rfl rfl (sp_spec_l5Excited x ((x.arcs.getD k default).dst) sig a39) (.skip _ _ (.skip _ _ (.skip _ _ .nil))) rfl) (Ch.s (.d (.bool (!(excB x ((x.arcs.getD k default).dst) sig)))) (.pure (.not _ _ rfl rfl)) (Ch.s (.d (.bool (!(excB x ((x.arcs.getD k default).dst) sig)))) (.pure (.pickT _ _ _ rfl rfl rfl)) (Ch.nil ?_)))))))
    refine T_condN (b := (excB x ((x.arcs.getD k default).dst) sig)) rfl (fun h4 => ?_) (fun h4 => ?_)
    ·
     refine T_region hc (Ch.s (.row 7) pm (Ch.s (.ptr 9000 3) (.pure (.fldPtr _ _ _ rfl fld125_3 rfl)) (Ch.s (.d (.int .i64 ((x.arcs.getD k default).dst))) (.pure (.loadPtr1 _ _ rfl ag3 rfl rfl rfl)) (Ch.s (.el 7 1 ((((x.arcs.getD k default).dst)).toNat) 0) (.pure (.idxRow _ _ _ 4 ((((x.arcs.getD k default).dst)).toNat) rfl Tryz.underlying146 sz4 rfl rfl rfl (by omega) a86)) (Ch.s .junk (.storeEl (y' := (.bool true)) _ _ _ rfl rfl rfl (.d _) rfl sz4 rfl get_mapA rfl rfl) (Ch.nil (T_region hc ?_)))))))
     refine Ch.s (.d (.int .i64 ((k : Int) + 1))) (iX rfl rfl intV_addA) (Ch.s (.d (.int .i64 ((k : Int) + 1))) pm (Ch.nil ?_))
     exact nx (k + 1) (by omega) (Wk.of rfl rfl (ai rfl (ai rfl (ai rfl (ai rfl (ai rfl (ai rfl (ai (vI a114) trivial))))))) (ai (oR a15) (ai rfl trivial)))
    ·
     refine T_skip (T_region hc (Ch.s (.d (.int .i64 ((k : Int) + 1))) (iX rfl rfl intV_addA) (Ch.s (.d (.int .i64 ((k : Int) + 1))) pm (Ch.nil ?_))))
     exact nx (k + 1) (by omega) (Wk.of rfl rfl (ai rfl (ai rfl (ai rfl (ai rfl (ai rfl (ai rfl (ai (vI a114) trivial))))))) (ai (oR a15) (ai rfl trivial)))
   | false =>
    replace h3 := of_decide_eq_false h3
    refine Ch.skip rfl rfl (Ch.skip rfl rfl (Ch.skip rfl rfl (Ch.skip rfl rfl (Ch.skip rfl rfl (Ch.skip rfl rfl (Ch.s (.d (.bool false)) (.pure (.pickF _ _ _ rfl rfl rfl)) (Ch.nil ?_)))))))
    refine T_cond (b := false) rfl (fun h => nomatch h) (fun _ => ?_)
    refine T_skip (T_region hc (Ch.s (.d (.int .i64 ((k : Int) + 1))) (iX rfl rfl intV_addA) (Ch.s (.d (.int .i64 ((k : Int) + 1))) pm (Ch.nil ?_))))
    exact nx (k + 1) (by omega) (Wk.of rfl rfl (ai rfl (ai rfl (ai rfl (ai rfl (ai rfl (ai rfl (ai (vI a114) trivial))))))) (ai (oR a15) (ai rfl trivial)))
  | false =>
   refine Ch.skip rfl rfl (Ch.skip rfl rfl (Ch.skip rfl rfl (Ch.skip rfl rfl (Ch.s (.d (.bool false)) (.pure (.pickF _ _ _ rfl rfl rfl)) (Ch.s (.d (.bool false)) pm (Ch.skip rfl rfl (Ch.skip rfl rfl ?_)))))))
   refine Ch.skip rfl rfl (Ch.skip rfl rfl (Ch.skip rfl rfl (Ch.skip rfl rfl (Ch.s (.d (.bool false)) (.pure (.pickF _ _ _ rfl rfl rfl)) (Ch.nil ?_)))))
   refine T_cond (b := false) rfl (fun h => nomatch h) (fun _ => ?_)
   refine T_skip (T_region hc (Ch.s (.d (.int .i64 ((k : Int) + 1))) (iX rfl rfl intV_addA) (Ch.s (.d (.int .i64 ((k : Int) + 1))) pm (Ch.nil ?_))))
   exact nx (k + 1) (by omega) (Wk.of rfl rfl (ai rfl (ai rfl (ai rfl (ai rfl (ai rfl (ai rfl (ai (vI a114) trivial))))))) (ai (oR a15) (ai rfl trivial)))
 ·
  try have hek := hen _ (getD_mem (l := x.arcs) (j := k) (d := default) (by omega))
  refine T_exit (T_seq (T_seq (T_region hc (Ch.s (.row 7) pm (Ch.s (.d (.int .i64 ((mq0 x sig r k).length : Int))) (.pure (.len _ _ 4 rfl Tryz.underlying146 (.row rfl) (by simp))) (Ch.s (.d (.int .i64 0)) pm (Ch.nil ?_)))))))
  refine T_block ?_
  refine T_loop (ι := Nat) (fun p => { n := 93, sl := [(1, (.d (.int .i64 sig))), (3, (.ptr 3000 0)), (7, (.row 7)), (50, (.d (.int .i64 ((mq0 x sig r k).length : Int)))), (51, (.d (.int .i64 (p : Int))))], hp := [(7, (some (.row 1 ((mqR x sig r p).map D.bool)))), (3000, (some (.box (vX x))))], pin := [] }) (fun p => p ≤ x.codes.length) (fun p => x.codes.length - p) ⟨0, (by omega), (Wk.of rfl rfl (ai rfl (ai rfl (ai rfl (ai rfl (ai (vI a114) trivial))))) (ai (oR a84) (ai rfl trivial)))⟩ (fun p hp1 => ?_)
  have hml := mqR_len x sig r p
  refine T_seq (T_region hc (Ch.s (.d (.bool (decide ((p : Int) < ((mq0 x sig r k).length : Int))))) (iX rfl rfl rfl) (Ch.nil (T_seq ?_))))
  refine T_condD (p := ((p : Int) < ((mq0 x sig r k).length : Int))) rfl (fun h5 => ?_) (fun h5 => ?_)
  ·
   refine T_skip (T_seq (T_block (T_seq (T_region hc (Ch.s (.ptr 3000 2) (.pure (.fldPtr _ _ _ rfl fld35_2 rfl)) (Ch.s (.d (.slice false 4 (x.arcs.map Arc.d))) (.pure (.loadPtr1 _ _ rfl ag33 rfl rfl rfl)) (Ch.s (.d (.int .i64 (x.arcs.length : Int))) (.pure (.len _ _ 125 rfl Tryz.underlying33 (.sh _ _) (by simp))) ?_)))))))
   refine Ch.s (.d (.int .i64 0)) pm (Ch.nil (T_block ?_))
   refine T_loop (ι := Nat) (fun m => { n := 93, sl := [(1, (.d (.int .i64 sig))), (3, (.ptr 3000 0)), (7, (.row 7)), (50, (.d (.int .i64 ((mq0 x sig r k).length : Int)))), (51, (.d (.int .i64 (p : Int)))), (54, (.d (.slice false 4 (x.arcs.map Arc.d)))), (55, (.d (.int .i64 (x.arcs.length : Int)))), (56, (.d (.int .i64 (m : Int))))], hp := [(7, (some (.row 1 ((mqTo x sig r p m).map D.bool)))), (3000, (some (.box (vX x))))], pin := [] }) (fun m => m ≤ x.arcs.length) (fun m => x.arcs.length - m) ⟨0, (by omega), (Wk.of rfl rfl (ai rfl (ai rfl (ai rfl (ai rfl (ai rfl (ai rfl (ai rfl (ai (vI a114) trivial)))))))) (ai (oR a30) (ai rfl trivial)))⟩ (fun m hp2 => ?_)
   have hml := mqTo_len x sig r p m
   refine T_seq (T_region hc (Ch.s (.d (.bool (decide ((m : Int) < (x.arcs.length : Int))))) (iX rfl rfl rfl) (Ch.nil (T_seq ?_))))
   refine T_condD (p := ((m : Int) < (x.arcs.length : Int))) rfl (fun h6 => ?_) (fun h6 => ?_)
   ·
    try have hek := hen _ (getD_mem (l := x.arcs) (j := m) (d := default) (by omega))
    refine T_skip (T_seq (T_block (T_seq (T_region hc (Ch.s (.d (.ref (.agg [(.int .i64 ((x.arcs.getD m default).src)), (.int .i64 ((x.arcs.getD m default).sig)), (.bool ((x.arcs.getD m default).up)), (.int .i64 ((x.arcs.getD m default).dst))]))) (.pure (.idx _ _ _ 125 (m) rfl Tryz.underlying33 sz125 rfl rfl rfl get_mapA)) (Ch.s (.d (.agg [(.int .i64 ((x.arcs.getD m default).src)), (.int .i64 ((x.arcs.getD m default).sig)), (.bool ((x.arcs.getD m default).up)), (.int .i64 ((x.arcs.getD m default).dst))])) (.pure (.loadRefA _ _ rfl ag125 sz125 rfl)) (Ch.s (.ptr 11000 0) (.alloc 11000 _ rfl zer125) ?_)))))))
    refine Ch.s .junk (.storePtr _ _ _ rfl rfl rfl (.aggD _) sz125 (lb rfl)) (Ch.nil (T_seq (T_region hc (Ch.s (.row 7) pm (Ch.s (.ptr 11000 0) (.pure (.fldPtr _ _ _ rfl fld125_0 rfl)) (Ch.s (.d (.int .i64 ((x.arcs.getD m default).src))) (.pure (.loadPtr1 _ _ rfl ag3 rfl rfl rfl)) (Ch.s (.el 7 1 ((((x.arcs.getD m default).src)).toNat) 0) (.pure (.idxRow _ _ _ 4 ((((x.arcs.getD m default).src)).toNat) rfl Tryz.underlying146 sz4 rfl rfl rfl (by omega) a86)) ?_)))))))
    refine Ch.s (.d (.bool (((mqTo x sig r p m).getD ((((x.arcs.getD m default).src)).toNat) default)))) (.pure (.loadEl1 _ _ rfl ag4 rfl rfl get_mapA rfl rfl rfl)) (Ch.s (.d (.bool (((mqTo x sig r p m).getD ((((x.arcs.getD m default).src)).toNat) default)))) pm ?_)
    cases h7 : (((mqTo x sig r p m).getD ((((x.arcs.getD m default).src)).toNat) default)) with
    | true =>
     refine Ch.s (.agg (vX x)) (.pure (.loadPtrA _ _ rfl ag35 sz35 rfl rfl (lb rfl) rfl)) (Ch.s (.ptr 11000 3) (.pure (.fldPtr _ _ _ rfl fld125_3 rfl)) (Ch.s (.d (.int .i64 ((x.arcs.getD m default).dst))) (.pure (.loadPtr1 _ _ rfl ag3 rfl rfl rfl)) (Ch.s (.d (.int .i64 sig)) pm (Ch.s (.d (.bool (excB x ((x.arcs.getD m default).dst) sig))) (.call 70000 158 _ _ _ en158 rfl (.inl rfl) (.cons lX (.cons (.d _) (.cons (.d _) .nil))) rfl rfl (sp_spec_l5Excited x ((x.arcs.getD m default).dst) sig a39) (.skip _ _ (.skip _ _ (.skip _ _ .nil))) rfl) (Ch.s (.d (.bool (!(excB x ((x.arcs.getD m default).dst) sig)))) (.pure (.not _ _ rfl rfl)) (Ch.s (.d (.bool (!(excB x ((x.arcs.getD m default).dst) sig)))) (.pure (.pickT _ _ _ rfl rfl rfl)) (Ch.nil ?_)))))))
     refine T_condN (b := (excB x ((x.arcs.getD m default).dst) sig)) rfl (fun h8 => ?_) (fun h8 => ?_)
     ·
      refine T_region hc (Ch.s (.row 7) pm (Ch.s (.ptr 11000 3) (.pure (.fldPtr _ _ _ rfl fld125_3 rfl)) (Ch.s (.d (.int .i64 ((x.arcs.getD m default).dst))) (.pure (.loadPtr1 _ _ rfl ag3 rfl rfl rfl)) (Ch.s (.el 7 1 ((((x.arcs.getD m default).dst)).toNat) 0) (.pure (.idxRow _ _ _ 4 ((((x.arcs.getD m default).dst)).toNat) rfl Tryz.underlying146 sz4 rfl rfl rfl (by omega) a86)) (Ch.s .junk (.storeEl (y' := (.bool true)) _ _ _ rfl rfl rfl (.d _) rfl sz4 rfl get_mapA rfl rfl) (Ch.nil (T_region hc ?_)))))))
      refine Ch.s (.d (.int .i64 ((m : Int) + 1))) (iX rfl rfl intV_addA) (Ch.s (.d (.int .i64 ((m : Int) + 1))) pm (Ch.nil ?_))
      exact nx (m + 1) (by omega) (Wk.of rfl rfl (ai rfl (ai rfl (ai rfl (ai rfl (ai rfl (ai rfl (ai rfl (ai (vI a114) trivial)))))))) (ai (oR a30) (ai rfl trivial)))
     ·
      refine T_skip (T_region hc (Ch.s (.d (.int .i64 ((m : Int) + 1))) (iX rfl rfl intV_addA) (Ch.s (.d (.int .i64 ((m : Int) + 1))) pm (Ch.nil ?_))))
      exact nx (m + 1) (by omega) (Wk.of rfl rfl (ai rfl (ai rfl (ai rfl (ai rfl (ai rfl (ai rfl (ai rfl (ai (vI a114) trivial)))))))) (ai (oR a30) (ai rfl trivial)))
    | false =>
     refine Ch.skip rfl rfl (Ch.skip rfl rfl (Ch.skip rfl rfl (Ch.skip rfl rfl (Ch.skip rfl rfl (Ch.skip rfl rfl (Ch.s (.d (.bool false)) (.pure (.pickF _ _ _ rfl rfl rfl)) (Ch.nil ?_)))))))
     refine T_cond (b := false) rfl (fun h => nomatch h) (fun _ => ?_)
     refine T_skip (T_region hc (Ch.s (.d (.int .i64 ((m : Int) + 1))) (iX rfl rfl intV_addA) (Ch.s (.d (.int .i64 ((m : Int) + 1))) pm (Ch.nil ?_))))
     exact nx (m + 1) (by omega) (Wk.of rfl rfl (ai rfl (ai rfl (ai rfl (ai rfl (ai rfl (ai rfl (ai rfl (ai (vI a114) trivial)))))))) (ai (oR a30) (ai rfl trivial)))
   ·
    try have hek := hen _ (getD_mem (l := x.arcs) (j := m) (d := default) (by omega))
    refine T_exit (T_region hc (Ch.s (.d (.int .i64 ((p : Int) + 1))) (iX rfl rfl intV_addA) (Ch.s (.d (.int .i64 ((p : Int) + 1))) pm (Ch.nil ?_))))
    exact nx (p + 1) (by omega) (Wk.of rfl rfl (ai rfl (ai rfl (ai rfl (ai rfl (ai (vI a114) trivial))))) (ai (oR a84) (ai rfl trivial)))
  ·
   refine T_exit (T_seq (T_region hc (Ch.s (.c (.slice none 0 0)) pa (Ch.nil (T_seq (T_seq (T_region hc ?_)))))))
   refine Ch.s (.row 7) pm (Ch.s (.d (.int .i64 ((mqR x sig r p).length : Int))) (.pure (.len _ _ 4 rfl Tryz.underlying146 (.row rfl) (by simp))) (Ch.s (.d (.int .i64 0)) pm (Ch.nil (T_block ?_))))
   refine T_loop (ι := Nat) (fun v => { n := 93, sl := [(12, (.row 12)), (79, (.row 7)), (80, (.d (.int .i64 ((mqR x sig r p).length : Int)))), (81, (.d (.int .i64 (v : Int))))], hp := [(7, (some (.row 1 ((mqR x sig r p).map D.bool)))), (12, (some (.row 1 ((quietK x sig r v).map (fun n : Int => D.int .i64 n)))))], pin := [] }) (fun v => v ≤ x.codes.length) (fun v => x.codes.length - v) ⟨0, (by omega), (Wk.trans (Wk.nilrow 12 900012 1 rfl rfl rfl) (Wk.ren [(12, 900012)] rfl rfl rfl rfl (ai rfl (ai rfl (ai rfl (ai (vI a114) trivial)))) (ai rfl (ai (oR a57) trivial))))⟩ (fun v hp3 => ?_)
   have hpn : x.codes.length = p := (by omega); have hql := quietK_le x sig r v; have hml := mqR_len x sig r p
   refine T_seq (T_region hc (Ch.s (.d (.bool (decide ((v : Int) < ((mqR x sig r p).length : Int))))) (iX rfl rfl rfl) (Ch.nil (T_seq ?_))))
   refine T_condD (p := ((v : Int) < ((mqR x sig r p).length : Int))) rfl (fun h9 => ?_) (fun h9 => ?_)
   ·
    refine T_skip (T_seq (T_block (T_seq (T_region hc (Ch.s (.d (.int .i64 (v : Int))) pm (Ch.s (.el 7 1 v 0) (.pure (.idxRow _ _ _ 4 (v) rfl Tryz.underlying146 sz4 rfl rfl rfl rfl a86)) (Ch.s (.d (.bool (((mqR x sig r p).getD v default)))) (.pure (.loadEl1 _ _ rfl ag4 rfl rfl get_mapA rfl rfl rfl)) ?_)))))))
    refine Ch.s (.d (.int .i64 (v : Int))) pa (Ch.s (.d (.bool (((mqR x sig r p).getD v default)))) pa (Ch.nil (T_seq (T_region hc (Ch.s (.d (.bool (((mqR x sig r p).getD v default)))) pm (Ch.nil ?_))))))
    refine T_cond (b := (((mqR x sig r p).getD v default))) rfl (fun h10 => ?_) (fun h10 => ?_)
    ·
     refine T_region hc (Ch.s (.row 12) pm (Ch.s (.d (.int .i64 (v : Int))) pm (Ch.s (.row 89000) (.slice 89000 _ 3 _ rfl sty55 (xs := [.tmp 88]) rfl rfl (.cons (.d _) .nil) rfl rfl (by decide)) ?_)))
     refine Ch.step (v := (.row 90000)) rfl (.append 90000 _ _ _ 3 rfl sty55 (by decide) (.rowK rfl) (.inr ⟨_, rfl, rfl⟩) (.row rfl rfl) rfl a56) rfl rfl ?_
     refine Ch.s (.row 90000) pa (Ch.nil (T_region hc (Ch.s (.d (.int .i64 ((v : Int) + 1))) (iX rfl rfl intV_addA) (Ch.s (.d (.int .i64 ((v : Int) + 1))) pm (Ch.nil ?_)))))
     exact nx (v + 1) (by omega) (Wk.ren [(12, 90000)] rfl rfl rfl rfl (ai rfl (ai rfl (ai rfl (ai (vI a114) trivial)))) (ai rfl (ai (oR a57) trivial)))
    ·
     refine T_skip (T_region hc (Ch.s (.d (.int .i64 ((v : Int) + 1))) (iX rfl rfl intV_addA) (Ch.s (.d (.int .i64 ((v : Int) + 1))) pm (Ch.nil ?_))))
     exact nx (v + 1) (by omega) (Wk.of rfl rfl (ai rfl (ai rfl (ai rfl (ai (vI a114) trivial)))) (ai rfl (ai (oR a57) trivial)))
   ·
    refine T_exit (T_seq (T_region hc (Ch.s (.row 12) pm (Ch.s (.row 12) pa (Ch.nil (T_ret ?_))))))
    exact endR [(.row 12)] [] [12] (.cons (.tmp 6 rfl) .nil) (.cons (.any _) (.cons (.any _) (.cons (.any _) .nil))) (Exp.of (congrArg (D.slice true 1) (by rw [show v = x.codes.length by omega]; rfl)) (.row rfl)) rfl rfl

def mn1 (x : Sgr) (r : List Int) (u : List UInt8) : Bool := r.any fun k => !hasB u (x.codes.getD k.toNat default)

def mP2 (x : Sgr) (r q : List Int) (u : List UInt8) (k : Nat) : Bool := hasB u (x.codes.getD k default) && (!hasI r (k : Int) && !hasI q (k : Int))

def mn2 (x : Sgr) (r q : List Int) (u : List UInt8) : Bool := (List.range x.codes.length).any (mP2 x r q u)

def mP3 (x : Sgr) (r : List Int) (u : List UInt8) (a : Arc) : Bool := !hasB u (x.codes.getD a.src.toNat default) && (hasB u (x.codes.getD a.dst.toNat default) && !hasI r a.dst)

def mn3 (x : Sgr) (r : List Int) (u : List UInt8) : Bool := x.arcs.any (mP3 x r u)

def monN (x : Sgr) (r q : List Int) (u : List UInt8) : Nat := if mn1 x r u then 1 else if mn2 x r q u then 2 else if mn3 x r u then 3 else 0

theorem mon_1 {x : Sgr} {r q : List Int} {u : List UInt8} (k : Nat) (hk : k < r.length) (h : hasB u (x.codes.getD (r.getD k default).toNat default) = false) : monN x r q u = 1 := by
 have : mn1 x r u = true := List.any_eq_true.2 ⟨_, getD_mem (d := default) hk, by rw [h]; rfl⟩
 rw [monN, if_pos this]

theorem mn1_no {x : Sgr} {r : List Int} {u : List UInt8} (h : ∀ j, j < r.length → hasB u (x.codes.getD (r.getD j default).toNat default) = true) : mn1 x r u = false := by
 unfold mn1
 rw [List.any_eq_false]
 intro a ha
 obtain ⟨j, hj, rfl⟩ := List.mem_iff_getElem.1 ha
 have := h j hj
 rw [show r.getD j default = r[j] by simp [hj]] at this
 rw [this]; simp

theorem mon_2 {x : Sgr} {r q : List Int} {u : List UInt8} (h1 : ∀ j, j < r.length → hasB u (x.codes.getD (r.getD j default).toNat default) = true) (m : Nat) (hm : m < x.codes.length) (h : mP2 x r q u m = true) : monN x r q u = 2 := by
 have : mn2 x r q u = true := List.any_eq_true.2 ⟨m, List.mem_range.2 hm, h⟩
 rw [monN, mn1_no h1, this]; rfl

theorem mn2_no {x : Sgr} {r q : List Int} {u : List UInt8} (h : ∀ j, j < x.codes.length → mP2 x r q u j = false) : mn2 x r q u = false := by
 unfold mn2
 rw [List.any_eq_false]
 intro a ha
 rw [h a (List.mem_range.1 ha)]; simp

theorem mon_3 {x : Sgr} {r q : List Int} {u : List UInt8} (h1 : ∀ j, j < r.length → hasB u (x.codes.getD (r.getD j default).toNat default) = true) (h2 : ∀ j, j < x.codes.length → mP2 x r q u j = false) (m : Nat) (hm : m < x.arcs.length) (h : mP3 x r u (x.arcs.getD m default) = true) : monN x r q u = 3 := by
 have : mn3 x r u = true := List.any_eq_true.2 ⟨_, getD_mem hm, h⟩
 rw [monN, mn1_no h1, mn2_no h2, this]; rfl

theorem mon_0 {x : Sgr} {r q : List Int} {u : List UInt8} (h1 : ∀ j, j < r.length → hasB u (x.codes.getD (r.getD j default).toNat default) = true) (h2 : ∀ j, j < x.codes.length → mP2 x r q u j = false) (h3 : ∀ j, j < x.arcs.length → mP3 x r u (x.arcs.getD j default) = false) : monN x r q u = 0 := by
 have : mn3 x r u = false := by
  unfold mn3
  rw [List.any_eq_false]
  intro a ha
  obtain ⟨j, hj, rfl⟩ := List.mem_iff_getElem.1 ha
  have := h3 j hj
  rw [show x.arcs.getD j default = x.arcs[j] by simp [hj]] at this
  rw [this]; simp
 rw [monN, mn1_no h1, mn2_no h2, this]; rfl

def bcStep (x : Sgr) (r q : List Int) (p : List UInt8 × Bool) (c : List UInt8) : List UInt8 × Bool := if (!p.2 || decide (lits [c] < lits [p.1])) && decide (monN x r q c = 0) then (c, true) else p

def bcTo (x : Sgr) (r q : List Int) (k : Nat) : List UInt8 × Bool := ((cubes x.sigs.length).take k).foldl (bcStep x r q) ([], false)

def bestF (x : Sgr) (sig : Int) (r : List Int) : List UInt8 × Bool := bcTo x r (quietL x sig r) (cubes x.sigs.length).length

theorem bcTo_succ {x : Sgr} {r q : List Int} {k : Nat} (h : k < (cubes x.sigs.length).length) : bcTo x r q (k + 1) = bcStep x r q (bcTo x r q k) ((cubes x.sigs.length).getD k default) := by
 have hg : (cubes x.sigs.length).getD k default = (cubes x.sigs.length)[k] := by simp [h]
 unfold bcTo
 rw [List.take_succ_eq_append_getElem h, List.foldl_append, hg]; rfl

theorem bc_yes {x : Sgr} {r q : List Int} {k : Nat} (h : k < (cubes x.sigs.length).length) (h1 : (bcTo x r q k).2 = false ∨ lits [(cubes x.sigs.length).getD k default] < lits [(bcTo x r q k).1]) (h2 : monN x r q ((cubes x.sigs.length).getD k default) = 0) : bcTo x r q (k + 1) = ((cubes x.sigs.length).getD k default, true) := by
  rw [bcTo_succ h, bcStep, decide_eq_true h2]
  rcases h1 with h1 | h1
  · rw [h1]; rfl
  · rw [decide_eq_true h1]; simp

theorem bc_no1 {x : Sgr} {r q : List Int} {k : Nat} (h : k < (cubes x.sigs.length).length) (h1 : (bcTo x r q k).2 = true) (h2 : ¬ lits [(cubes x.sigs.length).getD k default] < lits [(bcTo x r q k).1]) : bcTo x r q (k + 1) = bcTo x r q k := by
 rw [bcTo_succ h, bcStep, h1, decide_eq_false h2]; rfl

theorem bc_no2 {x : Sgr} {r q : List Int} {k : Nat} (h : k < (cubes x.sigs.length).length) (h2 : ¬ monN x r q ((cubes x.sigs.length).getD k default) = 0) : bcTo x r q (k + 1) = bcTo x r q k := by
 rw [bcTo_succ h, bcStep, decide_eq_false h2, Bool.and_false]; rfl

theorem bcTo_len (x : Sgr) (r q : List Int) : ∀ k, k ≤ (cubes x.sigs.length).length → (bcTo x r q k).1.length ≤ x.sigs.length
  | 0, _ => Nat.zero_le _
  | k + 1, h => by
    have ih := bcTo_len x r q k (by omega)
    rw [bcTo_succ (by omega), bcStep]
    split
    · exact Nat.le_of_eq (cubes_mem _ _ (getD_mem (by omega)))
    · exact ih

theorem bulk_one {c : List UInt8} {n : Nat} (h : c.length ≤ n) : bulkS [c] ≤ n + 1 := by
 unfold bulkS; simp; omega

set_option maxHeartbeats 2000000 in
theorem sp_impl_monotonous (x : Sgr) (r q : List Int) (u : List UInt8) (hb : x.bulk ≤ 1048576) (hx : SgOk x) (hr : ∀ a ∈ r, 0 ≤ a ∧ a.toNat < x.codes.length) (hrl : r.length ≤ 1048576) (hql : q.length ≤ 1048576) (hu : u.length = x.sigs.length) : Sp Tryz.prog 128 [(.agg [(.slice false 2 (x.sigs.map Sgn.d)), (.slice false 1 (x.codes.map D.str)), (.slice false 4 (x.arcs.map Arc.d))]), (.slice false 1 (r.map (fun n : Int => D.int .i64 n))), (.slice false 1 (q.map (fun n : Int => D.int .i64 n))), (.str u)] [.any, .any, .any, .any] (.int .i64 (monN x r q u : Int)) := by
 refine Sp_intro (lend := true) Tryz.func128 rfl rfl rfl (fun _ => rfl) (fun c hc hX => ?_)
 obtain ⟨hp0, hp1, hp2⟩ := Sgr.parts hb
 have hn0 := bulkF_len hp0
 have hn1 := bulk_len hp1
 have hx1 := bulk_mem hp1
 have hn2 := bulkF_len hp2; have hxl := hx.len; have hxf := hx.few; have hen := hx.ends; have hx8 := hx.eight; have hck : ∀ k : Int, 0 ≤ k → k.toNat < x.codes.length → (x.codes.getD k.toNat default).length = x.sigs.length := fun k h0 h1 => (codes_at hx.codes k h0 (by omega)).2
 refine T_seq (T_region hc (Ch.s (.ptr 4000 0) (.box 4000 _ _ rfl (.aggD _)) (Ch.s (.d (.int .i64 0)) pa (Ch.nil (T_seq (T_seq (T_region hc ?_)))))))
 refine Ch.s (.d (.slice false 1 (r.map (fun n : Int => D.int .i64 n)))) pm (Ch.s (.d (.int .i64 (r.length : Int))) (.pure (.len _ _ 3 rfl Tryz.underlying55 (.sh _ _) (by simp))) (Ch.s (.d (.int .i64 0)) pm (Ch.nil (T_block ?_))))
 refine T_loop (ι := Nat) (fun k => { n := 88, sl := [(1, (.d (.slice false 1 (r.map (fun n : Int => D.int .i64 n))))), (2, (.d (.slice false 1 (q.map (fun n : Int => D.int .i64 n))))), (3, (.d (.str u))), (4, (.ptr 4000 0)), (15, (.d (.slice false 1 (r.map (fun n : Int => D.int .i64 n))))), (16, (.d (.int .i64 (r.length : Int)))), (17, (.d (.int .i64 (k : Int))))], hp := [(4000, (some (.box (vX x))))], pin := [] }) (fun k => k ≤ r.length ∧ ∀ j, j < k → hasB u (x.codes.getD (r.getD j default).toNat default) = true) (fun k => r.length - k) ⟨0, ⟨by omega, fun j hj => by omega⟩, (Wk.of rfl rfl (ai rfl (ai rfl (ai rfl (ai rfl (ai rfl (ai rfl (ai (vI a114) trivial))))))) (ai rfl trivial))⟩ (fun k hp0 => ?_)
 refine T_seq (T_region hc (Ch.s (.d (.bool (decide ((k : Int) < (r.length : Int))))) (iX rfl rfl rfl) (Ch.nil (T_seq ?_))))
 refine T_condD (p := ((k : Int) < (r.length : Int))) rfl (fun h1 => ?_) (fun h1 => ?_)
 ·
  try have hrk := hr _ (getD_mem (l := r) (j := k) (d := default) (by omega))
  try have hlk := hck _ hrk.1 hrk.2
  refine T_skip (T_seq (T_block (T_seq (T_region hc (Ch.s (.d (.ref (.int .i64 (r.getD k default)))) (.pure (.idx _ _ _ 3 (k) rfl Tryz.underlying55 sz3 rfl rfl rfl get_mapA)) (Ch.s (.d (.int .i64 (r.getD k default))) (.pure (.loadRef1 _ _ rfl ag3 rfl rfl)) (Ch.s (.d (.int .i64 (r.getD k default))) pa ?_)))))))
  refine Ch.nil (T_seq (T_region hc (Ch.s (.d (.str u)) pm (Ch.s (.ptr 4000 1) (.pure (.fldPtr _ _ _ rfl fld35_1 rfl)) (Ch.s (.d (.slice false 1 (x.codes.map D.str))) (.pure (.loadPtr1 _ _ rfl ag23 rfl rfl rfl)) (Ch.s (.d (.int .i64 (r.getD k default))) pm (Ch.s (.d (.ref (.str (x.codes.getD (((r.getD k default)).toNat) default)))) (.pure (.idx _ _ _ 9 (((r.getD k default)).toNat) rfl Tryz.underlying23 sz9 rfl rfl (by omega) get_mapA)) ?_)))))))
  refine Ch.s (.d (.str (x.codes.getD (((r.getD k default)).toNat) default))) (.pure (.loadRef1 _ _ rfl ag9 rfl rfl)) (Ch.s (.d (.bool (hasB u (x.codes.getD (((r.getD k default)).toNat) default)))) (.call 27000 198 _ _ _ en198 rfl (.inl rfl) (.cons (.d _) (.cons (.d _) .nil)) rfl rfl (sp_impl_contains u (x.codes.getD (((r.getD k default)).toNat) default) a23 a23) (.skip _ _ (.skip _ _ .nil)) rfl) (Ch.s (.d (.bool (!(hasB u (x.codes.getD (((r.getD k default)).toNat) default))))) (.pure (.not _ _ rfl rfl)) (Ch.nil ?_)))
  refine T_condN (b := (hasB u (x.codes.getD (((r.getD k default)).toNat) default))) rfl (fun h2 => ?_) (fun h2 => ?_)
  ·
   refine T_seq (T_region hc (Ch.s (.d (.int .i64 1)) pa (Ch.nil (T_ret ?_))))
   exact endR [(.d (.int .i64 1))] [] [] (.cons (.tmp 8 rfl) .nil) (.cons (.any _) (.cons (.any _) (.cons (.any _) (.cons (.any _) .nil)))) (Exp.of (congrArg (D.int .i64) a5) (.d _)) rfl rfl
  ·
   refine T_skip (T_region hc (Ch.s (.d (.int .i64 ((k : Int) + 1))) (iX rfl rfl intV_addA) (Ch.s (.d (.int .i64 ((k : Int) + 1))) pm (Ch.nil ?_))))
   exact nx (k + 1) ⟨by omega, upto_succ hp0.2 (by assumption)⟩ (Wk.of rfl rfl (ai rfl (ai rfl (ai rfl (ai rfl (ai rfl (ai rfl (ai (vI a114) trivial))))))) (ai rfl trivial))
 ·
  try have hrk := hr _ (getD_mem (l := r) (j := k) (d := default) (by omega))
  try have hlk := hck _ hrk.1 hrk.2
  refine T_exit (T_seq (T_seq (T_region hc (Ch.s (.ptr 4000 1) (.pure (.fldPtr _ _ _ rfl fld35_1 rfl)) (Ch.s (.d (.slice false 1 (x.codes.map D.str))) (.pure (.loadPtr1 _ _ rfl ag23 rfl rfl rfl)) (Ch.s (.d (.int .i64 (x.codes.length : Int))) (.pure (.len _ _ 9 rfl Tryz.underlying23 (.sh _ _) (by simp))) (Ch.s (.d (.int .i64 0)) pm ?_)))))))
  refine Ch.nil (T_block ?_)
  refine T_loop (ι := Nat) (fun m => { n := 88, sl := [(1, (.d (.slice false 1 (r.map (fun n : Int => D.int .i64 n))))), (2, (.d (.slice false 1 (q.map (fun n : Int => D.int .i64 n))))), (3, (.d (.str u))), (4, (.ptr 4000 0)), (31, (.d (.slice false 1 (x.codes.map D.str)))), (32, (.d (.int .i64 (x.codes.length : Int)))), (33, (.d (.int .i64 (m : Int))))], hp := [(4000, (some (.box (vX x))))], pin := [] }) (fun m => m ≤ x.codes.length ∧ ∀ j, j < m → mP2 x r q u j = false) (fun m => x.codes.length - m) ⟨0, ⟨by omega, fun j hj => by omega⟩, (Wk.of rfl rfl (ai rfl (ai rfl (ai rfl (ai rfl (ai rfl (ai rfl (ai (vI a114) trivial))))))) (ai rfl trivial))⟩ (fun m hp1 => ?_)
  refine T_seq (T_region hc (Ch.s (.d (.bool (decide ((m : Int) < (x.codes.length : Int))))) (iX rfl rfl rfl) (Ch.nil (T_seq ?_))))
  refine T_condD (p := ((m : Int) < (x.codes.length : Int))) rfl (fun h3 => ?_) (fun h3 => ?_)
  ·
   try have hlm : (x.codes.getD m default).length = x.sigs.length := hck (m : Int) (by omega) (by omega)
   refine T_skip (T_seq (T_block (T_seq (T_region hc (Ch.s (.d (.int .i64 (m : Int))) pm (Ch.s (.d (.ref (.str (x.codes.getD m default)))) (.pure (.idx _ _ _ 9 (m) rfl Tryz.underlying23 sz9 rfl rfl rfl get_mapA)) (Ch.s (.d (.str (x.codes.getD m default))) (.pure (.loadRef1 _ _ rfl ag9 rfl rfl)) ?_)))))))
   refine Ch.s (.d (.int .i64 (m : Int))) pa (Ch.s (.d (.str (x.codes.getD m default))) pa (Ch.nil (T_seq (T_region hc (Ch.s (.d (.str u)) pm (Ch.s (.d (.str (x.codes.getD m default))) pm (Ch.s (.d (.bool (hasB u (x.codes.getD m default)))) (.call 40000 198 _ _ _ en198 rfl (.inl rfl) (.cons (.d _) (.cons (.d _) .nil)) rfl rfl (sp_impl_contains u (x.codes.getD m default) a23 a23) (.skip _ _ (.skip _ _ .nil)) rfl) ?_)))))))
   refine Ch.s (.d (.bool (hasB u (x.codes.getD m default)))) pm ?_
   cases h4 : (hasB u (x.codes.getD m default)) with
   | true =>
    refine Ch.s (.d (.slice false 1 (r.map (fun n : Int => D.int .i64 n)))) pm (Ch.s (.d (.int .i64 (m : Int))) pm (Ch.s (.d (.bool (hasI r (m : Int)))) (.call 44000 160 _ _ _ en160 rfl (.inl rfl) (.cons (.d _) (.cons (.d _) .nil)) rfl rfl (sp_Contains_int r (m : Int) a39) (.skip _ _ (.skip _ _ .nil)) rfl) (Ch.s (.d (.bool (!(hasI r (m : Int))))) (.pure (.not _ _ rfl rfl)) (Ch.s (.d (.bool (!(hasI r (m : Int))))) (.pure (.pickT _ _ _ rfl rfl rfl)) (Ch.s (.d (.bool (!(hasI r (m : Int))))) pm ?_)))))
    cases h5 : (hasI r (m : Int)) with
    | true =>
     refine Ch.skip rfl rfl (Ch.skip rfl rfl (Ch.skip rfl rfl (Ch.skip rfl rfl (Ch.s (.d (.bool false)) (.pure (.pickF _ _ _ rfl rfl rfl)) (Ch.nil ?_)))))
     refine T_cond (b := false) rfl (fun h => nomatch h) (fun _ => ?_)
     refine T_skip (T_region hc (Ch.s (.d (.int .i64 ((m : Int) + 1))) (iX rfl rfl intV_addA) (Ch.s (.d (.int .i64 ((m : Int) + 1))) pm (Ch.nil ?_))))
     exact nx (m + 1) ⟨by omega, upto_succ hp1.2 a68⟩ (Wk.of rfl rfl (ai rfl (ai rfl (ai rfl (ai rfl (ai rfl (ai rfl (ai (vI a114) trivial))))))) (ai rfl trivial))
    | false =>
     refine Ch.s (.d (.slice false 1 (q.map (fun n : Int => D.int .i64 n)))) pm (Ch.s (.d (.int .i64 (m : Int))) pm (Ch.s (.d (.bool (hasI q (m : Int)))) (.call 50000 160 _ _ _ en160 rfl (.inl rfl) (.cons (.d _) (.cons (.d _) .nil)) rfl rfl (sp_Contains_int q (m : Int) a39) (.skip _ _ (.skip _ _ .nil)) rfl) (Ch.s (.d (.bool (!(hasI q (m : Int))))) (.pure (.not _ _ rfl rfl)) (Ch.s (.d (.bool (!(hasI q (m : Int))))) (.pure (.pickT _ _ _ rfl rfl rfl)) (Ch.nil ?_)))))
     refine T_condN (b := (hasI q (m : Int))) rfl (fun h6 => ?_) (fun h6 => ?_)
     ·
      refine T_seq (T_region hc (Ch.s (.d (.int .i64 2)) pa (Ch.nil (T_ret ?_))))
      exact endR [(.d (.int .i64 2))] [] [] (.cons (.tmp 8 rfl) .nil) (.cons (.any _) (.cons (.any _) (.cons (.any _) (.cons (.any _) .nil)))) (Exp.of (congrArg (D.int .i64) a5) (.d _)) rfl rfl
     ·
      refine T_skip (T_region hc (Ch.s (.d (.int .i64 ((m : Int) + 1))) (iX rfl rfl intV_addA) (Ch.s (.d (.int .i64 ((m : Int) + 1))) pm (Ch.nil ?_))))
      exact nx (m + 1) ⟨by omega, upto_succ hp1.2 a68⟩ (Wk.of rfl rfl (ai rfl (ai rfl (ai rfl (ai rfl (ai rfl (ai rfl (ai (vI a114) trivial))))))) (ai rfl trivial))
   | false =>
    refine Ch.skip rfl rfl (Ch.skip rfl rfl (Ch.skip rfl rfl (Ch.skip rfl rfl (Ch.s (.d (.bool false)) (.pure (.pickF _ _ _ rfl rfl rfl)) (Ch.s (.d (.bool false)) pm (Ch.skip rfl rfl (Ch.skip rfl rfl ?_)))))))
    refine Ch.skip rfl rfl (Ch.skip rfl rfl (Ch.s (.d (.bool false)) (.pure (.pickF _ _ _ rfl rfl rfl)) (Ch.nil ?_)))
    refine T_cond (b := false) rfl (fun h => nomatch h) (fun _ => ?_)
    refine T_skip (T_region hc (Ch.s (.d (.int .i64 ((m : Int) + 1))) (iX rfl rfl intV_addA) (Ch.s (.d (.int .i64 ((m : Int) + 1))) pm (Ch.nil ?_))))
    exact nx (m + 1) ⟨by omega, upto_succ hp1.2 a68⟩ (Wk.of rfl rfl (ai rfl (ai rfl (ai rfl (ai rfl (ai rfl (ai rfl (ai (vI a114) trivial))))))) (ai rfl trivial))
  ·
   try have hlm : (x.codes.getD m default).length = x.sigs.length := hck (m : Int) (by omega) (by omega)
   refine T_exit (T_seq (T_seq (T_region hc (Ch.s (.ptr 4000 2) (.pure (.fldPtr _ _ _ rfl fld35_2 rfl)) (Ch.s (.d (.slice false 4 (x.arcs.map Arc.d))) (.pure (.loadPtr1 _ _ rfl ag33 rfl rfl rfl)) (Ch.s (.d (.int .i64 (x.arcs.length : Int))) (.pure (.len _ _ 125 rfl Tryz.underlying33 (.sh _ _) (by simp))) (Ch.s (.d (.int .i64 0)) pm ?_)))))))
   refine Ch.nil (T_block ?_)
   refine T_loop (ι := Nat) (fun v => { n := 88, sl := [(1, (.d (.slice false 1 (r.map (fun n : Int => D.int .i64 n))))), (3, (.d (.str u))), (4, (.ptr 4000 0)), (55, (.d (.slice false 4 (x.arcs.map Arc.d)))), (56, (.d (.int .i64 (x.arcs.length : Int)))), (57, (.d (.int .i64 (v : Int))))], hp := [(4000, (some (.box (vX x))))], pin := [] }) (fun v => v ≤ x.arcs.length ∧ ∀ j, j < v → mP3 x r u (x.arcs.getD j default) = false) (fun v => x.arcs.length - v) ⟨0, ⟨by omega, fun j hj => by omega⟩, (Wk.of rfl rfl (ai rfl (ai rfl (ai rfl (ai rfl (ai rfl (ai (vI a114) trivial)))))) (ai rfl trivial))⟩ (fun v hp2 => ?_)
   refine T_seq (T_region hc (Ch.s (.d (.bool (decide ((v : Int) < (x.arcs.length : Int))))) (iX rfl rfl rfl) (Ch.nil (T_seq ?_))))
   refine T_condD (p := ((v : Int) < (x.arcs.length : Int))) rfl (fun h7 => ?_) (fun h7 => ?_)
   ·
    try have hek := hen _ (getD_mem (l := x.arcs) (j := v) (d := default) (by omega))
    try have hls := hck _ hek.1.1 hek.1.2
    try have hld := hck _ hek.2.1 hek.2.2
    refine T_skip (T_seq (T_block (T_seq (T_region hc (Ch.s (.d (.ref (.agg [(.int .i64 ((x.arcs.getD v default).src)), (.int .i64 ((x.arcs.getD v default).sig)), (.bool ((x.arcs.getD v default).up)), (.int .i64 ((x.arcs.getD v default).dst))]))) (.pure (.idx _ _ _ 125 (v) rfl Tryz.underlying33 sz125 rfl rfl rfl get_mapA)) (Ch.s (.d (.agg [(.int .i64 ((x.arcs.getD v default).src)), (.int .i64 ((x.arcs.getD v default).sig)), (.bool ((x.arcs.getD v default).up)), (.int .i64 ((x.arcs.getD v default).dst))])) (.pure (.loadRefA _ _ rfl ag125 sz125 rfl)) (Ch.s (.ptr 14000 0) (.alloc 14000 _ rfl zer125) ?_)))))))
    refine Ch.s .junk (.storePtr _ _ _ rfl rfl rfl (.aggD _) sz125 (lb rfl)) (Ch.nil (T_seq (T_region hc (Ch.s (.d (.str u)) pm (Ch.s (.ptr 4000 1) (.pure (.fldPtr _ _ _ rfl fld35_1 rfl)) (Ch.s (.d (.slice false 1 (x.codes.map D.str))) (.pure (.loadPtr1 _ _ rfl ag23 rfl rfl rfl)) (Ch.s (.ptr 14000 0) (.pure (.fldPtr _ _ _ rfl fld125_0 rfl)) ?_)))))))
    refine Ch.s (.d (.int .i64 ((x.arcs.getD v default).src))) (.pure (.loadPtr1 _ _ rfl ag3 rfl rfl rfl)) (Ch.s (.d (.ref (.str (x.codes.getD ((((x.arcs.getD v default).src)).toNat) default)))) (.pure (.idx _ _ _ 9 ((((x.arcs.getD v default).src)).toNat) rfl Tryz.underlying23 sz9 rfl rfl (by omega) get_mapA)) (Ch.s (.d (.str (x.codes.getD ((((x.arcs.getD v default).src)).toNat) default))) (.pure (.loadRef1 _ _ rfl ag9 rfl rfl)) (Ch.s (.d (.bool (hasB u (x.codes.getD ((((x.arcs.getD v default).src)).toNat) default)))) (.call 68000 198 _ _ _ en198 rfl (.inl rfl) (.cons (.d _) (.cons (.d _) .nil)) rfl rfl (sp_impl_contains u (x.codes.getD ((((x.arcs.getD v default).src)).toNat) default) a23 a23) (.skip _ _ (.skip _ _ .nil)) rfl) (Ch.s (.d (.bool (!(hasB u (x.codes.getD ((((x.arcs.getD v default).src)).toNat) default))))) (.pure (.not _ _ rfl rfl)) (Ch.s (.d (.bool (!(hasB u (x.codes.getD ((((x.arcs.getD v default).src)).toNat) default))))) pm ?_)))))
    cases h8 : (hasB u (x.codes.getD ((((x.arcs.getD v default).src)).toNat) default)) with
    | true =>
     refine Ch.skip rfl rfl (Ch.skip rfl rfl (Ch.skip rfl rfl (Ch.skip rfl rfl (Ch.skip rfl rfl (Ch.skip rfl rfl (Ch.skip rfl rfl (Ch.skip rfl rfl ?_)))))))
     refine Ch.s (.d (.bool false)) (.pure (.pickF _ _ _ rfl rfl rfl)) (Ch.s (.d (.bool false)) pm (Ch.skip rfl rfl (Ch.skip rfl rfl (Ch.skip rfl rfl (Ch.skip rfl rfl (Ch.skip rfl rfl (Ch.s (.d (.bool false)) (.pure (.pickF _ _ _ rfl rfl rfl)) ?_)))))))
     refine Ch.nil ?_
     refine T_cond (b := false) rfl (fun h => nomatch h) (fun _ => ?_)
     refine T_skip (T_region hc (Ch.s (.d (.int .i64 ((v : Int) + 1))) (iX rfl rfl intV_addA) (Ch.s (.d (.int .i64 ((v : Int) + 1))) pm (Ch.nil ?_))))
     exact nx (v + 1) ⟨by omega, upto_succ hp2.2 a69⟩ (Wk.of rfl rfl (ai rfl (ai rfl (ai rfl (ai rfl (ai rfl (ai (vI a114) trivial)))))) (ai rfl trivial))
    | false =>
     refine Ch.s (.d (.str u)) pm (Ch.s (.ptr 4000 1) (.pure (.fldPtr _ _ _ rfl fld35_1 rfl)) (Ch.s (.d (.slice false 1 (x.codes.map D.str))) (.pure (.loadPtr1 _ _ rfl ag23 rfl rfl rfl)) (Ch.s (.ptr 14000 3) (.pure (.fldPtr _ _ _ rfl fld125_3 rfl)) (Ch.s (.d (.int .i64 ((x.arcs.getD v default).dst))) (.pure (.loadPtr1 _ _ rfl ag3 rfl rfl rfl)) (Ch.s (.d (.ref (.str (x.codes.getD ((((x.arcs.getD v default).dst)).toNat) default)))) (.pure (.idx _ _ _ 9 ((((x.arcs.getD v default).dst)).toNat) rfl Tryz.underlying23 sz9 rfl rfl (by omega) get_mapA)) (Ch.s (.d (.str (x.codes.getD ((((x.arcs.getD v default).dst)).toNat) default))) (.pure (.loadRef1 _ _ rfl ag9 rfl rfl)) (Ch.s (.d (.bool (hasB u (x.codes.getD ((((x.arcs.getD v default).dst)).toNat) default)))) (.call 78000 198 _ _ _ en198 rfl (.inl rfl) (.cons (.d _) (.cons (.d _) .nil)) rfl rfl (sp_impl_contains u (x.codes.getD ((((x.arcs.getD v default).dst)).toNat) default) a23 a23) (.skip _ _ (.skip _ _ .nil)) rfl) ?_)))))))
     refine Ch.s (.d (.bool (hasB u (x.codes.getD ((((x.arcs.getD v default).dst)).toNat) default)))) (.pure (.pickT _ _ _ rfl rfl rfl)) (Ch.s (.d (.bool (hasB u (x.codes.getD ((((x.arcs.getD v default).dst)).toNat) default)))) pm ?_)
     cases h9 : (hasB u (x.codes.getD ((((x.arcs.getD v default).dst)).toNat) default)) with
     | true =>
      refine Ch.s (.d (.slice false 1 (r.map (fun n : Int => D.int .i64 n)))) pm (Ch.s (.ptr 14000 3) (.pure (.fldPtr _ _ _ rfl fld125_3 rfl)) (Ch.s (.d (.int .i64 ((x.arcs.getD v default).dst))) (.pure (.loadPtr1 _ _ rfl ag3 rfl rfl rfl)) (Ch.s (.d (.bool (hasI r ((x.arcs.getD v default).dst)))) (.call 84000 160 _ _ _ en160 rfl (.inl rfl) (.cons (.d _) (.cons (.d _) .nil)) rfl rfl (sp_Contains_int r ((x.arcs.getD v default).dst) a39) (.skip _ _ (.skip _ _ .nil)) rfl) (Ch.s (.d (.bool (!(hasI r ((x.arcs.getD v default).dst))))) (.pure (.not _ _ rfl rfl)) (Ch.s (.d (.bool (!(hasI r ((x.arcs.getD v default).dst))))) (.pure (.pickT _ _ _ rfl rfl rfl)) (Ch.nil ?_))))))
      refine T_condN (b := (hasI r ((x.arcs.getD v default).dst))) rfl (fun h10 => ?_) (fun h10 => ?_)
      ·
       refine T_seq (T_region hc (Ch.s (.d (.int .i64 3)) pa (Ch.nil (T_ret ?_))))
       exact endR [(.d (.int .i64 3))] [] [] (.cons (.tmp 8 rfl) .nil) (.cons (.any _) (.cons (.any _) (.cons (.any _) (.cons (.any _) .nil)))) (Exp.of (congrArg (D.int .i64) a5) (.d _)) rfl rfl
      ·
       refine T_skip (T_region hc (Ch.s (.d (.int .i64 ((v : Int) + 1))) (iX rfl rfl intV_addA) (Ch.s (.d (.int .i64 ((v : Int) + 1))) pm (Ch.nil ?_))))
       exact nx (v + 1) ⟨by omega, upto_succ hp2.2 a69⟩ (Wk.of rfl rfl (ai rfl (ai rfl (ai rfl (ai rfl (ai rfl (ai (vI a114) trivial)))))) (ai rfl trivial))
     | false =>
      refine Ch.skip rfl rfl (Ch.skip rfl rfl (Ch.skip rfl rfl (Ch.skip rfl rfl (Ch.skip rfl rfl (Ch.s (.d (.bool false)) (.pure (.pickF _ _ _ rfl rfl rfl)) (Ch.nil ?_))))))
      refine T_cond (b := false) rfl (fun h => nomatch h) (fun _ => ?_)
      refine T_skip (T_region hc (Ch.s (.d (.int .i64 ((v : Int) + 1))) (iX rfl rfl intV_addA) (Ch.s (.d (.int .i64 ((v : Int) + 1))) pm (Ch.nil ?_))))
      exact nx (v + 1) ⟨by omega, upto_succ hp2.2 a69⟩ (Wk.of rfl rfl (ai rfl (ai rfl (ai rfl (ai rfl (ai rfl (ai (vI a114) trivial)))))) (ai rfl trivial))
   ·
    try have hek := hen _ (getD_mem (l := x.arcs) (j := v) (d := default) (by omega))
    try have hls := hck _ hek.1.1 hek.1.2
    try have hld := hck _ hek.2.1 hek.2.2
    refine T_exit (T_seq (T_region hc (Ch.s (.d (.int .i64 0)) pa (Ch.nil (T_ret ?_)))))
    exact endR [(.d (.int .i64 0))] [] [] (.cons (.tmp 8 rfl) .nil) (.cons (.any _) (.cons (.any _) (.cons (.any _) (.cons (.any _) .nil)))) (Exp.of (congrArg (D.int .i64) a5) (.d _)) rfl rfl

set_option maxHeartbeats 2000000 in
theorem sp_spec_l17Why (x : Sgr) (r q : List Int) (u : List UInt8) (hb : x.bulk ≤ 1048576) (hx : SgOk x) (hr : ∀ a ∈ r, 0 ≤ a ∧ a.toNat < x.codes.length) (hrl : r.length ≤ 1048576) (hql : q.length ≤ 1048576) (hu : u.length = x.sigs.length) : Sp Tryz.prog 126 [(.agg [(.slice false 2 (x.sigs.map Sgn.d)), (.slice false 1 (x.codes.map D.str)), (.slice false 4 (x.arcs.map Arc.d))]), (.slice false 1 (r.map (fun n : Int => D.int .i64 n))), (.slice false 1 (q.map (fun n : Int => D.int .i64 n))), (.str u)] [.any, .any, .any, .any] (.int .i64 (monN x r q u : Int)) := by
 refine Sp_intro (lend := true) Tryz.func126 rfl rfl rfl (fun _ => rfl) (fun c hc hX => ?_)
 obtain ⟨hp0, hp1, hp2⟩ := Sgr.parts hb
 have hn0 := bulkF_len hp0
 have hn1 := bulk_len hp1
 have hx1 := bulk_mem hp1
 have hn2 := bulkF_len hp2; have hxl := hx.len; have hxf := hx.few; have hen := hx.ends; have hx8 := hx.eight; have hck : ∀ k : Int, 0 ≤ k → k.toNat < x.codes.length → (x.codes.getD k.toNat default).length = x.sigs.length := fun k h0 h1 => (codes_at hx.codes k h0 (by omega)).2
 refine T_seq (T_region hc (Ch.s (.ptr 4000 0) (.box 4000 _ _ rfl (.aggD _)) (Ch.s (.d (.int .i64 0)) pa (Ch.nil (T_seq (T_seq (T_region hc ?_)))))))
 refine Ch.s (.d (.slice false 1 (r.map (fun n : Int => D.int .i64 n)))) pm (Ch.s (.d (.int .i64 (r.length : Int))) (.pure (.len _ _ 3 rfl Tryz.underlying55 (.sh _ _) (by simp))) (Ch.s (.d (.int .i64 0)) pm (Ch.nil (T_block ?_))))
 refine T_loop (ι := Nat) (fun k => { n := 88, sl := [(1, (.d (.slice false 1 (r.map (fun n : Int => D.int .i64 n))))), (2, (.d (.slice false 1 (q.map (fun n : Int => D.int .i64 n))))), (3, (.d (.str u))), (4, (.ptr 4000 0)), (15, (.d (.slice false 1 (r.map (fun n : Int => D.int .i64 n))))), (16, (.d (.int .i64 (r.length : Int)))), (17, (.d (.int .i64 (k : Int))))], hp := [(4000, (some (.box (vX x))))], pin := [] }) (fun k => k ≤ r.length ∧ ∀ j, j < k → hasB u (x.codes.getD (r.getD j default).toNat default) = true) (fun k => r.length - k) ⟨0, ⟨by omega, fun j hj => by omega⟩, (Wk.of rfl rfl (ai rfl (ai rfl (ai rfl (ai rfl (ai rfl (ai rfl (ai (vI a114) trivial))))))) (ai rfl trivial))⟩ (fun k hp0 => ?_)
 refine T_seq (T_region hc (Ch.s (.d (.bool (decide ((k : Int) < (r.length : Int))))) (iX rfl rfl rfl) (Ch.nil (T_seq ?_))))
 refine T_condD (p := ((k : Int) < (r.length : Int))) rfl (fun h1 => ?_) (fun h1 => ?_)
 ·
  try have hrk := hr _ (getD_mem (l := r) (j := k) (d := default) (by omega))
  try have hlk := hck _ hrk.1 hrk.2
  refine T_skip (T_seq (T_block (T_seq (T_region hc (Ch.s (.d (.ref (.int .i64 (r.getD k default)))) (.pure (.idx _ _ _ 3 (k) rfl Tryz.underlying55 sz3 rfl rfl rfl get_mapA)) (Ch.s (.d (.int .i64 (r.getD k default))) (.pure (.loadRef1 _ _ rfl ag3 rfl rfl)) (Ch.s (.d (.int .i64 (r.getD k default))) pa ?_)))))))
  refine Ch.nil (T_seq (T_region hc (Ch.s (.d (.str u)) pm (Ch.s (.ptr 4000 1) (.pure (.fldPtr _ _ _ rfl fld35_1 rfl)) (Ch.s (.d (.slice false 1 (x.codes.map D.str))) (.pure (.loadPtr1 _ _ rfl ag23 rfl rfl rfl)) (Ch.s (.d (.int .i64 (r.getD k default))) pm (Ch.s (.d (.ref (.str (x.codes.getD (((r.getD k default)).toNat) default)))) (.pure (.idx _ _ _ 9 (((r.getD k default)).toNat) rfl Tryz.underlying23 sz9 rfl rfl (by omega) get_mapA)) ?_)))))))
  refine Ch.s (.d (.str (x.codes.getD (((r.getD k default)).toNat) default))) (.pure (.loadRef1 _ _ rfl ag9 rfl rfl)) (Ch.s (.d (.bool (hasB u (x.codes.getD (((r.getD k default)).toNat) default)))) (.call 27000 197 _ _ _ en197 rfl (.inl rfl) (.cons (.d _) (.cons (.d _) .nil)) rfl rfl (sp_spec_l13Has u (x.codes.getD (((r.getD k default)).toNat) default) a23 a23) (.skip _ _ (.skip _ _ .nil)) rfl) (Ch.s (.d (.bool (!(hasB u (x.codes.getD (((r.getD k default)).toNat) default))))) (.pure (.not _ _ rfl rfl)) (Ch.nil ?_)))
  refine T_condN (b := (hasB u (x.codes.getD (((r.getD k default)).toNat) default))) rfl (fun h2 => ?_) (fun h2 => ?_)
  ·
   refine T_seq (T_region hc (Ch.s (.d (.int .i64 1)) pa (Ch.nil (T_ret ?_))))
   exact endR [(.d (.int .i64 1))] [] [] (.cons (.tmp 8 rfl) .nil) (.cons (.any _) (.cons (.any _) (.cons (.any _) (.cons (.any _) .nil)))) (Exp.of (congrArg (D.int .i64) a5) (.d _)) rfl rfl
  ·
   refine T_skip (T_region hc (Ch.s (.d (.int .i64 ((k : Int) + 1))) (iX rfl rfl intV_addA) (Ch.s (.d (.int .i64 ((k : Int) + 1))) pm (Ch.nil ?_))))
   exact nx (k + 1) ⟨by omega, upto_succ hp0.2 (by assumption)⟩ (Wk.of rfl rfl (ai rfl (ai rfl (ai rfl (ai rfl (ai rfl (ai rfl (ai (vI a114) trivial))))))) (ai rfl trivial))
 ·
  try have hrk := hr _ (getD_mem (l := r) (j := k) (d := default) (by omega))
  try have hlk := hck _ hrk.1 hrk.2
  refine T_exit (T_seq (T_seq (T_region hc (Ch.s (.ptr 4000 1) (.pure (.fldPtr _ _ _ rfl fld35_1 rfl)) (Ch.s (.d (.slice false 1 (x.codes.map D.str))) (.pure (.loadPtr1 _ _ rfl ag23 rfl rfl rfl)) (Ch.s (.d (.int .i64 (x.codes.length : Int))) (.pure (.len _ _ 9 rfl Tryz.underlying23 (.sh _ _) (by simp))) (Ch.s (.d (.int .i64 0)) pm ?_)))))))
  refine Ch.nil (T_block ?_)
  refine T_loop (ι := Nat) (fun m => { n := 88, sl := [(1, (.d (.slice false 1 (r.map (fun n : Int => D.int .i64 n))))), (2, (.d (.slice false 1 (q.map (fun n : Int => D.int .i64 n))))), (3, (.d (.str u))), (4, (.ptr 4000 0)), (31, (.d (.slice false 1 (x.codes.map D.str)))), (32, (.d (.int .i64 (x.codes.length : Int)))), (33, (.d (.int .i64 (m : Int))))], hp := [(4000, (some (.box (vX x))))], pin := [] }) (fun m => m ≤ x.codes.length ∧ ∀ j, j < m → mP2 x r q u j = false) (fun m => x.codes.length - m) ⟨0, ⟨by omega, fun j hj => by omega⟩, (Wk.of rfl rfl (ai rfl (ai rfl (ai rfl (ai rfl (ai rfl (ai rfl (ai (vI a114) trivial))))))) (ai rfl trivial))⟩ (fun m hp1 => ?_)
  refine T_seq (T_region hc (Ch.s (.d (.bool (decide ((m : Int) < (x.codes.length : Int))))) (iX rfl rfl rfl) (Ch.nil (T_seq ?_))))
  refine T_condD (p := ((m : Int) < (x.codes.length : Int))) rfl (fun h3 => ?_) (fun h3 => ?_)
  ·
   try have hlm : (x.codes.getD m default).length = x.sigs.length := hck (m : Int) (by omega) (by omega)
   refine T_skip (T_seq (T_block (T_seq (T_region hc (Ch.s (.d (.int .i64 (m : Int))) pm (Ch.s (.d (.ref (.str (x.codes.getD m default)))) (.pure (.idx _ _ _ 9 (m) rfl Tryz.underlying23 sz9 rfl rfl rfl get_mapA)) (Ch.s (.d (.str (x.codes.getD m default))) (.pure (.loadRef1 _ _ rfl ag9 rfl rfl)) ?_)))))))
   refine Ch.s (.d (.int .i64 (m : Int))) pa (Ch.s (.d (.str (x.codes.getD m default))) pa (Ch.nil (T_seq (T_region hc (Ch.s (.d (.str u)) pm (Ch.s (.d (.str (x.codes.getD m default))) pm (Ch.s (.d (.bool (hasB u (x.codes.getD m default)))) (.call 40000 197 _ _ _ en197 rfl (.inl rfl) (.cons (.d _) (.cons (.d _) .nil)) rfl rfl (sp_spec_l13Has u (x.codes.getD m default) a23 a23) (.skip _ _ (.skip _ _ .nil)) rfl) ?_)))))))
   refine Ch.s (.d (.bool (hasB u (x.codes.getD m default)))) pm ?_
   cases h4 : (hasB u (x.codes.getD m default)) with
   | true =>
    refine Ch.s (.d (.slice false 1 (r.map (fun n : Int => D.int .i64 n)))) pm (Ch.s (.d (.int .i64 (m : Int))) pm (Ch.s (.d (.bool (hasI r (m : Int)))) (.call 44000 157 _ _ _ en157 rfl (.inl rfl) (.cons (.d _) (.cons (.d _) .nil)) rfl rfl (sp_spec_l1Has r (m : Int) a39) (.skip _ _ (.skip _ _ .nil)) rfl) (Ch.s (.d (.bool (!(hasI r (m : Int))))) (.pure (.not _ _ rfl rfl)) (Ch.s (.d (.bool (!(hasI r (m : Int))))) (.pure (.pickT _ _ _ rfl rfl rfl)) (Ch.s (.d (.bool (!(hasI r (m : Int))))) pm ?_)))))
    cases h5 : (hasI r (m : Int)) with
    | true =>
     refine Ch.skip rfl rfl (Ch.skip rfl rfl (Ch.skip rfl rfl (Ch.skip rfl rfl (Ch.s (.d (.bool false)) (.pure (.pickF _ _ _ rfl rfl rfl)) (Ch.nil ?_)))))
     refine T_cond (b := false) rfl (fun h => nomatch h) (fun _ => ?_)
     refine T_skip (T_region hc (Ch.s (.d (.int .i64 ((m : Int) + 1))) (iX rfl rfl intV_addA) (Ch.s (.d (.int .i64 ((m : Int) + 1))) pm (Ch.nil ?_))))
     exact nx (m + 1) ⟨by omega, upto_succ hp1.2 a68⟩ (Wk.of rfl rfl (ai rfl (ai rfl (ai rfl (ai rfl (ai rfl (ai rfl (ai (vI a114) trivial))))))) (ai rfl trivial))
    | false =>
     refine Ch.s (.d (.slice false 1 (q.map (fun n : Int => D.int .i64 n)))) pm (Ch.s (.d (.int .i64 (m : Int))) pm (Ch.s (.d (.bool (hasI q (m : Int)))) (.call 50000 157 _ _ _ en157 rfl (.inl rfl) (.cons (.d _) (.cons (.d _) .nil)) rfl rfl (sp_spec_l1Has q (m : Int) a39) (.skip _ _ (.skip _ _ .nil)) rfl) (Ch.s (.d (.bool (!(hasI q (m : Int))))) (.pure (.not _ _ rfl rfl)) (Ch.s (.d (.bool (!(hasI q (m : Int))))) (.pure (.pickT _ _ _ rfl rfl rfl)) (Ch.nil ?_)))))
     refine T_condN (b := (hasI q (m : Int))) rfl (fun h6 => ?_) (fun h6 => ?_)
     ·
      refine T_seq (T_region hc (Ch.s (.d (.int .i64 2)) pa (Ch.nil (T_ret ?_))))
      exact endR [(.d (.int .i64 2))] [] [] (.cons (.tmp 8 rfl) .nil) (.cons (.any _) (.cons (.any _) (.cons (.any _) (.cons (.any _) .nil)))) (Exp.of (congrArg (D.int .i64) a5) (.d _)) rfl rfl
     ·
      refine T_skip (T_region hc (Ch.s (.d (.int .i64 ((m : Int) + 1))) (iX rfl rfl intV_addA) (Ch.s (.d (.int .i64 ((m : Int) + 1))) pm (Ch.nil ?_))))
      exact nx (m + 1) ⟨by omega, upto_succ hp1.2 a68⟩ (Wk.of rfl rfl (ai rfl (ai rfl (ai rfl (ai rfl (ai rfl (ai rfl (ai (vI a114) trivial))))))) (ai rfl trivial))
   | false =>
    refine Ch.skip rfl rfl (Ch.skip rfl rfl (Ch.skip rfl rfl (Ch.skip rfl rfl (Ch.s (.d (.bool false)) (.pure (.pickF _ _ _ rfl rfl rfl)) (Ch.s (.d (.bool false)) pm (Ch.skip rfl rfl (Ch.skip rfl rfl ?_)))))))
    refine Ch.skip rfl rfl (Ch.skip rfl rfl (Ch.s (.d (.bool false)) (.pure (.pickF _ _ _ rfl rfl rfl)) (Ch.nil ?_)))
    refine T_cond (b := false) rfl (fun h => nomatch h) (fun _ => ?_)
    refine T_skip (T_region hc (Ch.s (.d (.int .i64 ((m : Int) + 1))) (iX rfl rfl intV_addA) (Ch.s (.d (.int .i64 ((m : Int) + 1))) pm (Ch.nil ?_))))
    exact nx (m + 1) ⟨by omega, upto_succ hp1.2 a68⟩ (Wk.of rfl rfl (ai rfl (ai rfl (ai rfl (ai rfl (ai rfl (ai rfl (ai (vI a114) trivial))))))) (ai rfl trivial))
  ·
   try have hlm : (x.codes.getD m default).length = x.sigs.length := hck (m : Int) (by omega) (by omega)
   refine T_exit (T_seq (T_seq (T_region hc (Ch.s (.ptr 4000 2) (.pure (.fldPtr _ _ _ rfl fld35_2 rfl)) (Ch.s (.d (.slice false 4 (x.arcs.map Arc.d))) (.pure (.loadPtr1 _ _ rfl ag33 rfl rfl rfl)) (Ch.s (.d (.int .i64 (x.arcs.length : Int))) (.pure (.len _ _ 125 rfl Tryz.underlying33 (.sh _ _) (by simp))) (Ch.s (.d (.int .i64 0)) pm ?_)))))))
   refine Ch.nil (T_block ?_)
   refine T_loop (ι := Nat) (fun v => { n := 88, sl := [(1, (.d (.slice false 1 (r.map (fun n : Int => D.int .i64 n))))), (3, (.d (.str u))), (4, (.ptr 4000 0)), (55, (.d (.slice false 4 (x.arcs.map Arc.d)))), (56, (.d (.int .i64 (x.arcs.length : Int)))), (57, (.d (.int .i64 (v : Int))))], hp := [(4000, (some (.box (vX x))))], pin := [] }) (fun v => v ≤ x.arcs.length ∧ ∀ j, j < v → mP3 x r u (x.arcs.getD j default) = false) (fun v => x.arcs.length - v) ⟨0, ⟨by omega, fun j hj => by omega⟩, (Wk.of rfl rfl (ai rfl (ai rfl (ai rfl (ai rfl (ai rfl (ai (vI a114) trivial)))))) (ai rfl trivial))⟩ (fun v hp2 => ?_)
   refine T_seq (T_region hc (Ch.s (.d (.bool (decide ((v : Int) < (x.arcs.length : Int))))) (iX rfl rfl rfl) (Ch.nil (T_seq ?_))))
   refine T_condD (p := ((v : Int) < (x.arcs.length : Int))) rfl (fun h7 => ?_) (fun h7 => ?_)
   ·
    try have hek := hen _ (getD_mem (l := x.arcs) (j := v) (d := default) (by omega))
    try have hls := hck _ hek.1.1 hek.1.2
    try have hld := hck _ hek.2.1 hek.2.2
    refine T_skip (T_seq (T_block (T_seq (T_region hc (Ch.s (.d (.ref (.agg [(.int .i64 ((x.arcs.getD v default).src)), (.int .i64 ((x.arcs.getD v default).sig)), (.bool ((x.arcs.getD v default).up)), (.int .i64 ((x.arcs.getD v default).dst))]))) (.pure (.idx _ _ _ 125 (v) rfl Tryz.underlying33 sz125 rfl rfl rfl get_mapA)) (Ch.s (.d (.agg [(.int .i64 ((x.arcs.getD v default).src)), (.int .i64 ((x.arcs.getD v default).sig)), (.bool ((x.arcs.getD v default).up)), (.int .i64 ((x.arcs.getD v default).dst))])) (.pure (.loadRefA _ _ rfl ag125 sz125 rfl)) (Ch.s (.ptr 14000 0) (.alloc 14000 _ rfl zer125) ?_)))))))
    refine Ch.s .junk (.storePtr _ _ _ rfl rfl rfl (.aggD _) sz125 (lb rfl)) (Ch.nil (T_seq (T_region hc (Ch.s (.d (.str u)) pm (Ch.s (.ptr 4000 1) (.pure (.fldPtr _ _ _ rfl fld35_1 rfl)) (Ch.s (.d (.slice false 1 (x.codes.map D.str))) (.pure (.loadPtr1 _ _ rfl ag23 rfl rfl rfl)) (Ch.s (.ptr 14000 0) (.pure (.fldPtr _ _ _ rfl fld125_0 rfl)) ?_)))))))
    refine Ch.s (.d (.int .i64 ((x.arcs.getD v default).src))) (.pure (.loadPtr1 _ _ rfl ag3 rfl rfl rfl)) (Ch.s (.d (.ref (.str (x.codes.getD ((((x.arcs.getD v default).src)).toNat) default)))) (.pure (.idx _ _ _ 9 ((((x.arcs.getD v default).src)).toNat) rfl Tryz.underlying23 sz9 rfl rfl (by omega) get_mapA)) (Ch.s (.d (.str (x.codes.getD ((((x.arcs.getD v default).src)).toNat) default))) (.pure (.loadRef1 _ _ rfl ag9 rfl rfl)) (Ch.s (.d (.bool (hasB u (x.codes.getD ((((x.arcs.getD v default).src)).toNat) default)))) (.call 68000 197 _ _ _ en197 rfl (.inl rfl) (.cons (.d _) (.cons (.d _) .nil)) rfl rfl (sp_spec_l13Has u (x.codes.getD ((((x.arcs.getD v default).src)).toNat) default) a23 a23) (.skip _ _ (.skip _ _ .nil)) rfl) (Ch.s (.d (.bool (!(hasB u (x.codes.getD ((((x.arcs.getD v default).src)).toNat) default))))) (.pure (.not _ _ rfl rfl)) (Ch.s (.d (.bool (!(hasB u (x.codes.getD ((((x.arcs.getD v default).src)).toNat) default))))) pm ?_)))))
    cases h8 : (hasB u (x.codes.getD ((((x.arcs.getD v default).src)).toNat) default)) with
    | true =>
     refine Ch.skip rfl rfl (Ch.skip rfl rfl (Ch.skip rfl rfl (Ch.skip rfl rfl (Ch.skip rfl rfl (Ch.skip rfl rfl (Ch.skip rfl rfl (Ch.skip rfl rfl ?_)))))))
     refine Ch.s (.d (.bool false)) (.pure (.pickF _ _ _ rfl rfl rfl)) (Ch.s (.d (.bool false)) pm (Ch.skip rfl rfl (Ch.skip rfl rfl (Ch.skip rfl rfl (Ch.skip rfl rfl (Ch.skip rfl rfl (Ch.s (.d (.bool false)) (.pure (.pickF _ _ _ rfl rfl rfl)) ?_)))))))
     refine Ch.nil ?_
     refine T_cond (b := false) rfl (fun h => nomatch h) (fun _ => ?_)
     refine T_skip (T_region hc (Ch.s (.d (.int .i64 ((v : Int) + 1))) (iX rfl rfl intV_addA) (Ch.s (.d (.int .i64 ((v : Int) + 1))) pm (Ch.nil ?_))))
     exact nx (v + 1) ⟨by omega, upto_succ hp2.2 a69⟩ (Wk.of rfl rfl (ai rfl (ai rfl (ai rfl (ai rfl (ai rfl (ai (vI a114) trivial)))))) (ai rfl trivial))
    | false =>
     refine Ch.s (.d (.str u)) pm (Ch.s (.ptr 4000 1) (.pure (.fldPtr _ _ _ rfl fld35_1 rfl)) (Ch.s (.d (.slice false 1 (x.codes.map D.str))) (.pure (.loadPtr1 _ _ rfl ag23 rfl rfl rfl)) (Ch.s (.ptr 14000 3) (.pure (.fldPtr _ _ _ rfl fld125_3 rfl)) (Ch.s (.d (.int .i64 ((x.arcs.getD v default).dst))) (.pure (.loadPtr1 _ _ rfl ag3 rfl rfl rfl)) (Ch.s (.d (.ref (.str (x.codes.getD ((((x.arcs.getD v default).dst)).toNat) default)))) (.pure (.idx _ _ _ 9 ((((x.arcs.getD v default).dst)).toNat) rfl Tryz.underlying23 sz9 rfl rfl (by omega) get_mapA)) (Ch.s (.d (.str (x.codes.getD ((((x.arcs.getD v default).dst)).toNat) default))) (.pure (.loadRef1 _ _ rfl ag9 rfl rfl)) (Ch.s (.d (.bool (hasB u (x.codes.getD ((((x.arcs.getD v default).dst)).toNat) default)))) (.call 78000 197 _ _ _ en197 rfl (.inl rfl) (.cons (.d _) (.cons (.d _) .nil)) rfl rfl (sp_spec_l13Has u (x.codes.getD ((((x.arcs.getD v default).dst)).toNat) default) a23 a23) (.skip _ _ (.skip _ _ .nil)) rfl) ?_)))))))
     refine Ch.s (.d (.bool (hasB u (x.codes.getD ((((x.arcs.getD v default).dst)).toNat) default)))) (.pure (.pickT _ _ _ rfl rfl rfl)) (Ch.s (.d (.bool (hasB u (x.codes.getD ((((x.arcs.getD v default).dst)).toNat) default)))) pm ?_)
     cases h9 : (hasB u (x.codes.getD ((((x.arcs.getD v default).dst)).toNat) default)) with
     | true =>
      refine Ch.s (.d (.slice false 1 (r.map (fun n : Int => D.int .i64 n)))) pm (Ch.s (.ptr 14000 3) (.pure (.fldPtr _ _ _ rfl fld125_3 rfl)) (Ch.s (.d (.int .i64 ((x.arcs.getD v default).dst))) (.pure (.loadPtr1 _ _ rfl ag3 rfl rfl rfl)) (Ch.s (.d (.bool (hasI r ((x.arcs.getD v default).dst)))) (.call 84000 157 _ _ _ en157 rfl (.inl rfl) (.cons (.d _) (.cons (.d _) .nil)) rfl rfl (sp_spec_l1Has r ((x.arcs.getD v default).dst) a39) (.skip _ _ (.skip _ _ .nil)) rfl) (Ch.s (.d (.bool (!(hasI r ((x.arcs.getD v default).dst))))) (.pure (.not _ _ rfl rfl)) (Ch.s (.d (.bool (!(hasI r ((x.arcs.getD v default).dst))))) (.pure (.pickT _ _ _ rfl rfl rfl)) (Ch.nil ?_))))))
      refine T_condN (b := (hasI r ((x.arcs.getD v default).dst))) rfl (fun h10 => ?_) (fun h10 => ?_)
      ·
       refine T_seq (T_region hc (Ch.s (.d (.int .i64 3)) pa (Ch.nil (T_ret ?_))))
       exact endR [(.d (.int .i64 3))] [] [] (.cons (.tmp 8 rfl) .nil) (.cons (.any _) (.cons (.any _) (.cons (.any _) (.cons (.any _) .nil)))) (Exp.of (congrArg (D.int .i64) a5) (.d _)) rfl rfl
      ·
       refine T_skip (T_region hc (Ch.s (.d (.int .i64 ((v : Int) + 1))) (iX rfl rfl intV_addA) (Ch.s (.d (.int .i64 ((v : Int) + 1))) pm (Ch.nil ?_))))
       exact nx (v + 1) ⟨by omega, upto_succ hp2.2 a69⟩ (Wk.of rfl rfl (ai rfl (ai rfl (ai rfl (ai rfl (ai rfl (ai (vI a114) trivial)))))) (ai rfl trivial))
     | false =>
      refine Ch.skip rfl rfl (Ch.skip rfl rfl (Ch.skip rfl rfl (Ch.skip rfl rfl (Ch.skip rfl rfl (Ch.s (.d (.bool false)) (.pure (.pickF _ _ _ rfl rfl rfl)) (Ch.nil ?_))))))
      refine T_cond (b := false) rfl (fun h => nomatch h) (fun _ => ?_)
      refine T_skip (T_region hc (Ch.s (.d (.int .i64 ((v : Int) + 1))) (iX rfl rfl intV_addA) (Ch.s (.d (.int .i64 ((v : Int) + 1))) pm (Ch.nil ?_))))
      exact nx (v + 1) ⟨by omega, upto_succ hp2.2 a69⟩ (Wk.of rfl rfl (ai rfl (ai rfl (ai rfl (ai rfl (ai rfl (ai (vI a114) trivial)))))) (ai rfl trivial))
   ·
    try have hek := hen _ (getD_mem (l := x.arcs) (j := v) (d := default) (by omega))
    try have hls := hck _ hek.1.1 hek.1.2
    try have hld := hck _ hek.2.1 hek.2.2
    refine T_exit (T_seq (T_region hc (Ch.s (.d (.int .i64 0)) pa (Ch.nil (T_ret ?_)))))
    exact endR [(.d (.int .i64 0))] [] [] (.cons (.tmp 8 rfl) .nil) (.cons (.any _) (.cons (.any _) (.cons (.any _) (.cons (.any _) .nil)))) (Exp.of (congrArg (D.int .i64) a5) (.d _)) rfl rfl

set_option maxHeartbeats 2000000 in
theorem sp_impl_bestCube (x : Sgr) (l : Lab) (r : List Int) (hb : x.bulk ≤ 1048576) (hx : SgOk x) (h0 : 0 ≤ l.sig) (hr : ∀ a ∈ r, (0 ≤ a ∧ a.toNat < x.codes.length) ∧ a ∈ excS x l.sig l.up) (hrl : r.length ≤ 1048576) : Sp Tryz.prog 130 [(.agg [(.slice false 2 (x.sigs.map Sgn.d)), (.slice false 1 (x.codes.map D.str)), (.slice false 4 (x.arcs.map Arc.d))]), (.agg [(.int .i64 l.sig), (.bool (l.up))]), (.slice false 1 (r.map (fun n : Int => D.int .i64 n)))] [.any, .any, .any] (.tup [(.str ((bestF x l.sig r).1)), (.bool ((bestF x l.sig r).2))]) := by
 refine Sp_intro (lend := true) Tryz.func130 rfl rfl rfl (fun _ => rfl) (fun c hc hX => ?_)
 obtain ⟨hp0, hp1, hp2⟩ := Sgr.parts hb
 have hn0 := bulkF_len hp0
 have hn1 := bulk_len hp1
 have hx1 := bulk_mem hp1
 have hn2 := bulkF_len hp2; have hxl := hx.len; have hxf := hx.few; have hen := hx.ends; have hx8 := hx.eight; have hcl := cubes_length x.sigs.length; have hp3 : 3 ^ x.sigs.length ≤ 3 ^ 8 := Nat.pow_le_pow_right (by omega) hx8.2; have hqle : (quietL x l.sig r).length ≤ 1048576 := Nat.le_trans (quietL_le x l.sig r) hn1; have hr2 : ∀ a ∈ r, 0 ≤ a ∧ a.toNat < x.codes.length := fun a ha => (hr a ha).1
 refine T_seq (T_region hc (Ch.s (.ptr 3000 0) (.box 3000 _ _ rfl (.aggD _)) (Ch.s (.ptr 4000 0) (.box 4000 _ _ rfl (.aggD _)) (Ch.s (.d (.str [])) pa (Ch.s (.d (.bool false)) pa (Ch.nil (T_seq ?_)))))))
 refine T_region hc (Ch.s (.agg (vX x)) (.pure (.loadPtrA _ _ rfl ag35 sz35 rfl rfl (lb rfl) rfl)) (Ch.s (.agg [(.d (.int .i64 l.sig)), (.d (.bool (l.up)))]) (.pure (.loadPtrA _ _ rfl ag107 sz107 rfl rfl (lb rfl) rfl)) (Ch.s (.d (.slice false 1 (r.map (fun n : Int => D.int .i64 n)))) pm ?_)))
 refine Ch.step (v := (.row 16000)) rfl (.call 16000 92 _ _ _ en92 rfl (.inl rfl) (.cons lX (.cons (.lend (.agg (.cons (.d _) (.cons (.d _) .nil)) rfl)) (.cons (.d _) .nil))) rfl (sol (solid_row (fun _ => rfl) _) rfl) (sp_impl_quiescent x l r a39 (by assumption) (by first | assumption | omega | exact hs.1) a91 a39) (.skip _ _ (.skip _ _ (.skip _ _ .nil))) rfl) rfl rfl ?_
 refine Ch.s (.row 16000) pa (Ch.s (.d (.str [])) pa (Ch.s (.d (.bool false)) pa (Ch.nil (T_seq (T_seq (T_region hc (Ch.s (.ptr 3000 0) (.pure (.fldPtr _ _ _ rfl fld35_0 rfl)) ?_)))))))
 refine Ch.s (.d (.slice false 2 (x.sigs.map Sgn.d))) (.pure (.loadPtr1 _ _ rfl ag32 rfl rfl rfl)) (Ch.s (.d (.int .i64 (x.sigs.length : Int))) (.pure (.len _ _ 154 rfl Tryz.underlying32 (.sh _ _) (by simp))) ?_)
 refine Ch.step (v := (.row 20000)) rfl (.call 20000 201 _ _ _ en201 rfl (.inl rfl) (.cons (.d _) .nil) rfl (sol (solid_row (fun _ => rfl) _) rfl) (sp_impl_allCubes (x.sigs.length : Int) a39 a39) (.skip _ _ .nil) rfl) rfl rfl ?_
 refine Ch.s (.d (.int .i64 ((cubes x.sigs.length).length : Int))) (.pure (.len _ _ 9 rfl Tryz.underlying23 (.row rfl) (by simp))) (Ch.s (.d (.int .i64 0)) pm (Ch.nil (T_block ?_)))
 refine T_loop (ι := Nat) (fun k => { n := 49, sl := [(2, (.d (.slice false 1 (r.map (fun n : Int => D.int .i64 n))))), (3, (.ptr 3000 0)), (8, (.row 16000)), (9, (.d (.str ((bcTo x r (quietL x l.sig r) k).1)))), (10, (.d (.bool ((bcTo x r (quietL x l.sig r) k).2)))), (20, (.row 20000)), (21, (.d (.int .i64 ((cubes x.sigs.length).length : Int)))), (22, (.d (.int .i64 (k : Int))))], hp := [(3000, (some (.box (vX x)))), (16000, (some (.row 1 ((quietL x l.sig r).map (fun n : Int => D.int .i64 n))))), (20000, (some (.row 1 ((cubes x.sigs.length).map D.str))))], pin := [] }) (fun k => k ≤ (cubes x.sigs.length).length) (fun k => (cubes x.sigs.length).length - k) ⟨0, (by omega), (Wk.of rfl rfl (ai rfl (ai rfl (ai rfl (ai (vS a7) (ai (vB a7) (ai rfl (ai rfl (ai (vI a114) trivial)))))))) (ai rfl (ai rfl (ai rfl trivial))))⟩ (fun k hp0 => ?_)
 have hbl := bcTo_len x r (quietL x l.sig r) k hp0; have hb1 := bulk_one hbl
 refine T_seq (T_region hc (Ch.s (.d (.bool (decide ((k : Int) < ((cubes x.sigs.length).length : Int))))) (iX rfl rfl rfl) (Ch.nil (T_seq ?_))))
 refine T_condD (p := ((k : Int) < ((cubes x.sigs.length).length : Int))) rfl (fun h1 => ?_) (fun h1 => ?_)
 ·
  try have hck := cubes_mem x.sigs.length _ (getD_mem (l := (cubes x.sigs.length)) (j := k) (d := default) (by omega))
  try have hb2 := bulk_one (Nat.le_of_eq hck)
  refine T_skip (T_seq (T_block (T_seq (T_region hc (Ch.s (.el 20000 1 k 0) (.pure (.idxRow _ _ _ 9 (k) rfl Tryz.underlying23 sz9 rfl rfl rfl rfl a86)) (Ch.s (.d (.str ((cubes x.sigs.length).getD k default))) (.pure (.loadEl1 _ _ rfl ag9 rfl rfl get_mapA rfl rfl rfl)) (Ch.s (.d (.str ((cubes x.sigs.length).getD k default))) pa ?_)))))))
  refine Ch.nil (T_seq (T_region hc (Ch.s (.d (.bool ((bcTo x r (quietL x l.sig r) k).2))) pm (Ch.s (.d (.bool (!((bcTo x r (quietL x l.sig r) k).2)))) (.pure (.not _ _ rfl rfl)) (Ch.s (.d (.bool (!((bcTo x r (quietL x l.sig r) k).2)))) pm ?_)))))
  cases h2 : ((bcTo x r (quietL x l.sig r) k).2) with
  | true =>
   try have hck := cubes_mem x.sigs.length _ (getD_mem (l := (cubes x.sigs.length)) (j := k) (d := default) (by omega))
   try have hb2 := bulk_one (Nat.le_of_eq hck)
   refine Ch.s (.d (.str ((cubes x.sigs.length).getD k default))) pm (Ch.s (.row 30000) (.slice 30000 _ 9 _ rfl sty23 (xs := [.tmp 29]) rfl rfl (.cons (.d _) .nil) rfl rfl (by decide)) (Ch.s (.d (.int .i64 (lits ([((cubes x.sigs.length).getD k default)]) : Int))) (.call 31000 202 _ _ _ en202 rfl (.inl rfl) (.cons (.lend (.row (ys := (([((cubes x.sigs.length).getD k default)]).map D.str)) rfl rfl)) .nil) rfl rfl (sp_impl_literals ([((cubes x.sigs.length).getD k default)]) a23) (.skip _ _ .nil) rfl) (Ch.s (.d (.str ((bcTo x r (quietL x l.sig r) k).1))) pm (Ch.s (.row 33000) (.slice 33000 _ 9 _ rfl sty23 (xs := [.tmp 32]) rfl rfl (.cons (.d _) .nil) rfl rfl (by decide)) (Ch.s (.d (.int .i64 (lits ([((bcTo x r (quietL x l.sig r) k).1)]) : Int))) (.call 34000 202 _ _ _ en202 rfl (.inl rfl) (.cons (.lend (.row (ys := (([((bcTo x r (quietL x l.sig r) k).1)]).map D.str)) rfl rfl)) .nil) rfl rfl (sp_impl_literals ([((bcTo x r (quietL x l.sig r) k).1)]) a23) (.skip _ _ .nil) rfl) (Ch.s (.d (.bool (decide ((lits ([((cubes x.sigs.length).getD k default)]) : Int) < (lits ([((bcTo x r (quietL x l.sig r) k).1)]) : Int))))) (iX rfl rfl rfl) (Ch.s (.d (.bool (decide ((lits ([((cubes x.sigs.length).getD k default)]) : Int) < (lits ([((bcTo x r (quietL x l.sig r) k).1)]) : Int))))) (.pure (.pickF _ _ _ rfl rfl rfl)) ?_)))))))
   refine Ch.s (.d (.bool (decide ((lits ([((cubes x.sigs.length).getD k default)]) : Int) < (lits ([((bcTo x r (quietL x l.sig r) k).1)]) : Int))))) pm ?_
   cases h3 : (decide ((lits ([((cubes x.sigs.length).getD k default)]) : Int) < (lits ([((bcTo x r (quietL x l.sig r) k).1)]) : Int))) with
   | true =>
    replace h3 := of_decide_eq_true h3
    try have hck := cubes_mem x.sigs.length _ (getD_mem (l := (cubes x.sigs.length)) (j := k) (d := default) (by omega))
    try have hb2 := bulk_one (Nat.le_of_eq hck)
    refine Ch.s (.agg (vX x)) (.pure (.loadPtrA _ _ rfl ag35 sz35 rfl rfl (lb rfl) rfl)) (Ch.s (.d (.slice false 1 (r.map (fun n : Int => D.int .i64 n)))) pm (Ch.s (.row 16000) pm (Ch.s (.d (.str ((cubes x.sigs.length).getD k default))) pm (Ch.s (.d (.int .i64 (monN x r (quietL x l.sig r) ((cubes x.sigs.length).getD k default) : Int))) (.call 42000 128 _ _ _ en128 rfl (.inl rfl) (.cons lX (.cons (.d _) (.cons (.lend (.row rfl (frozs_map (fun _ => rfl) _))) (.cons (.d _) .nil)))) rfl rfl (sp_impl_monotonous x r (quietL x l.sig r) ((cubes x.sigs.length).getD k default) a39 (by assumption) a64 a39 a39 a123) (.skip _ _ (.skip _ _ (.skip _ _ (.skip _ _ .nil)))) rfl) (Ch.s (.d (.bool (decide ((monN x r (quietL x l.sig r) ((cubes x.sigs.length).getD k default) : Int) = 0)))) (iX rfl rfl rfl) (Ch.s (.d (.bool (decide ((monN x r (quietL x l.sig r) ((cubes x.sigs.length).getD k default) : Int) = 0)))) (.pure (.pickT _ _ _ rfl rfl rfl)) (Ch.nil ?_)))))))
    refine T_condD (p := ((monN x r (quietL x l.sig r) ((cubes x.sigs.length).getD k default) : Int) = 0)) rfl (fun h4 => ?_) (fun h4 => ?_)
    ·
     refine T_region hc (Ch.s (.d (.str ((cubes x.sigs.length).getD k default))) pm (Ch.s (.d (.str ((cubes x.sigs.length).getD k default))) pa (Ch.s (.d (.bool true)) pa (Ch.nil (T_region hc (Ch.s (.d (.int .i64 ((k : Int) + 1))) (iX rfl rfl intV_addA) (Ch.s (.d (.int .i64 ((k : Int) + 1))) pm ?_)))))))
     refine Ch.nil ?_
     exact nx (k + 1) (by omega) (Wk.of rfl rfl (ai rfl (ai rfl (ai rfl (ai (vS a7) (ai (vB a7) (ai rfl (ai rfl (ai (vI a114) trivial)))))))) (ai rfl (ai rfl (ai rfl trivial))))
    ·
     refine T_skip (T_region hc (Ch.s (.d (.int .i64 ((k : Int) + 1))) (iX rfl rfl intV_addA) (Ch.s (.d (.int .i64 ((k : Int) + 1))) pm (Ch.nil ?_))))
     exact nx (k + 1) (by omega) (Wk.of rfl rfl (ai rfl (ai rfl (ai rfl (ai (vS a7) (ai (vB a7) (ai rfl (ai rfl (ai (vI a114) trivial)))))))) (ai rfl (ai rfl (ai rfl trivial))))
   | false =>
    replace h3 := of_decide_eq_false h3
    try have hck := cubes_mem x.sigs.length _ (getD_mem (l := (cubes x.sigs.length)) (j := k) (d := default) (by omega))
    try have hb2 := bulk_one (Nat.le_of_eq hck)
    refine Ch.skip rfl rfl (Ch.skip rfl rfl (Ch.skip rfl rfl (Ch.skip rfl rfl (Ch.skip rfl rfl (Ch.skip rfl rfl (Ch.s (.d (.bool false)) (.pure (.pickF _ _ _ rfl rfl rfl)) (Ch.nil ?_)))))))
    refine T_cond (b := false) rfl (fun h => nomatch h) (fun _ => ?_)
    refine T_skip (T_region hc (Ch.s (.d (.int .i64 ((k : Int) + 1))) (iX rfl rfl intV_addA) (Ch.s (.d (.int .i64 ((k : Int) + 1))) pm (Ch.nil ?_))))
    exact nx (k + 1) (by omega) (Wk.of rfl rfl (ai rfl (ai rfl (ai rfl (ai (vS a7) (ai (vB a7) (ai rfl (ai rfl (ai (vI a114) trivial)))))))) (ai rfl (ai rfl (ai rfl trivial))))
  | false =>
   try have hck := cubes_mem x.sigs.length _ (getD_mem (l := (cubes x.sigs.length)) (j := k) (d := default) (by omega))
   try have hb2 := bulk_one (Nat.le_of_eq hck)
   refine Ch.skip rfl rfl (Ch.skip rfl rfl (Ch.skip rfl rfl (Ch.skip rfl rfl (Ch.skip rfl rfl (Ch.skip rfl rfl (Ch.skip rfl rfl (Ch.s (.d (.bool true)) (.pure (.pickT _ _ _ rfl rfl rfl)) ?_)))))))
   refine Ch.s (.d (.bool true)) pm (Ch.s (.agg (vX x)) (.pure (.loadPtrA _ _ rfl ag35 sz35 rfl rfl (lb rfl) rfl)) (Ch.s (.d (.slice false 1 (r.map (fun n : Int => D.int .i64 n)))) pm (Ch.s (.row 16000) pm (Ch.s (.d (.str ((cubes x.sigs.length).getD k default))) pm (Ch.s (.d (.int .i64 (monN x r (quietL x l.sig r) ((cubes x.sigs.length).getD k default) : Int))) (.call 42000 128 _ _ _ en128 rfl (.inl rfl) (.cons lX (.cons (.d _) (.cons (.lend (.row rfl (frozs_map (fun _ => rfl) _))) (.cons (.d _) .nil)))) rfl rfl (sp_impl_monotonous x r (quietL x l.sig r) ((cubes x.sigs.length).getD k default) a39 (by assumption) a64 a39 a39 a123) (.skip _ _ (.skip _ _ (.skip _ _ (.skip _ _ .nil)))) rfl) (Ch.s (.d (.bool (decide ((monN x r (quietL x l.sig r) ((cubes x.sigs.length).getD k default) : Int) = 0)))) (iX rfl rfl rfl) (Ch.s (.d (.bool (decide ((monN x r (quietL x l.sig r) ((cubes x.sigs.length).getD k default) : Int) = 0)))) (.pure (.pickT _ _ _ rfl rfl rfl)) ?_)))))))
   refine Ch.nil ?_
   refine T_condD (p := ((monN x r (quietL x l.sig r) ((cubes x.sigs.length).getD k default) : Int) = 0)) rfl (fun h5 => ?_) (fun h5 => ?_)
   ·
    refine T_region hc (Ch.s (.d (.str ((cubes x.sigs.length).getD k default))) pm (Ch.s (.d (.str ((cubes x.sigs.length).getD k default))) pa (Ch.s (.d (.bool true)) pa (Ch.nil (T_region hc (Ch.s (.d (.int .i64 ((k : Int) + 1))) (iX rfl rfl intV_addA) (Ch.s (.d (.int .i64 ((k : Int) + 1))) pm ?_)))))))
    refine Ch.nil ?_
    exact nx (k + 1) (by omega) (Wk.of rfl rfl (ai rfl (ai rfl (ai rfl (ai (vS a7) (ai (vB a7) (ai rfl (ai rfl (ai (vI a114) trivial)))))))) (ai rfl (ai rfl (ai rfl trivial))))
   ·
    refine T_skip (T_region hc (Ch.s (.d (.int .i64 ((k : Int) + 1))) (iX rfl rfl intV_addA) (Ch.s (.d (.int .i64 ((k : Int) + 1))) pm (Ch.nil ?_))))
    exact nx (k + 1) (by omega) (Wk.of rfl rfl (ai rfl (ai rfl (ai rfl (ai (vS a7) (ai (vB a7) (ai rfl (ai rfl (ai (vI a114) trivial)))))))) (ai rfl (ai rfl (ai rfl trivial))))
 ·
  try have hck := cubes_mem x.sigs.length _ (getD_mem (l := (cubes x.sigs.length)) (j := k) (d := default) (by omega))
  try have hb2 := bulk_one (Nat.le_of_eq hck)
  refine T_exit (T_seq (T_region hc (Ch.s (.d (.str ((bcTo x r (quietL x l.sig r) k).1))) pm (Ch.s (.d (.bool ((bcTo x r (quietL x l.sig r) k).2))) pm (Ch.s (.d (.str ((bcTo x r (quietL x l.sig r) k).1))) pa (Ch.s (.d (.bool ((bcTo x r (quietL x l.sig r) k).2))) pa (Ch.nil ?_)))))))
  refine T_ret ?_
  exact endR [(.d (.str ((bcTo x r (quietL x l.sig r) k).1))), (.d (.bool ((bcTo x r (quietL x l.sig r) k).2)))] [] [] (.cons (.tmp 6 rfl) (.cons (.tmp 7 rfl) .nil)) (.cons (.any _) (.cons (.any _) (.cons (.any _) .nil))) (.tup (.cons (Exp.of (congrArg D.str a106) (.d _)) (.cons (Exp.of (congrArg D.bool a106) (.d _)) .nil))) rfl rfl

set_option maxHeartbeats 2000000 in
theorem sp_spec_l17Find (x : Sgr) (r q : List Int) (hb : x.bulk ≤ 1048576) (hx : SgOk x) (hr : ∀ a ∈ r, 0 ≤ a ∧ a.toNat < x.codes.length) (hrl : r.length ≤ 1048576) (hql : q.length ≤ 1048576) : Sp Tryz.prog 129 [(.agg [(.slice false 2 (x.sigs.map Sgn.d)), (.slice false 1 (x.codes.map D.str)), (.slice false 4 (x.arcs.map Arc.d))]), (.slice false 1 (r.map (fun n : Int => D.int .i64 n))), (.slice false 1 (q.map (fun n : Int => D.int .i64 n)))] [.any, .any, .any] (.tup [(.str ((bcTo x r q (cubes x.sigs.length).length).1)), (.bool ((bcTo x r q (cubes x.sigs.length).length).2))]) := by
 refine Sp_intro (lend := true) Tryz.func129 rfl rfl rfl (fun _ => rfl) (fun c hc hX => ?_)
 obtain ⟨hp0, hp1, hp2⟩ := Sgr.parts hb
 have hn0 := bulkF_len hp0
 have hn1 := bulk_len hp1
 have hx1 := bulk_mem hp1
 have hn2 := bulkF_len hp2; have hxl := hx.len; have hxf := hx.few; have hen := hx.ends; have hx8 := hx.eight; have hcl := cubes_length x.sigs.length; have hp3 : 3 ^ x.sigs.length ≤ 3 ^ 8 := Nat.pow_le_pow_right (by omega) hx8.2
 refine T_seq (T_region hc (Ch.s (.ptr 3000 0) (.box 3000 _ _ rfl (.aggD _)) (Ch.s (.d (.str [])) pa (Ch.s (.d (.bool false)) pa (Ch.nil (T_seq (T_region hc ?_)))))))
 refine Ch.s (.d (.str [])) pa (Ch.s (.d (.bool false)) pa (Ch.nil (T_seq (T_seq (T_region hc (Ch.s (.ptr 3000 0) (.pure (.fldPtr _ _ _ rfl fld35_0 rfl)) (Ch.s (.d (.slice false 2 (x.sigs.map Sgn.d))) (.pure (.loadPtr1 _ _ rfl ag32 rfl rfl rfl)) ?_)))))))
 refine Ch.s (.d (.int .i64 (x.sigs.length : Int))) (.pure (.len _ _ 154 rfl Tryz.underlying32 (.sh _ _) (by simp))) ?_
 refine Ch.step (v := (.row 15000)) rfl (.call 15000 199 _ _ _ en199 rfl (.inl rfl) (.cons (.d _) .nil) rfl (sol (solid_row (fun _ => rfl) _) rfl) (sp_spec_l14Cubes (x.sigs.length : Int) a39 a39) (.skip _ _ .nil) rfl) rfl rfl ?_
 refine Ch.s (.d (.int .i64 ((cubes x.sigs.length).length : Int))) (.pure (.len _ _ 9 rfl Tryz.underlying23 (.row rfl) (by simp))) (Ch.s (.d (.int .i64 0)) pm (Ch.nil (T_block ?_)))
 refine T_loop (ι := Nat) (fun k => { n := 41, sl := [(1, (.d (.slice false 1 (r.map (fun n : Int => D.int .i64 n))))), (2, (.d (.slice false 1 (q.map (fun n : Int => D.int .i64 n))))), (3, (.ptr 3000 0)), (8, (.d (.str ((bcTo x r q k).1)))), (9, (.d (.bool ((bcTo x r q k).2)))), (15, (.row 15000)), (16, (.d (.int .i64 ((cubes x.sigs.length).length : Int)))), (17, (.d (.int .i64 (k : Int))))], hp := [(3000, (some (.box (vX x)))), (15000, (some (.row 1 ((cubes x.sigs.length).map D.str))))], pin := [] }) (fun k => k ≤ (cubes x.sigs.length).length) (fun k => (cubes x.sigs.length).length - k) ⟨0, (by omega), (Wk.of rfl rfl (ai rfl (ai rfl (ai rfl (ai (vS a7) (ai (vB a7) (ai rfl (ai rfl (ai (vI a114) trivial)))))))) (ai rfl (ai rfl trivial)))⟩ (fun k hp0 => ?_)
 have hbl := bcTo_len x r q k hp0; have hb1 := bulk_one hbl
 refine T_seq (T_region hc (Ch.s (.d (.bool (decide ((k : Int) < ((cubes x.sigs.length).length : Int))))) (iX rfl rfl rfl) (Ch.nil (T_seq ?_))))
 refine T_condD (p := ((k : Int) < ((cubes x.sigs.length).length : Int))) rfl (fun h1 => ?_) (fun h1 => ?_)
 ·
  try have hck := cubes_mem x.sigs.length _ (getD_mem (l := (cubes x.sigs.length)) (j := k) (d := default) (by omega))
  try have hb2 := bulk_one (Nat.le_of_eq hck)
  refine T_skip (T_seq (T_block (T_seq (T_region hc (Ch.s (.el 15000 1 k 0) (.pure (.idxRow _ _ _ 9 (k) rfl Tryz.underlying23 sz9 rfl rfl rfl rfl a86)) (Ch.s (.d (.str ((cubes x.sigs.length).getD k default))) (.pure (.loadEl1 _ _ rfl ag9 rfl rfl get_mapA rfl rfl rfl)) (Ch.s (.d (.str ((cubes x.sigs.length).getD k default))) pa ?_)))))))
  refine Ch.nil (T_seq (T_seq (T_region hc (Ch.s (.d (.bool ((bcTo x r q k).2))) pm (Ch.s (.d (.bool ((bcTo x r q k).2))) pm ?_)))))
  cases h2 : ((bcTo x r q k).2) with
  | true =>
   try have hck := cubes_mem x.sigs.length _ (getD_mem (l := (cubes x.sigs.length)) (j := k) (d := default) (by omega))
   try have hb2 := bulk_one (Nat.le_of_eq hck)
   refine Ch.s (.d (.str ((cubes x.sigs.length).getD k default))) pm (Ch.s (.row 24000) (.slice 24000 _ 9 _ rfl sty23 (xs := [.tmp 23]) rfl rfl (.cons (.d _) .nil) rfl rfl (by decide)) (Ch.s (.d (.int .i64 (lits ([((cubes x.sigs.length).getD k default)]) : Int))) (.call 25000 200 _ _ _ en200 rfl (.inl rfl) (.cons (.lend (.row (ys := (([((cubes x.sigs.length).getD k default)]).map D.str)) rfl rfl)) .nil) rfl rfl (sp_spec_l14Literals ([((cubes x.sigs.length).getD k default)]) a23) (.skip _ _ .nil) rfl) (Ch.s (.d (.str ((bcTo x r q k).1))) pm (Ch.s (.row 27000) (.slice 27000 _ 9 _ rfl sty23 (xs := [.tmp 26]) rfl rfl (.cons (.d _) .nil) rfl rfl (by decide)) (Ch.s (.d (.int .i64 (lits ([((bcTo x r q k).1)]) : Int))) (.call 28000 200 _ _ _ en200 rfl (.inl rfl) (.cons (.lend (.row (ys := (([((bcTo x r q k).1)]).map D.str)) rfl rfl)) .nil) rfl rfl (sp_spec_l14Literals ([((bcTo x r q k).1)]) a23) (.skip _ _ .nil) rfl) (Ch.s (.d (.bool (decide ((lits ([((bcTo x r q k).1)]) : Int) ≤ (lits ([((cubes x.sigs.length).getD k default)]) : Int))))) (iX rfl rfl rfl) (Ch.s (.d (.bool (decide ((lits ([((bcTo x r q k).1)]) : Int) ≤ (lits ([((cubes x.sigs.length).getD k default)]) : Int))))) (.pure (.pickT _ _ _ rfl rfl rfl)) ?_)))))))
   refine Ch.nil ?_
   refine T_condD (p := ((lits ([((bcTo x r q k).1)]) : Int) ≤ (lits ([((cubes x.sigs.length).getD k default)]) : Int))) rfl (fun h3 => ?_) (fun h3 => ?_)
   ·
    try have hck := cubes_mem x.sigs.length _ (getD_mem (l := (cubes x.sigs.length)) (j := k) (d := default) (by omega))
    try have hb2 := bulk_one (Nat.le_of_eq hck)
    refine T_exit (T_region hc (Ch.s (.d (.int .i64 ((k : Int) + 1))) (iX rfl rfl intV_addA) (Ch.s (.d (.int .i64 ((k : Int) + 1))) pm (Ch.nil ?_))))
    exact nx (k + 1) (by omega) (Wk.of rfl rfl (ai rfl (ai rfl (ai rfl (ai (vS a7) (ai (vB a7) (ai rfl (ai rfl (ai (vI a114) trivial)))))))) (ai rfl (ai rfl trivial)))
   ·
    try have hck := cubes_mem x.sigs.length _ (getD_mem (l := (cubes x.sigs.length)) (j := k) (d := default) (by omega))
    try have hb2 := bulk_one (Nat.le_of_eq hck)
    refine T_skip (T_seq (T_region hc (Ch.s (.agg (vX x)) (.pure (.loadPtrA _ _ rfl ag35 sz35 rfl rfl (lb rfl) rfl)) (Ch.s (.d (.slice false 1 (r.map (fun n : Int => D.int .i64 n)))) pm (Ch.s (.d (.slice false 1 (q.map (fun n : Int => D.int .i64 n)))) pm (Ch.s (.d (.str ((cubes x.sigs.length).getD k default))) pm (Ch.s (.d (.int .i64 (monN x r q ((cubes x.sigs.length).getD k default) : Int))) (.call 35000 126 _ _ _ en126 rfl (.inl rfl) (.cons lX (.cons (.d _) (.cons (.d _) (.cons (.d _) .nil)))) rfl rfl (sp_spec_l17Why x r q ((cubes x.sigs.length).getD k default) a39 (by assumption) a64 a39 a39 a123) (.skip _ _ (.skip _ _ (.skip _ _ (.skip _ _ .nil)))) rfl) ?_)))))))
    refine Ch.s (.d (.bool (decide ((monN x r q ((cubes x.sigs.length).getD k default) : Int) = 0)))) (iX rfl rfl rfl) (Ch.nil ?_)
    refine T_condD (p := ((monN x r q ((cubes x.sigs.length).getD k default) : Int) = 0)) rfl (fun h4 => ?_) (fun h4 => ?_)
    ·
     refine T_seq (T_region hc (Ch.s (.d (.str ((cubes x.sigs.length).getD k default))) pm (Ch.s (.d (.str ((cubes x.sigs.length).getD k default))) pa (Ch.nil (T_region hc (Ch.s (.d (.bool true)) pa (Ch.nil ?_)))))))
     refine T_region hc (Ch.s (.d (.int .i64 ((k : Int) + 1))) (iX rfl rfl intV_addA) (Ch.s (.d (.int .i64 ((k : Int) + 1))) pm (Ch.nil ?_)))
     exact nx (k + 1) (by omega) (Wk.of rfl rfl (ai rfl (ai rfl (ai rfl (ai (vS a7) (ai (vB a7) (ai rfl (ai rfl (ai (vI a114) trivial)))))))) (ai rfl (ai rfl trivial)))
    ·
     refine T_skip (T_region hc (Ch.s (.d (.int .i64 ((k : Int) + 1))) (iX rfl rfl intV_addA) (Ch.s (.d (.int .i64 ((k : Int) + 1))) pm (Ch.nil ?_))))
     exact nx (k + 1) (by omega) (Wk.of rfl rfl (ai rfl (ai rfl (ai rfl (ai (vS a7) (ai (vB a7) (ai rfl (ai rfl (ai (vI a114) trivial)))))))) (ai rfl (ai rfl trivial)))
  | false =>
   try have hck := cubes_mem x.sigs.length _ (getD_mem (l := (cubes x.sigs.length)) (j := k) (d := default) (by omega))
   try have hb2 := bulk_one (Nat.le_of_eq hck)
   refine Ch.skip rfl rfl (Ch.skip rfl rfl (Ch.skip rfl rfl (Ch.skip rfl rfl (Ch.skip rfl rfl (Ch.skip rfl rfl (Ch.skip rfl rfl (Ch.s (.d (.bool false)) (.pure (.pickF _ _ _ rfl rfl rfl)) ?_)))))))
   refine Ch.nil ?_
   refine T_cond (b := false) rfl (fun h => nomatch h) (fun _ => ?_)
   refine T_skip (T_seq (T_region hc (Ch.s (.agg (vX x)) (.pure (.loadPtrA _ _ rfl ag35 sz35 rfl rfl (lb rfl) rfl)) (Ch.s (.d (.slice false 1 (r.map (fun n : Int => D.int .i64 n)))) pm (Ch.s (.d (.slice false 1 (q.map (fun n : Int => D.int .i64 n)))) pm (Ch.s (.d (.str ((cubes x.sigs.length).getD k default))) pm (Ch.s (.d (.int .i64 (monN x r q ((cubes x.sigs.length).getD k default) : Int))) (.call 35000 126 _ _ _ en126 rfl (.inl rfl) (.cons lX (.cons (.d _) (.cons (.d _) (.cons (.d _) .nil)))) rfl rfl (sp_spec_l17Why x r q ((cubes x.sigs.length).getD k default) a39 (by assumption) a64 a39 a39 a123) (.skip _ _ (.skip _ _ (.skip _ _ (.skip _ _ .nil)))) rfl) ?_)))))))
   refine Ch.s (.d (.bool (decide ((monN x r q ((cubes x.sigs.length).getD k default) : Int) = 0)))) (iX rfl rfl rfl) (Ch.nil ?_)
   refine T_condD (p := ((monN x r q ((cubes x.sigs.length).getD k default) : Int) = 0)) rfl (fun h5 => ?_) (fun h5 => ?_)
   ·
    refine T_seq (T_region hc (Ch.s (.d (.str ((cubes x.sigs.length).getD k default))) pm (Ch.s (.d (.str ((cubes x.sigs.length).getD k default))) pa (Ch.nil (T_region hc (Ch.s (.d (.bool true)) pa (Ch.nil ?_)))))))
    refine T_region hc (Ch.s (.d (.int .i64 ((k : Int) + 1))) (iX rfl rfl intV_addA) (Ch.s (.d (.int .i64 ((k : Int) + 1))) pm (Ch.nil ?_)))
    exact nx (k + 1) (by omega) (Wk.of rfl rfl (ai rfl (ai rfl (ai rfl (ai (vS a7) (ai (vB a7) (ai rfl (ai rfl (ai (vI a114) trivial)))))))) (ai rfl (ai rfl trivial)))
   ·
    refine T_skip (T_region hc (Ch.s (.d (.int .i64 ((k : Int) + 1))) (iX rfl rfl intV_addA) (Ch.s (.d (.int .i64 ((k : Int) + 1))) pm (Ch.nil ?_))))
    exact nx (k + 1) (by omega) (Wk.of rfl rfl (ai rfl (ai rfl (ai rfl (ai (vS a7) (ai (vB a7) (ai rfl (ai rfl (ai (vI a114) trivial)))))))) (ai rfl (ai rfl trivial)))
 ·
  try have hck := cubes_mem x.sigs.length _ (getD_mem (l := (cubes x.sigs.length)) (j := k) (d := default) (by omega))
  try have hb2 := bulk_one (Nat.le_of_eq hck)
  refine T_exit (T_seq (T_region hc (Ch.s (.d (.str ((bcTo x r q k).1))) pm (Ch.s (.d (.bool ((bcTo x r q k).2))) pm (Ch.s (.d (.str ((bcTo x r q k).1))) pa (Ch.s (.d (.bool ((bcTo x r q k).2))) pa (Ch.nil ?_)))))))
  refine T_ret ?_
  exact endR [(.d (.str ((bcTo x r q k).1))), (.d (.bool ((bcTo x r q k).2)))] [] [] (.cons (.tmp 6 rfl) (.cons (.tmp 7 rfl) .nil)) (.cons (.any _) (.cons (.any _) (.cons (.any _) .nil))) (.tup (.cons (Exp.of (congrArg D.str (by rw [show (cubes x.sigs.length).length = k by omega])) (.d _)) (.cons (Exp.of (congrArg D.bool (by rw [show (cubes x.sigs.length).length = k by omega])) (.d _)) .nil))) rfl rfl

theorem stru121 : StructIs Tryz.prog 121 [.int .i64 0, .bool false, .slice none 0 0] [(0, 1), (1, 1), (2, 1)] := structIs_mk (by kernel_rfl) Tryz.underlying121 (by kernel_rfl)

theorem en62 : Enters Tryz.prog 62 := ⟨_, Tryz.func62, by kernel_rfl, rfl⟩

theorem en63 : Enters Tryz.prog 63 := ⟨_, Tryz.func63, by kernel_rfl, rfl⟩

theorem en64 : Enters Tryz.prog 64 := ⟨_, Tryz.func64, by kernel_rfl, rfl⟩

theorem en65 : Enters Tryz.prog 65 := ⟨_, Tryz.func65, by kernel_rfl, rfl⟩

def cbK (x : Sgr) (sig : Int) (up : Bool) (m : Nat) : List (List UInt8) := ((exR x sig up).take m).map fun r => (bestF x sig r).1

def okE (x : Sgr) (l : Lab) : Bool := (exR x l.sig l.up).all fun r => (bestF x l.sig r).2

def rcK (x : Sgr) (l : Lab) : Rcv := Rcv.mk l.sig l.up (cbK x l.sig l.up (exR x l.sig l.up).length)

def mcK (x : Sgr) (k : Nat) : List Rcv := ((edgesF (outsL x.sigs)).take k).map (rcK x)

def mcB (x : Sgr) : Bool := madeB x && (edgesF (outsL x.sigs)).all (okE x)

def mcV (x : Sgr) : List Rcv := if mcB x then mcK x (edgesF (outsL x.sigs)).length else []

theorem cb_succ {x : Sgr} {sig : Int} {up : Bool} {m : Nat} (h : m < (exR x sig up).length) : cbK x sig up (m + 1) = cbK x sig up m ++ [(bestF x sig ((exR x sig up).getD m default)).1] := by
 have hg : (exR x sig up).getD m default = (exR x sig up)[m] := by simp [h]
 unfold cbK
 rw [hg, List.take_succ_eq_append_getElem h, List.map_append]; rfl

theorem cb_le (x : Sgr) (sig : Int) (up : Bool) (m : Nat) : (cbK x sig up m).length ≤ m ∧ (cbK x sig up m).length ≤ x.codes.length := by
 have := exR_le x sig up
 unfold cbK
 rw [List.length_map, List.length_take]; omega

theorem mc_succ {x : Sgr} {k : Nat} (h : k < (edgesF (outsL x.sigs)).length) : mcK x (k + 1) = mcK x k ++ [rcK x ((edgesF (outsL x.sigs)).getD k default)] := by
 have hg : (edgesF (outsL x.sigs)).getD k default = (edgesF (outsL x.sigs))[k] := by simp [h]
 unfold mcK
 rw [hg, List.take_succ_eq_append_getElem h, List.map_append]; rfl

theorem mc_le (x : Sgr) (k : Nat) : (mcK x k).length ≤ 2 * x.sigs.length := by
 have := edges_len (outsL x.sigs); have := outs_len x.sigs
 unfold mcK
 rw [List.length_map, List.length_take]; omega

theorem okE_yes {x : Sgr} {l : Lab} (h : ∀ j, j < (exR x l.sig l.up).length → (bestF x l.sig ((exR x l.sig l.up).getD j default)).2 = true) : okE x l = true := by
 unfold okE
 rw [List.all_eq_true]
 intro r hr
 obtain ⟨j, hj, e⟩ := List.mem_iff_getElem.1 hr
 have := h j hj
 rw [show (exR x l.sig l.up).getD j default = r from by simp [hj, e]] at this
 exact this

theorem okE_no {x : Sgr} {l : Lab} (j : Nat) (hj : j < (exR x l.sig l.up).length) (h : (bestF x l.sig ((exR x l.sig l.up).getD j default)).2 = false) : okE x l = false := by
 cases e : okE x l with
 | false => rfl
 | true =>
  unfold okE at e
  have := List.all_eq_true.1 e _ (getD_mem (d := default) hj)
  rw [h] at this; cases this

theorem okE_yes2 {x : Sgr} {sig : Int} {up : Bool} (h : ∀ j, j < (exR x sig up).length → (bestF x sig ((exR x sig up).getD j default)).2 = true) : okE x (Lab.mk sig up) = true := okE_yes (l := Lab.mk sig up) h

theorem okE_no2 {x : Sgr} {sig : Int} {up : Bool} (j : Nat) (hj : j < (exR x sig up).length) (h : (bestF x sig ((exR x sig up).getD j default)).2 = false) : okE x (Lab.mk sig up) = false := okE_no (l := Lab.mk sig up) j hj h

theorem mcB_no1 {x : Sgr} (h : madeB x = false) : mcB x = false := by rw [mcB, h]; rfl

theorem mcB_no2 {x : Sgr} (k : Nat) (hk : k < (edgesF (outsL x.sigs)).length) (h : okE x ((edgesF (outsL x.sigs)).getD k default) = false) : mcB x = false := by
 cases e : mcB x with
 | false => rfl
 | true =>
  unfold mcB at e
  rw [Bool.and_eq_true] at e
  have := List.all_eq_true.1 e.2 _ (getD_mem (d := default) hk)
  rw [h] at this; cases this

theorem mcB_yes {x : Sgr} (h : madeB x = true) (h2 : ∀ j, j < (edgesF (outsL x.sigs)).length → okE x ((edgesF (outsL x.sigs)).getD j default) = true) : mcB x = true := by
 unfold mcB
 rw [h, Bool.true_and, List.all_eq_true]
 intro l hl
 obtain ⟨j, hj, e⟩ := List.mem_iff_getElem.1 hl
 have := h2 j hj
 rw [show (edgesF (outsL x.sigs)).getD j default = l from by simp [hj, e]] at this
 exact this

theorem mcV_no {x : Sgr} (h : mcB x = false) : mcV x = [] := by rw [mcV, h]; rfl

theorem mcV_yes {x : Sgr} (h : mcB x = true) {k : Nat} (hk : k = (edgesF (outsL x.sigs)).length) : mcV x = mcK x k := by rw [mcV, h, if_pos rfl, hk]

theorem ed_at {x : Sgr} {k m : Nat} (hk : k < (outsL x.sigs).length) (hm : m < 2) : 2 * k + m < (edgesF (outsL x.sigs)).length ∧ (edgesF (outsL x.sigs)).getD (2 * k + m) default = Lab.mk ((outsL x.sigs).getD k default) ([true, false].getD m default) := by
  refine ⟨by rw [edges_len]; omega, ?_⟩
  rw [edges_get (by omega), show (2 * k + m) / 2 = k by omega]
  congr 1
  rcases (by omega : m = 0 ∨ m = 1) with h | h
  · subst h; rw [decide_eq_true (by omega)]; rfl
  · subst h; rw [decide_eq_false (by omega)]; rfl

theorem mc_succ2 {x : Sgr} {k m : Nat} (hk : k < (outsL x.sigs).length) (hm : m < 2) : mcK x (2 * k + (m + 1)) = mcK x (2 * k + m) ++ [Rcv.mk ((outsL x.sigs).getD k default) ([true, false].getD m default) (cbK x ((outsL x.sigs).getD k default) ([true, false].getD m default) (exR x ((outsL x.sigs).getD k default) ([true, false].getD m default)).length)] := by
 have h := ed_at hk hm
 rw [← Nat.add_assoc, mc_succ h.1, h.2]; rfl

theorem sum_bd {l : List Nat} {n : Nat} (h : ∀ a ∈ l, a ≤ n) : l.sum ≤ l.length * n := by
 induction l with
 | nil => simp
 | cons a l ih =>
  have := ih fun b hb => h b (List.mem_cons_of_mem _ hb)
  have := h a (List.mem_cons_self ..)
  rw [List.sum_cons, List.length_cons, Nat.add_mul]; omega

theorem mcV_bd (x : Sgr) : bulkF Rcv.bulk (mcV x) ≤ 60000 ∧ (mcV x).length ≤ 16 ∧ ∀ r ∈ mcV x, r.cubes.length ≤ 300 := by
 cases hb : mcB x with
 | false => rw [mcV_no hb]; exact ⟨by unfold bulkF; simp, by simp, fun r hr => by cases hr⟩
 | true =>
  have hm : madeB x = true := by unfold mcB at hb; rw [Bool.and_eq_true] at hb; exact hb.1
  have hx := sg_has (made_sg hm)
  have hl := hx.len; have h8 := hx.eight
  rw [mcV_yes hb rfl]
  have hle := mc_le x (edgesF (outsL x.sigs)).length
  have hr : ∀ r ∈ mcK x (edgesF (outsL x.sigs)).length, r.cubes.length ≤ 300 ∧ Rcv.bulk r ≤ 3000 := by
   intro r hr
   unfold mcK at hr
   obtain ⟨l, _, e⟩ := List.mem_map.1 hr
   subst e
   have hc := (cb_le x l.sig l.up (exR x l.sig l.up).length).2
   refine ⟨by show (cbK x l.sig l.up _).length ≤ 300; omega, ?_⟩
   have hs : ((cbK x l.sig l.up (exR x l.sig l.up).length).map List.length).sum ≤ (cbK x l.sig l.up (exR x l.sig l.up).length).length * 8 := by
    have := sum_bd (l := (cbK x l.sig l.up (exR x l.sig l.up).length).map List.length) (n := 8) (fun a ha => by
     obtain ⟨c, hc2, e⟩ := List.mem_map.1 ha
     subst e
     unfold cbK at hc2
     obtain ⟨r, _, e⟩ := List.mem_map.1 hc2
     subst e
     have := bcTo_len x r (quietL x l.sig r) _ (Nat.le_refl _)
     unfold bestF; omega)
    rwa [List.length_map] at this
   show bulkS (cbK x l.sig l.up (exR x l.sig l.up).length) ≤ 3000
   unfold bulkS; omega
  refine ⟨?_, by omega, fun r h => (hr r h).1⟩
  have := sum_bd (l := (mcK x (edgesF (outsL x.sigs)).length).map Rcv.bulk) (n := 3000) (fun a ha => by
   obtain ⟨r, h, e⟩ := List.mem_map.1 ha
   subst e; exact (hr r h).2)
  rw [List.length_map] at this
  unfold bulkF; omega

def rml (xs : List Rcv) (m : Nat) : Nat := ((xs.take m).map fun r => 2 + r.cubes.length).sum

theorem rml_succ {xs : List Rcv} {m : Nat} (h : m < xs.length) : rml xs (m + 1) = rml xs m + 2 + (xs.getD m default).cubes.length := by
 have hg : xs.getD m default = xs[m] := by simp [h]
 unfold rml
 rw [List.take_succ_eq_append_getElem h, List.map_append, List.sum_append, hg]
 simp only [List.map_cons, List.map_nil, List.sum_cons, List.sum_nil]; omega

theorem rml_all {xs : List Rcv} {m : Nat} (h : xs.length ≤ m) : rml xs m = rml xs xs.length := by
 unfold rml
 rw [List.take_of_length_le h, List.take_of_length_le (Nat.le_refl _)]

theorem rml_bd {xs : List Rcv} (h : ∀ r ∈ xs, r.cubes.length ≤ 300) : ∀ m, rml xs m ≤ xs.length * 302 := fun m => by
 have := sum_bd (l := (xs.take m).map fun r => 2 + r.cubes.length) (n := 302) (fun a ha => by
  obtain ⟨r, hr, e⟩ := List.mem_map.1 ha
  subst e
  have := h r (List.mem_of_mem_take hr); omega)
 rw [List.length_map, List.length_take] at this
 have h2 : min m xs.length * 302 ≤ xs.length * 302 := Nat.mul_le_mul_right _ (by omega)
 exact Nat.le_trans this h2

def rmO (k : Nat) (r : Rcv) : Rcv := Rcv.mk (k : Int) (decide ((((k + 1) % 3 : Nat) : Int) = 0)) (marks (k + 1 + 1) r.cubes.length)

def rmTo (xs : List Rcv) (k : Nat) : Nat → List Rcv
 | 0 => xs
 | m + 1 => (rmTo xs k m).set m (rmO (k + rml xs m) (xs.getD m default))

theorem rmTo_len (xs : List Rcv) (k : Nat) : ∀ m, (rmTo xs k m).length = xs.length
 | 0 => rfl
 | m + 1 => by rw [rmTo, List.length_set, rmTo_len xs k m]

theorem rmTo_get {xs : List Rcv} {k j : Nat} : ∀ m, m ≤ xs.length → (rmTo xs k m).getD j default = if j < m then rmO (k + rml xs j) (xs.getD j default) else xs.getD j default
  | 0, _ => by rw [if_neg (by omega)]; rfl
  | m + 1, hm => by
    rw [rmTo, getD_set, rmTo_len]
    by_cases h : m = j
    · subst h
      rw [if_pos ⟨rfl, by omega⟩, if_pos (by omega)]
    · rw [if_neg (fun q => h q.1), rmTo_get m (by omega)]
      by_cases h2 : j < m
      · rw [if_pos h2, if_pos (by omega)]
      · rw [if_neg h2, if_neg (by omega)]

theorem rmTo_at {xs : List Rcv} {k m : Nat} (h : m ≤ xs.length) : (rmTo xs k m).getD m default = xs.getD m default := by rw [rmTo_get m h, if_neg (Nat.lt_irrefl m)]

def rmk (k : Nat) (xs : List Rcv) : List Rcv := rmTo xs k xs.length

theorem rmk_len (k : Nat) (xs : List Rcv) : (rmk k xs).length = xs.length := rmTo_len _ _ _

theorem rmk_at {k : Nat} {xs : List Rcv} {j : Nat} (h : j < xs.length) : (rmk k xs).getD j default = rmO (k + rml xs j) (xs.getD j default) := by
 unfold rmk
 rw [rmTo_get _ (Nat.le_refl _), if_pos h]

theorem rmk_rml {k : Nat} {xs : List Rcv} : ∀ m, m ≤ xs.length → rml (rmk k xs) m = rml xs m
 | 0, _ => rfl
 | m + 1, hm => by
  rw [rml_succ (by rw [rmk_len]; omega), rml_succ (by omega), rmk_rml m (by omega), rmk_at (by omega)]
  unfold rmO
  rw [marks_length]

theorem rm_set {xs : List Rcv} {k m : Nat} {d1 d2 d3 : D} : (((((rmTo xs k m).map Rcv.u).set m d1).set m d2).set m d3).set m (Rcv.u (rmO (k + rml xs m) (xs.getD m default))) = (rmTo xs k (m + 1)).map Rcv.u := by
 rw [List.set_set, List.set_set, List.set_set, rmTo, List.map_set]

def RHeld (xs : List Rcv) (k : Nat) : Prop := ∀ j, j < xs.length → (xs.getD j default).sig = ((k + rml xs j : Nat) : Int) ∧ (xs.getD j default).up = decide ((((k + rml xs j + 1) % 3 : Nat) : Int) = 0) ∧ heldR (xs.getD j default).cubes (k + rml xs j + 1 + 1) = ((k + rml xs j + 1 + 1 + (xs.getD j default).cubes.length : Nat) : Int)

theorem rmk_held (k : Nat) (xs : List Rcv) : RHeld (rmk k xs) k := fun j hj => by
 rw [rmk_len] at hj
 rw [rmk_rml j (by omega), rmk_at hj]
 exact ⟨rfl, rfl, heldq_marks _ _⟩

theorem rmk_cubes {xs : List Rcv} {k n : Nat} (h : ∀ r ∈ xs, r.cubes.length ≤ n) : ∀ r ∈ rmk k xs, r.cubes.length ≤ n := fun r hr => by
 obtain ⟨j, hj, e⟩ := List.mem_iff_getElem.1 hr
 have hj2 : j < xs.length := by rwa [rmk_len] at hj
 have h1 := rmk_at (k := k) hj2
 rw [show (rmk k xs).getD j default = r from by simp [hj, e]] at h1
 rw [h1]
 unfold rmO
 rw [marks_length]
 exact h _ (getD_mem hj2)

theorem edges_sig {x : Sgr} : ∀ l ∈ edgesF (outsL x.sigs), 0 ≤ l.sig ∧ l.sig.toNat < x.sigs.length := fun l hl => by
  unfold edgesF at hl
  obtain ⟨s, hs, h⟩ := List.mem_flatMap.1 hl
  have hb := outs_in s hs
  rcases List.mem_cons.1 h with e | h
  · subst e; exact hb
  · rcases List.mem_cons.1 h with e | h
    · subst e; exact hb
    · cases h

set_option maxHeartbeats 2000000 in
theorem sp_impl_MonotonousCovers (x : Sgr) (hb : x.bulk ≤ 1048576) : Sp Tryz.prog 63 [(.agg [(.slice false 2 (x.sigs.map Sgn.d)), (.slice false 1 (x.codes.map D.str)), (.slice false 4 (x.arcs.map Arc.d))])] [.any] (.tup [(.slice true 3 ((mcV x).map Rcv.u)), (.bool (mcB x))]) := by
 refine Sp_intro (lend := true) Tryz.func63 rfl rfl rfl (fun _ => rfl) (fun c hc hX => ?_)
 obtain ⟨hp0, hp1, hp2⟩ := Sgr.parts hb
 have hn0 := bulkF_len hp0
 have hn1 := bulk_len hp1
 have hx1 := bulk_mem hp1
 have hn2 := bulkF_len hp2; have hol := outs_len x.sigs; have hel := edges_len (outsL x.sigs)
 refine T_seq (T_region hc (Ch.s (.ptr 1000 0) (.box 1000 _ _ rfl (.aggD _)) (Ch.s (.c (.slice none 0 0)) pa (Ch.s (.d (.bool false)) pa (Ch.nil (T_seq (T_seq ?_)))))))
 refine T_region hc (Ch.s (.agg (vX x)) (.pure (.loadPtrA _ _ rfl ag35 sz35 rfl rfl (lb rfl) rfl)) (Ch.s (.d (.bool (madeB x))) (.call 13000 111 _ _ _ en111 rfl (.inl rfl) (.cons lX .nil) rfl rfl (sp_impl_isMade x a39) (.skip _ _ .nil) rfl) (Ch.s (.d (.bool (!(madeB x)))) (.pure (.not _ _ rfl rfl)) (Ch.nil ?_))))
 refine T_condN (b := (madeB x)) rfl (fun h1 => ?_) (fun h1 => ?_)
 ·
  try have hmd : madeB x = true := by first | assumption | (rw [madeB, h1, Bool.true_and]; exact decide_eq_true h2)
  try have hx := sg_has a119
  try have hxl := hx.len
  try have hx8 := hx.eight
  try have hes : ∀ l ∈ (edgesF (outsL x.sigs)), 0 ≤ l.sig ∧ l.sig.toNat < x.sigs.length := edges_sig
  refine T_seq (T_region hc (Ch.s (.c (.slice none 0 0)) pa (Ch.s (.d (.bool false)) pa (Ch.nil (T_ret ?_)))))
  exact endR [(.c (.slice none 0 0)), (.d (.bool false))] [] [] (.cons (.tmp 2 rfl) (.cons (.tmp 3 rfl) .nil)) (.cons (.any _) .nil) (.tup (.cons (Exp.of (congrArg (D.slice true 3) a3) (.nil true 3)) (.cons (Exp.of (congrArg D.bool a3) (.d _)) .nil))) rfl rfl
 ·
  try have hmd : madeB x = true := by first | assumption | (rw [madeB, h1, Bool.true_and]; exact decide_eq_true h2)
  try have hx := sg_has a119
  try have hxl := hx.len
  try have hx8 := hx.eight
  try have hes : ∀ l ∈ (edgesF (outsL x.sigs)), 0 ≤ l.sig ∧ l.sig.toNat < x.sigs.length := edges_sig
  refine T_skip (T_seq (T_region hc (Ch.s (.row 15000) (.slice 15000 _ 121 _ rfl sty73 (xs := []) rfl rfl .nil rfl rfl (by decide)) (Ch.s (.row 15000) pa (Ch.nil (T_seq (T_seq ?_)))))))
  refine T_region hc (Ch.s (.agg (vX x)) (.pure (.loadPtrA _ _ rfl ag35 sz35 rfl rfl (lb rfl) rfl)) ?_)
  refine Ch.step (v := (.row 17000)) rfl (.call 17000 132 _ _ _ en132 rfl (.inl rfl) (.cons lX .nil) rfl (sol (solid_row (fun _ => rfl) _) rfl) (sp_impl_edgesOf x a39 a39) (.skip _ _ .nil) rfl) rfl rfl ?_
  refine Ch.s (.d (.int .i64 ((edgesF (outsL x.sigs)).length : Int))) (.pure (.len _ _ 107 rfl Tryz.underlying147 (.row rfl) (by simp))) (Ch.s (.d (.int .i64 0)) pm (Ch.nil (T_block ?_)))
  refine T_loop (ι := Nat) (fun k => { n := 61, sl := [(1, (.ptr 1000 0)), (4, (.row 4)), (17, (.row 17000)), (18, (.d (.int .i64 ((edgesF (outsL x.sigs)).length : Int)))), (19, (.d (.int .i64 (k : Int))))], hp := [(4, (some (.row 3 ((mcK x k).map Rcv.u)))), (1000, (some (.box (vX x)))), (17000, (some (.row 2 ((edgesF (outsL x.sigs)).map Lab.d))))], pin := [] }) (fun k => k ≤ (edgesF (outsL x.sigs)).length ∧ ∀ j, j < k → okE x ((edgesF (outsL x.sigs)).getD j default) = true) (fun k => (edgesF (outsL x.sigs)).length - k) ⟨0, ⟨by omega, fun j hj => by omega⟩, (Wk.ren [(4, 15000)] rfl rfl rfl rfl (ai rfl (ai rfl (ai rfl (ai rfl (ai (vI a114) trivial))))) (ai (oR a38) (ai rfl (ai rfl trivial))))⟩ (fun k hp0 => ?_)
  have hml := mc_le x k
  refine T_seq (T_region hc (Ch.s (.d (.bool (decide ((k : Int) < ((edgesF (outsL x.sigs)).length : Int))))) (iX rfl rfl rfl) (Ch.nil (T_seq ?_))))
  refine T_condD (p := ((k : Int) < ((edgesF (outsL x.sigs)).length : Int))) rfl (fun h2 => ?_) (fun h2 => ?_)
  ·
   try have hek := hes _ (getD_mem (l := (edgesF (outsL x.sigs))) (j := k) (d := default) (by omega))
   try have hexl := exR_le x ((edgesF (outsL x.sigs)).getD k default).sig ((edgesF (outsL x.sigs)).getD k default).up
   refine T_skip (T_seq (T_block (T_seq (T_region hc (Ch.s (.el 17000 2 k 0) (.pure (.idxRow _ _ _ 107 (k) rfl Tryz.underlying147 sz107 rfl rfl rfl rfl a86)) (Ch.s (.d (.agg [(.int .i64 (((edgesF (outsL x.sigs)).getD k default).sig)), (.bool (((edgesF (outsL x.sigs)).getD k default).up))])) (.pure (.loadElA _ _ rfl ag107 sz107 rfl rfl get_mapA rfl)) (Ch.s (.ptr 6000 0) (.alloc 6000 _ rfl zer107) ?_)))))))
   refine Ch.s .junk (.storePtr _ _ _ rfl rfl rfl (.aggD _) sz107 (lb rfl)) (Ch.nil (T_seq (T_region hc (Ch.s (.ptr 6000 0) (.pure (.fldPtr _ _ _ rfl fld107_0 rfl)) (Ch.s (.d (.int .i64 (((edgesF (outsL x.sigs)).getD k default).sig))) (.pure (.loadPtr1 _ _ rfl ag3 rfl rfl rfl)) (Ch.s (.ptr 6000 1) (.pure (.fldPtr _ _ _ rfl fld107_1 rfl)) (Ch.s (.d (.bool (((edgesF (outsL x.sigs)).getD k default).up))) (.pure (.loadPtr1 _ _ rfl ag4 rfl rfl rfl)) ?_)))))))
   refine Ch.s (.agg [(.d (.int .i64 (((edgesF (outsL x.sigs)).getD k default).sig))), (.d (.bool (((edgesF (outsL x.sigs)).getD k default).up))), (.c (.slice none 0 0))]) (.build _ _ rfl stru121 (.cons (.one _ rfl) (.cons (.one _ rfl) .nil)) rfl) (Ch.s (.ptr 7000 0) (.alloc 7000 _ rfl zer121) (Ch.s .junk (.storePtr _ _ _ rfl rfl rfl (.agg _ rfl) sz121 (lb rfl)) (Ch.nil (T_seq (T_seq (T_region hc (Ch.s (.agg (vX x)) (.pure (.loadPtrA _ _ rfl ag35 sz35 rfl rfl (lb rfl) rfl)) ?_)))))))
   refine Ch.s (.ptr 6000 0) (.pure (.fldPtr _ _ _ rfl fld107_0 rfl)) (Ch.s (.d (.int .i64 (((edgesF (outsL x.sigs)).getD k default).sig))) (.pure (.loadPtr1 _ _ rfl ag3 rfl rfl rfl)) (Ch.s (.ptr 6000 1) (.pure (.fldPtr _ _ _ rfl fld107_1 rfl)) (Ch.s (.d (.bool (((edgesF (outsL x.sigs)).getD k default).up))) (.pure (.loadPtr1 _ _ rfl ag4 rfl rfl rfl)) (Ch.s (.d (.slice false 1 ((exR x (((edgesF (outsL x.sigs)).getD k default).sig) (((edgesF (outsL x.sigs)).getD k default).up)).map intsD))) (.callFz 33000 88 _ _ _ en88 rfl (.inl rfl) (.cons lX (.cons (.d _) (.cons (.d _) .nil))) (solid_row intsU_sol _) (sp_impl_excitationRegions x (((edgesF (outsL x.sigs)).getD k default).sig) (((edgesF (outsL x.sigs)).getD k default).up) a39 (by assumption)) (slice_froz (frozs_to intsU_fz _)) rfl) (Ch.s (.d (.int .i64 ((exR x (((edgesF (outsL x.sigs)).getD k default).sig) (((edgesF (outsL x.sigs)).getD k default).up)).length : Int))) (.pure (.len _ _ 55 rfl Tryz.underlying49 (.sh _ _) (by simp))) (Ch.s (.d (.int .i64 0)) pm (Ch.nil ?_)))))))
   refine T_block ?_
   refine T_loop (ι := Nat) (fun m => { n := 61, sl := [(1, (.ptr 1000 0)), (4, (.row 4)), (6, (.ptr 6000 0)), (7, (.ptr 7000 0)), (17, (.row 17000)), (18, (.d (.int .i64 ((edgesF (outsL x.sigs)).length : Int)))), (19, (.d (.int .i64 (k : Int)))), (33, (.d (.slice false 1 ((exR x (((edgesF (outsL x.sigs)).getD k default).sig) (((edgesF (outsL x.sigs)).getD k default).up)).map intsD)))), (34, (.d (.int .i64 ((exR x (((edgesF (outsL x.sigs)).getD k default).sig) (((edgesF (outsL x.sigs)).getD k default).up)).length : Int)))), (35, (.d (.int .i64 (m : Int))))], hp := [(4, (some (.row 3 ((mcK x k).map Rcv.u)))), (1000, (some (.box (vX x)))), (6000, (some (.box [(.d (.int .i64 (((edgesF (outsL x.sigs)).getD k default).sig))), (.d (.bool (((edgesF (outsL x.sigs)).getD k default).up)))]))), (7000, (some (.box [(.d (.int .i64 (((edgesF (outsL x.sigs)).getD k default).sig))), (.d (.bool (((edgesF (outsL x.sigs)).getD k default).up))), (.row 7700)]))), (7700, (some (.row 1 ((cbK x ((edgesF (outsL x.sigs)).getD k default).sig ((edgesF (outsL x.sigs)).getD k default).up m).map D.str)))), (17000, (some (.row 2 ((edgesF (outsL x.sigs)).map Lab.d))))], pin := [] }) (fun m => m ≤ (exR x ((edgesF (outsL x.sigs)).getD k default).sig ((edgesF (outsL x.sigs)).getD k default).up).length ∧ ∀ j, j < m → (bestF x ((edgesF (outsL x.sigs)).getD k default).sig ((exR x ((edgesF (outsL x.sigs)).getD k default).sig ((edgesF (outsL x.sigs)).getD k default).up).getD j default)).2 = true) (fun m => (exR x ((edgesF (outsL x.sigs)).getD k default).sig ((edgesF (outsL x.sigs)).getD k default).up).length - m) ⟨0, ⟨by omega, fun j hj => by omega⟩, (Wk.trans (Wk.nilcell 7000 2 980002 1 rfl rfl rfl) (Wk.ren [(7700, 980002)] rfl rfl rfl rfl (ai rfl (ai rfl (ai rfl (ai rfl (ai rfl (ai rfl (ai rfl (ai rfl (ai rfl (ai (vI a114) trivial)))))))))) (ai rfl (ai rfl (ai rfl (ai (oB (Eq.trans (b := [(.d (.int .i64 (((edgesF (outsL x.sigs)).getD k default).sig))), (.d (.bool (((edgesF (outsL x.sigs)).getD k default).up))), (.row 980002)]) rfl (by rfl))) (ai (oR a110) (ai rfl trivial))))))))⟩ (fun m hp1 => ?_)
   have hcl := cb_le x ((edgesF (outsL x.sigs)).getD k default).sig ((edgesF (outsL x.sigs)).getD k default).up m
   refine T_seq (T_region hc (Ch.s (.d (.bool (decide ((m : Int) < ((exR x (((edgesF (outsL x.sigs)).getD k default).sig) (((edgesF (outsL x.sigs)).getD k default).up)).length : Int))))) (iX rfl rfl rfl) (Ch.nil (T_seq ?_))))
   refine T_condD (p := ((m : Int) < ((exR x (((edgesF (outsL x.sigs)).getD k default).sig) (((edgesF (outsL x.sigs)).getD k default).up)).length : Int))) rfl (fun h3 => ?_) (fun h3 => ?_)
   ·
    try have hek := hes _ (getD_mem (l := (edgesF (outsL x.sigs))) (j := k) (d := default) (by omega))
    try have hexl := exR_le x ((edgesF (outsL x.sigs)).getD k default).sig ((edgesF (outsL x.sigs)).getD k default).up
    try have hrg := getD_mem (l := (exR x ((edgesF (outsL x.sigs)).getD k default).sig ((edgesF (outsL x.sigs)).getD k default).up)) (j := m) (d := default) (by omega)
    try have hrg2 := exR_in _ hrg
    try have hrq := hrg2.2.2
    try have hrql : ((exR x ((edgesF (outsL x.sigs)).getD k default).sig ((edgesF (outsL x.sigs)).getD k default).up).getD m default).length ≤ 1048576 := by omega
    try have hqle : (quietL x ((edgesF (outsL x.sigs)).getD k default).sig ((exR x ((edgesF (outsL x.sigs)).getD k default).sig ((edgesF (outsL x.sigs)).getD k default).up).getD m default)).length ≤ 1048576 := Nat.le_trans (quietL_le x ((edgesF (outsL x.sigs)).getD k default).sig _) hn1
    refine T_skip (T_seq (T_block (T_seq (T_region hc (Ch.s (.d (.ref (.slice false 1 (((exR x (((edgesF (outsL x.sigs)).getD k default).sig) (((edgesF (outsL x.sigs)).getD k default).up)).getD m default).map (fun n : Int => D.int .i64 n))))) (.pure (.idx _ _ _ 55 (m) rfl Tryz.underlying49 sz55 rfl rfl rfl get_mapA)) (Ch.s (.d (.slice false 1 (((exR x (((edgesF (outsL x.sigs)).getD k default).sig) (((edgesF (outsL x.sigs)).getD k default).up)).getD m default).map (fun n : Int => D.int .i64 n)))) (.pure (.loadRef1 _ _ rfl ag55 rfl rfl)) (Ch.s (.d (.slice false 1 (((exR x (((edgesF (outsL x.sigs)).getD k default).sig) (((edgesF (outsL x.sigs)).getD k default).up)).getD m default).map (fun n : Int => D.int .i64 n)))) pa ?_)))))))
    refine Ch.nil (T_seq (T_region hc (Ch.s (.agg (vX x)) (.pure (.loadPtrA _ _ rfl ag35 sz35 rfl rfl (lb rfl) rfl)) (Ch.s (.agg [(.d (.int .i64 (((edgesF (outsL x.sigs)).getD k default).sig))), (.d (.bool (((edgesF (outsL x.sigs)).getD k default).up)))]) (.pure (.loadPtrA _ _ rfl ag107 sz107 rfl rfl (lb rfl) rfl)) (Ch.s (.d (.slice false 1 (((exR x (((edgesF (outsL x.sigs)).getD k default).sig) (((edgesF (outsL x.sigs)).getD k default).up)).getD m default).map (fun n : Int => D.int .i64 n)))) pm (Ch.s (.tup [(.d (.str ((bestF x ((edgesF (outsL x.sigs)).getD k default).sig ((exR x (((edgesF (outsL x.sigs)).getD k default).sig) (((edgesF (outsL x.sigs)).getD k default).up)).getD m default)).1))), (.d (.bool ((bestF x ((edgesF (outsL x.sigs)).getD k default).sig ((exR x (((edgesF (outsL x.sigs)).getD k default).sig) (((edgesF (outsL x.sigs)).getD k default).up)).getD m default)).2)))]) (.call 43000 130 _ _ _ en130 rfl (.inl rfl) (.cons lX (.cons (.lend (.agg (.cons (.d _) (.cons (.d _) .nil)) rfl)) (.cons (.d _) .nil))) rfl rfl (sp_impl_bestCube x ((edgesF (outsL x.sigs)).getD k default) ((exR x (((edgesF (outsL x.sigs)).getD k default).sig) (((edgesF (outsL x.sigs)).getD k default).up)).getD m default) a39 (by assumption) (by first | assumption | omega | exact hs.1) a91 a39) (.skip _ _ (.skip _ _ (.skip _ _ .nil))) rfl) (Ch.s (.tup [(.d (.str ((bestF x ((edgesF (outsL x.sigs)).getD k default).sig ((exR x (((edgesF (outsL x.sigs)).getD k default).sig) (((edgesF (outsL x.sigs)).getD k default).up)).getD m default)).1))), (.d (.bool ((bestF x ((edgesF (outsL x.sigs)).getD k default).sig ((exR x (((edgesF (outsL x.sigs)).getD k default).sig) (((edgesF (outsL x.sigs)).getD k default).up)).getD m default)).2)))]) pm ?_)))))))
    refine Ch.s (.d (.str ((bestF x ((edgesF (outsL x.sigs)).getD k default).sig ((exR x (((edgesF (outsL x.sigs)).getD k default).sig) (((edgesF (outsL x.sigs)).getD k default).up)).getD m default)).1))) (.pure (.extract _ rfl rfl rfl)) (Ch.s (.d (.bool ((bestF x ((edgesF (outsL x.sigs)).getD k default).sig ((exR x (((edgesF (outsL x.sigs)).getD k default).sig) (((edgesF (outsL x.sigs)).getD k default).up)).getD m default)).2))) (.pure (.extract _ rfl rfl rfl)) (Ch.s (.d (.str ((bestF x ((edgesF (outsL x.sigs)).getD k default).sig ((exR x (((edgesF (outsL x.sigs)).getD k default).sig) (((edgesF (outsL x.sigs)).getD k default).up)).getD m default)).1))) pa (Ch.s (.d (.bool ((bestF x ((edgesF (outsL x.sigs)).getD k default).sig ((exR x (((edgesF (outsL x.sigs)).getD k default).sig) (((edgesF (outsL x.sigs)).getD k default).up)).getD m default)).2))) pa (Ch.nil (T_seq (T_seq (T_region hc ?_)))))))
    refine Ch.s (.d (.bool ((bestF x ((edgesF (outsL x.sigs)).getD k default).sig ((exR x (((edgesF (outsL x.sigs)).getD k default).sig) (((edgesF (outsL x.sigs)).getD k default).up)).getD m default)).2))) pm (Ch.s (.d (.bool (!((bestF x ((edgesF (outsL x.sigs)).getD k default).sig ((exR x (((edgesF (outsL x.sigs)).getD k default).sig) (((edgesF (outsL x.sigs)).getD k default).up)).getD m default)).2)))) (.pure (.not _ _ rfl rfl)) (Ch.nil ?_))
    refine T_condN (b := ((bestF x ((edgesF (outsL x.sigs)).getD k default).sig ((exR x (((edgesF (outsL x.sigs)).getD k default).sig) (((edgesF (outsL x.sigs)).getD k default).up)).getD m default)).2)) rfl (fun h4 => ?_) (fun h4 => ?_)
    ·
     refine T_seq (T_region hc (Ch.s (.c (.slice none 0 0)) pa (Ch.s (.d (.bool false)) pa (Ch.nil (T_ret ?_)))))
     exact endR [(.c (.slice none 0 0)), (.d (.bool false))] [] [] (.cons (.tmp 2 rfl) (.cons (.tmp 3 rfl) .nil)) (.cons (.any _) .nil) (.tup (.cons (Exp.of (congrArg (D.slice true 3) a3) (.nil true 3)) (.cons (Exp.of (congrArg D.bool a3) (.d _)) .nil))) rfl rfl
    ·
     refine T_skip (T_region hc (Ch.s (.ptr 7000 2) (.pure (.fldPtr _ _ _ rfl fld121_2 rfl)) (Ch.s (.row 7700) (.pure (.loadPtr1 _ _ rfl ag23 rfl rfl rfl)) (Ch.s (.d (.str ((bestF x ((edgesF (outsL x.sigs)).getD k default).sig ((exR x (((edgesF (outsL x.sigs)).getD k default).sig) (((edgesF (outsL x.sigs)).getD k default).up)).getD m default)).1))) pm (Ch.s (.row 51000) (.slice 51000 _ 9 _ rfl sty23 (xs := [.tmp 50]) rfl rfl (.cons (.d _) .nil) rfl rfl (by decide)) ?_)))))
     refine Ch.step (v := (.row 52000)) rfl (.append 52000 _ _ _ 9 rfl sty23 (by decide) (.rowK rfl) (.inr ⟨_, rfl, rfl⟩) (.row rfl rfl) rfl a56) rfl rfl ?_
     refine Ch.s (.ptr 7000 2) (.pure (.fldPtr _ _ _ rfl fld121_2 rfl)) (Ch.s .junk (.storePtr _ _ _ rfl rfl rfl (.one _ rfl) sz23 (lb rfl)) (Ch.nil (T_region hc (Ch.s (.d (.int .i64 ((m : Int) + 1))) (iX rfl rfl intV_addA) (Ch.s (.d (.int .i64 ((m : Int) + 1))) pm (Ch.nil ?_))))))
     exact nx (m + 1) ⟨by omega, upto_succ hp1.2 (by assumption)⟩ (Wk.ren [(7700, 52000)] rfl rfl rfl rfl (ai rfl (ai rfl (ai rfl (ai rfl (ai rfl (ai rfl (ai rfl (ai rfl (ai rfl (ai (vI a114) trivial)))))))))) (ai rfl (ai rfl (ai rfl (ai (oB (Eq.trans (b := [(.d (.int .i64 (((edgesF (outsL x.sigs)).getD k default).sig))), (.d (.bool (((edgesF (outsL x.sigs)).getD k default).up))), (.row 52000)]) rfl (by rfl))) (ai (oR a110) (ai rfl trivial)))))))
   ·
    try have hek := hes _ (getD_mem (l := (edgesF (outsL x.sigs))) (j := k) (d := default) (by omega))
    try have hexl := exR_le x ((edgesF (outsL x.sigs)).getD k default).sig ((edgesF (outsL x.sigs)).getD k default).up
    try have hrg := getD_mem (l := (exR x ((edgesF (outsL x.sigs)).getD k default).sig ((edgesF (outsL x.sigs)).getD k default).up)) (j := m) (d := default) (by omega)
    try have hrg2 := exR_in _ hrg
    try have hrq := hrg2.2.2
    try have hrql : ((exR x ((edgesF (outsL x.sigs)).getD k default).sig ((edgesF (outsL x.sigs)).getD k default).up).getD m default).length ≤ 1048576 := by omega
    try have hqle : (quietL x ((edgesF (outsL x.sigs)).getD k default).sig ((exR x ((edgesF (outsL x.sigs)).getD k default).sig ((edgesF (outsL x.sigs)).getD k default).up).getD m default)).length ≤ 1048576 := Nat.le_trans (quietL_le x ((edgesF (outsL x.sigs)).getD k default).sig _) hn1
    refine T_exit (T_region hc (Ch.s (.row 4) pm (Ch.s (.agg [(.d (.int .i64 (((edgesF (outsL x.sigs)).getD k default).sig))), (.d (.bool (((edgesF (outsL x.sigs)).getD k default).up))), (.row 7700)]) (.pure (.loadPtrA _ _ rfl ag121 sz121 rfl rfl (lb rfl) rfl)) (Ch.s (.row 57000) (.slice 57000 _ 121 _ rfl sty73 (xs := [.tmp 56]) rfl rfl (.cons (.agg (.cons (.d _) (.cons (.d _) (.cons (.row rfl) .nil))) rfl) .nil) rfl rfl (by decide)) ?_))))
    refine Ch.step (v := (.row 58000)) rfl (.append 58000 _ _ _ 121 rfl sty73 (by decide) (.rowK rfl) (.inr ⟨_, rfl, rfl⟩) (.rowK rfl) rfl a56) rfl rfl ?_
    refine Ch.s (.row 58000) pa (Ch.nil (T_region hc (Ch.s (.d (.int .i64 ((k : Int) + 1))) (iX rfl rfl intV_addA) (Ch.s (.d (.int .i64 ((k : Int) + 1))) pm (Ch.nil ?_)))))
    exact nx (k + 1) ⟨by omega, upto_succ hp0.2 (okE_yes fun j hj => hp1.2 j (by omega))⟩ (Wk.ren [(4, 58000)] rfl rfl rfl rfl (ai rfl (ai rfl (ai rfl (ai rfl (ai (vI a114) trivial))))) (ai (oR a38) (ai rfl (ai rfl trivial))))
  ·
   try have hek := hes _ (getD_mem (l := (edgesF (outsL x.sigs))) (j := k) (d := default) (by omega))
   try have hexl := exR_le x ((edgesF (outsL x.sigs)).getD k default).sig ((edgesF (outsL x.sigs)).getD k default).up
   refine T_exit (T_seq (T_region hc (Ch.s (.row 4) pm (Ch.s (.row 4) pa (Ch.s (.d (.bool true)) pa (Ch.nil (T_ret ?_)))))))
   exact endR [(.row 4), (.d (.bool true))] [] [4] (.cons (.tmp 2 rfl) (.cons (.tmp 3 rfl) .nil)) (.cons (.any _) .nil) (.tup (.cons (Exp.of (congrArg (D.slice true 3) a3) (.row rfl)) (.cons (Exp.of (congrArg D.bool a3) (.d _)) .nil))) rfl rfl

set_option maxHeartbeats 2000000 in
theorem sp_spec_MonotonousCovers (x : Sgr) (hb : x.bulk ≤ 1048576) : Sp Tryz.prog 62 [(.agg [(.slice false 2 (x.sigs.map Sgn.d)), (.slice false 1 (x.codes.map D.str)), (.slice false 4 (x.arcs.map Arc.d))])] [.any] (.tup [(.slice true 3 ((mcV x).map Rcv.u)), (.bool (mcB x))]) := by
 refine Sp_intro (lend := true) Tryz.func62 rfl rfl rfl (fun _ => rfl) (fun c hc hX => ?_)
 obtain ⟨hp0, hp1, hp2⟩ := Sgr.parts hb
 have hn0 := bulkF_len hp0
 have hn1 := bulk_len hp1
 have hx1 := bulk_mem hp1
 have hn2 := bulkF_len hp2; have hol := outs_len x.sigs; have hel := edges_len (outsL x.sigs)
 refine T_seq (T_region hc (Ch.s (.ptr 1000 0) (.box 1000 _ _ rfl (.aggD _)) (Ch.s (.c (.slice none 0 0)) pa (Ch.s (.d (.bool false)) pa (Ch.nil (T_seq (T_seq ?_)))))))
 refine T_region hc (Ch.s (.agg (vX x)) (.pure (.loadPtrA _ _ rfl ag35 sz35 rfl rfl (lb rfl) rfl)) (Ch.s (.d (.bool (sgB x))) (.call 15000 93 _ _ _ en93 rfl (.inl rfl) (.cons lX .nil) rfl rfl (sp_spec_l5Good x a39) (.skip _ _ .nil) rfl) (Ch.s (.d (.bool (!(sgB x)))) (.pure (.not _ _ rfl rfl)) (Ch.s (.d (.bool (!(sgB x)))) pm ?_))))
 cases h1 : (sgB x) with
 | true =>
  try have hmd : madeB x = true := by first | assumption | (rw [madeB, h1, Bool.true_and]; exact decide_eq_true h2)
  try have hx := sg_has a119
  try have hxl := hx.len
  try have hx8 := hx.eight
  refine Ch.s (.agg (vX x)) (.pure (.loadPtrA _ _ rfl ag35 sz35 rfl rfl (lb rfl) rfl)) (Ch.s (.d (.str (whyW x))) (.call 19000 94 _ _ _ en94 rfl (.inl rfl) (.cons lX .nil) rfl rfl (sp_spec_l6Why x a39 (by assumption)) (.skip _ _ .nil) rfl) (Ch.s (.d (.bool (!(decide ((whyW x) = [109, 97, 100, 101]))))) (.pure (.str _ _ _ _ _ rfl rfl rfl rfl)) (Ch.s (.d (.bool (!(decide ((whyW x) = [109, 97, 100, 101]))))) (.pure (.pickF _ _ _ rfl rfl rfl)) (Ch.nil ?_))))
  refine T_condN (b := (decide ((whyW x) = [109, 97, 100, 101]))) rfl (fun h2 => ?_) (fun h2 => ?_)
  ·
   replace h2 := of_decide_eq_false h2
   try have hmd : madeB x = true := by first | assumption | (rw [madeB, h1, Bool.true_and]; exact decide_eq_true h2)
   try have hx := sg_has a119
   try have hxl := hx.len
   try have hx8 := hx.eight
   refine T_seq (T_region hc (Ch.s (.c (.slice none 0 0)) pa (Ch.s (.d (.bool false)) pa (Ch.nil (T_ret ?_)))))
   exact endR [(.c (.slice none 0 0)), (.d (.bool false))] [] [] (.cons (.tmp 2 rfl) (.cons (.tmp 3 rfl) .nil)) (.cons (.any _) .nil) (.tup (.cons (Exp.of (congrArg (D.slice true 3) a1) (.nil true 3)) (.cons (Exp.of (congrArg D.bool a1) (.d _)) .nil))) rfl rfl
  ·
   replace h2 := of_decide_eq_true h2
   try have hmd : madeB x = true := by first | assumption | (rw [madeB, h1, Bool.true_and]; exact decide_eq_true h2)
   try have hx := sg_has a119
   try have hxl := hx.len
   try have hx8 := hx.eight
   refine T_skip (T_seq (T_region hc (Ch.s (.c (.slice none 0 0)) pa (Ch.nil (T_seq (T_seq (T_region hc ?_)))))))
   refine Ch.s (.agg (vX x)) (.pure (.loadPtrA _ _ rfl ag35 sz35 rfl rfl (lb rfl) rfl)) ?_
   refine Ch.step (v := (.row 23000)) rfl (.call 23000 131 _ _ _ en131 rfl (.inl rfl) (.cons lX .nil) rfl (sol (solid_row (fun _ => rfl) _) rfl) (sp_spec_l6Owned x a39) (.skip _ _ .nil) rfl) rfl rfl ?_
   refine Ch.s (.d (.int .i64 ((outsL x.sigs).length : Int))) (.pure (.len _ _ 3 rfl Tryz.underlying55 (.row rfl) (by simp))) (Ch.s (.d (.int .i64 0)) pm (Ch.nil (T_block ?_)))
   refine T_loop (ι := Nat) (fun k => { n := 73, sl := [(1, (.ptr 1000 0)), (4, (.row 4)), (23, (.row 23000)), (24, (.d (.int .i64 ((outsL x.sigs).length : Int)))), (25, (.d (.int .i64 (k : Int))))], hp := [(4, (some (.row 3 ((mcK x (2 * k)).map Rcv.u)))), (1000, (some (.box (vX x)))), (23000, (some (.row 1 ((outsL x.sigs).map (fun n : Int => D.int .i64 n)))))], pin := [] }) (fun k => k ≤ (outsL x.sigs).length ∧ ∀ j, j < 2 * (k) → okE x ((edgesF (outsL x.sigs)).getD j default) = true) (fun k => (outsL x.sigs).length - k) ⟨0, ⟨by omega, fun j hj => by omega⟩, (Wk.trans (Wk.nilrow 4 900004 3 rfl rfl rfl) (Wk.ren [(4, 900004)] rfl rfl rfl rfl (ai rfl (ai rfl (ai rfl (ai rfl (ai (vI a114) trivial))))) (ai (oR a107) (ai rfl (ai rfl trivial)))))⟩ (fun k hp0 => ?_)
   have hml := mc_le x (2 * k)
   refine T_seq (T_region hc (Ch.s (.d (.bool (decide ((k : Int) < ((outsL x.sigs).length : Int))))) (iX rfl rfl rfl) (Ch.nil (T_seq ?_))))
   refine T_condD (p := ((k : Int) < ((outsL x.sigs).length : Int))) rfl (fun h3 => ?_) (fun h3 => ?_)
   ·
    try have hos := outs_in _ (getD_mem (l := (outsL x.sigs)) (j := k) (d := default) (by omega))
    refine T_skip (T_seq (T_block (T_seq (T_region hc (Ch.s (.el 23000 1 k 0) (.pure (.idxRow _ _ _ 3 (k) rfl Tryz.underlying55 sz3 rfl rfl rfl rfl a86)) (Ch.s (.d (.int .i64 ((outsL x.sigs).getD k default))) (.pure (.loadEl1 _ _ rfl ag3 rfl rfl get_mapA rfl rfl rfl)) (Ch.s (.d (.int .i64 ((outsL x.sigs).getD k default))) pa ?_)))))))
    refine Ch.nil (T_seq (T_region hc (Ch.s (.row 29000) (.slice 29000 _ 4 _ rfl sty146 (xs := [.const (.bool true), .const (.bool false)]) rfl rfl (.cons (.d _) (.cons (.d _) .nil)) rfl rfl (by decide)) (Ch.s (.d (.int .i64 ((2 : Nat) : Int))) (.pure (.len _ _ 4 rfl Tryz.underlying146 (.row rfl) rfl)) (Ch.s (.d (.int .i64 0)) pm (Ch.nil (T_block ?_)))))))
    refine T_loop (ι := Nat) (fun m => { n := 73, sl := [(1, (.ptr 1000 0)), (4, (.row 4)), (6, (.d (.int .i64 ((outsL x.sigs).getD k default)))), (23, (.row 23000)), (24, (.d (.int .i64 ((outsL x.sigs).length : Int)))), (25, (.d (.int .i64 (k : Int)))), (29, (.row 29000)), (30, (.d (.int .i64 ((2 : Nat) : Int)))), (31, (.d (.int .i64 (m : Int))))], hp := [(4, (some (.row 3 ((mcK x (2 * k + m)).map Rcv.u)))), (1000, (some (.box (vX x)))), (23000, (some (.row 1 ((outsL x.sigs).map (fun n : Int => D.int .i64 n))))), (29000, (some (.row 1 [(.bool true), (.bool false)])))], pin := [] }) (fun m => m ≤ 2 ∧ ∀ j, j < 2 * k + m → okE x ((edgesF (outsL x.sigs)).getD j default) = true) (fun m => 2 - m) ⟨0, ⟨by omega, fun j hj => hp0.2 j (by omega)⟩, (Wk.of rfl rfl (ai rfl (ai rfl (ai rfl (ai rfl (ai rfl (ai rfl (ai rfl (ai rfl (ai (vI a114) trivial))))))))) (ai (oR a45) (ai rfl (ai rfl (ai rfl trivial)))))⟩ (fun m hp1 => ?_)
    have hml := mc_le x (2 * k + m)
    refine T_seq (T_region hc (Ch.s (.d (.bool (decide ((m : Int) < ((2 : Nat) : Int))))) (iX rfl rfl rfl) (Ch.nil (T_seq ?_))))
    refine T_condD (p := ((m : Int) < ((2 : Nat) : Int))) rfl (fun h4 => ?_) (fun h4 => ?_)
    ·
     try have hos := outs_in _ (getD_mem (l := (outsL x.sigs)) (j := k) (d := default) (by omega))
     try have hed := ed_at (x := x) (k := k) (m := m) (by omega) (by omega)
     try have hexl := exR_le x ((outsL x.sigs).getD k default) ([true, false].getD m default)
     refine T_skip (T_seq (T_block (T_seq (T_region hc (Ch.s (.el 29000 1 m 0) (.pure (.idxRow _ _ _ 4 (m) rfl Tryz.underlying146 sz4 rfl rfl rfl rfl a86)) (Ch.s (.d (.bool ((([true, false]).getD m default)))) (.pure (.loadEl1 _ _ rfl ag4 rfl rfl (get_map (f := D.bool) (l := [true, false]) a43) rfl rfl rfl)) (Ch.s (.d (.bool ((([true, false]).getD m default)))) pa ?_)))))))
     refine Ch.nil (T_seq (T_region hc (Ch.s (.d (.int .i64 ((outsL x.sigs).getD k default))) pm (Ch.s (.d (.bool ((([true, false]).getD m default)))) pm (Ch.s (.agg [(.d (.int .i64 ((outsL x.sigs).getD k default))), (.d (.bool ((([true, false]).getD m default)))), (.c (.slice none 0 0))]) (.build _ _ rfl stru121 (.cons (.one _ rfl) (.cons (.one _ rfl) .nil)) rfl) (Ch.s (.ptr 9000 0) (.alloc 9000 _ rfl zer121) (Ch.s .junk (.storePtr _ _ _ rfl rfl rfl (.agg _ rfl) sz121 (lb rfl)) ?_)))))))
     refine Ch.nil (T_seq (T_seq (T_region hc (Ch.s (.agg (vX x)) (.pure (.loadPtrA _ _ rfl ag35 sz35 rfl rfl (lb rfl) rfl)) (Ch.s (.d (.int .i64 ((outsL x.sigs).getD k default))) pm (Ch.s (.d (.bool ((([true, false]).getD m default)))) pm (Ch.s (.d (.slice false 1 ((exR x ((outsL x.sigs).getD k default) ((([true, false]).getD m default))).map intsD))) (.callFz 41000 86 _ _ _ en86 rfl (.inl rfl) (.cons lX (.cons (.d _) (.cons (.d _) .nil))) (solid_row intsU_sol _) (sp_spec_l17Regions x ((outsL x.sigs).getD k default) ((([true, false]).getD m default)) a39 (by assumption) a123) (slice_froz (frozs_to intsU_fz _)) rfl) ?_)))))))
     refine Ch.s (.d (.int .i64 (((exR x ((outsL x.sigs).getD k default) ((([true, false]).getD m default))).length : Nat) : Int))) (.pure (.len _ _ 55 rfl Tryz.underlying49 (.sh _ _) (by simp))) (Ch.s (.d (.int .i64 0)) pm (Ch.nil (T_block ?_)))
     refine T_loop (ι := Nat) (fun v => { n := 73, sl := [(1, (.ptr 1000 0)), (4, (.row 4)), (6, (.d (.int .i64 ((outsL x.sigs).getD k default)))), (9, (.ptr 9000 0)), (23, (.row 23000)), (24, (.d (.int .i64 ((outsL x.sigs).length : Int)))), (25, (.d (.int .i64 (k : Int)))), (29, (.row 29000)), (30, (.d (.int .i64 ((2 : Nat) : Int)))), (31, (.d (.int .i64 (m : Int)))), (41, (.d (.slice false 1 ((exR x ((outsL x.sigs).getD k default) ((([true, false]).getD m default))).map intsD)))), (42, (.d (.int .i64 (((exR x ((outsL x.sigs).getD k default) ((([true, false]).getD m default))).length : Nat) : Int)))), (43, (.d (.int .i64 (v : Int))))], hp := [(4, (some (.row 3 ((mcK x (2 * k + m)).map Rcv.u)))), (1000, (some (.box (vX x)))), (7700, (some (.row 1 ((cbK x ((outsL x.sigs).getD k default) ([true, false].getD m default) v).map D.str)))), (9000, (some (.box [(.d (.int .i64 ((outsL x.sigs).getD k default))), (.d (.bool (([true, false].getD m default)))), (.row 7700)]))), (23000, (some (.row 1 ((outsL x.sigs).map (fun n : Int => D.int .i64 n))))), (29000, (some (.row 1 [(.bool true), (.bool false)])))], pin := [] }) (fun v => v ≤ (exR x ((outsL x.sigs).getD k default) ([true, false].getD m default)).length ∧ ∀ j, j < v → (bestF x ((outsL x.sigs).getD k default) ((exR x ((outsL x.sigs).getD k default) ([true, false].getD m default)).getD j default)).2 = true) (fun v => (exR x ((outsL x.sigs).getD k default) ([true, false].getD m default)).length - v) ⟨0, ⟨by omega, fun j hj => by omega⟩, (Wk.trans (Wk.nilcell 9000 2 1000002 1 rfl rfl rfl) (Wk.ren [(7700, 1000002)] rfl rfl rfl rfl (ai rfl (ai rfl (ai rfl (ai rfl (ai rfl (ai rfl (ai rfl (ai rfl (ai rfl (ai rfl (ai rfl (ai rfl (ai (vI a114) trivial))))))))))))) (ai rfl (ai rfl (ai (oR a110) (ai (oB (Eq.trans (b := [(.d (.int .i64 ((outsL x.sigs).getD k default))), (.d (.bool ((([true, false]).getD m default)))), (.row 1000002)]) rfl (by rfl))) (ai rfl (ai rfl trivial))))))))⟩ (fun v hp2 => ?_)
     have hcl := cb_le x ((outsL x.sigs).getD k default) ([true, false].getD m default) v
     refine T_seq (T_region hc (Ch.s (.d (.bool (decide ((v : Int) < (((exR x ((outsL x.sigs).getD k default) ((([true, false]).getD m default))).length : Nat) : Int))))) (iX rfl rfl rfl) (Ch.nil (T_seq ?_))))
     refine T_condD (p := ((v : Int) < (((exR x ((outsL x.sigs).getD k default) ((([true, false]).getD m default))).length : Nat) : Int))) rfl (fun h5 => ?_) (fun h5 => ?_)
     ·
      try have hos := outs_in _ (getD_mem (l := (outsL x.sigs)) (j := k) (d := default) (by omega))
      try have hed := ed_at (x := x) (k := k) (m := m) (by omega) (by omega)
      try have hexl := exR_le x ((outsL x.sigs).getD k default) ([true, false].getD m default)
      try have hrg := getD_mem (l := (exR x ((outsL x.sigs).getD k default) ([true, false].getD m default))) (j := v) (d := default) (by omega)
      try have hrg2 := exR_in _ hrg
      try have hrq := hrg2.2.2
      try have hrql : ((exR x ((outsL x.sigs).getD k default) ([true, false].getD m default)).getD v default).length ≤ 1048576 := by omega
      try have hqle : (quietL x ((outsL x.sigs).getD k default) ((exR x ((outsL x.sigs).getD k default) ([true, false].getD m default)).getD v default)).length ≤ 1048576 := Nat.le_trans (quietL_le x ((outsL x.sigs).getD k default) _) hn1
      refine T_skip (T_seq (T_block (T_seq (T_region hc (Ch.s (.d (.ref (.slice false 1 (((exR x ((outsL x.sigs).getD k default) ((([true, false]).getD m default))).getD v default).map (fun n : Int => D.int .i64 n))))) (.pure (.idx _ _ _ 55 (v) rfl Tryz.underlying49 sz55 rfl rfl rfl get_mapA)) (Ch.s (.d (.slice false 1 (((exR x ((outsL x.sigs).getD k default) ((([true, false]).getD m default))).getD v default).map (fun n : Int => D.int .i64 n)))) (.pure (.loadRef1 _ _ rfl ag55 rfl rfl)) (Ch.s (.d (.slice false 1 (((exR x ((outsL x.sigs).getD k default) ((([true, false]).getD m default))).getD v default).map (fun n : Int => D.int .i64 n)))) pa ?_)))))))
      refine Ch.nil (T_seq ?_)
      refine T_regionD hc (by kernel_rfl) ?_
      refine ChD.s (.agg (vX x)) [1000] (.pure (.loadPtrA _ _ rfl ag35 sz35 rfl rfl (lb rfl) rfl)) (ChD.s (.d (.slice false 1 (((exR x ((outsL x.sigs).getD k default) ((([true, false]).getD m default))).getD v default).map (fun n : Int => D.int .i64 n)))) [] pm (ChD.s (.agg (vX x)) [1000] (.pure (.loadPtrA _ _ rfl ag35 sz35 rfl rfl (lb rfl) rfl)) (ChD.s (.d (.int .i64 ((outsL x.sigs).getD k default))) [] pm (ChD.s (.d (.slice false 1 (((exR x ((outsL x.sigs).getD k default) ((([true, false]).getD m default))).getD v default).map (fun n : Int => D.int .i64 n)))) [] pm (ChD.s (.row 53000) [] (.call 53000 90 _ _ _ en90 rfl (.inl rfl) (.cons lX (.cons (.d _) (.cons (.d _) .nil))) rfl (sol (solid_row (fun _ => rfl) _) rfl) (sp_spec_l17Quiet x ((outsL x.sigs).getD k default) ((exR x ((outsL x.sigs).getD k default) ((([true, false]).getD m default))).getD v default) a39 (by assumption) a39) (.skip _ _ (.skip _ _ (.skip _ _ .nil))) rfl) (ChD.s (.tup [(.d (.str ((bcTo x ((exR x ((outsL x.sigs).getD k default) ((([true, false]).getD m default))).getD v default) (quietL x ((outsL x.sigs).getD k default) ((exR x ((outsL x.sigs).getD k default) ((([true, false]).getD m default))).getD v default)) (cubes x.sigs.length).length).1))), (.d (.bool ((bcTo x ((exR x ((outsL x.sigs).getD k default) ((([true, false]).getD m default))).getD v default) (quietL x ((outsL x.sigs).getD k default) ((exR x ((outsL x.sigs).getD k default) ((([true, false]).getD m default))).getD v default)) (cubes x.sigs.length).length).2)))]) [53000] (.call 54000 129 _ _ _ en129 rfl (.inl rfl) (.cons lX (.cons (.d _) (.cons (.lend (.row rfl (frozs_map (fun _ => rfl) _))) .nil))) rfl rfl (sp_spec_l17Find x ((exR x ((outsL x.sigs).getD k default) ((([true, false]).getD m default))).getD v default) (quietL x ((outsL x.sigs).getD k default) ((exR x ((outsL x.sigs).getD k default) ((([true, false]).getD m default))).getD v default)) a39 (by assumption) a64 a39 a39) (.skip _ _ (.skip _ _ (.skip _ _ .nil))) rfl) (ChD.s (.tup [(.d (.str ((bcTo x ((exR x ((outsL x.sigs).getD k default) ((([true, false]).getD m default))).getD v default) (quietL x ((outsL x.sigs).getD k default) ((exR x ((outsL x.sigs).getD k default) ((([true, false]).getD m default))).getD v default)) (cubes x.sigs.length).length).1))), (.d (.bool ((bcTo x ((exR x ((outsL x.sigs).getD k default) ((([true, false]).getD m default))).getD v default) (quietL x ((outsL x.sigs).getD k default) ((exR x ((outsL x.sigs).getD k default) ((([true, false]).getD m default))).getD v default)) (cubes x.sigs.length).length).2)))]) [] pm ?_)))))))
      refine ChD.s (.d (.str ((bcTo x ((exR x ((outsL x.sigs).getD k default) ((([true, false]).getD m default))).getD v default) (quietL x ((outsL x.sigs).getD k default) ((exR x ((outsL x.sigs).getD k default) ((([true, false]).getD m default))).getD v default)) (cubes x.sigs.length).length).1))) [] (.pure (.extract _ rfl rfl rfl)) (ChD.s (.d (.bool ((bcTo x ((exR x ((outsL x.sigs).getD k default) ((([true, false]).getD m default))).getD v default) (quietL x ((outsL x.sigs).getD k default) ((exR x ((outsL x.sigs).getD k default) ((([true, false]).getD m default))).getD v default)) (cubes x.sigs.length).length).2))) [] (.pure (.extract _ rfl rfl rfl)) (ChD.s (.d (.str ((bcTo x ((exR x ((outsL x.sigs).getD k default) ((([true, false]).getD m default))).getD v default) (quietL x ((outsL x.sigs).getD k default) ((exR x ((outsL x.sigs).getD k default) ((([true, false]).getD m default))).getD v default)) (cubes x.sigs.length).length).1))) [] pa (ChD.s (.d (.bool ((bcTo x ((exR x ((outsL x.sigs).getD k default) ((([true, false]).getD m default))).getD v default) (quietL x ((outsL x.sigs).getD k default) ((exR x ((outsL x.sigs).getD k default) ((([true, false]).getD m default))).getD v default)) (cubes x.sigs.length).length).2))) [] pa ?_)))
      refine ChD.nil (And.intro ?_ (by kernel_rfl))
      refine T_seq (T_seq (T_region hc (Ch.s (.d (.bool ((bcTo x ((exR x ((outsL x.sigs).getD k default) ((([true, false]).getD m default))).getD v default) (quietL x ((outsL x.sigs).getD k default) ((exR x ((outsL x.sigs).getD k default) ((([true, false]).getD m default))).getD v default)) (cubes x.sigs.length).length).2))) pm (Ch.s (.d (.bool (!((bcTo x ((exR x ((outsL x.sigs).getD k default) ((([true, false]).getD m default))).getD v default) (quietL x ((outsL x.sigs).getD k default) ((exR x ((outsL x.sigs).getD k default) ((([true, false]).getD m default))).getD v default)) (cubes x.sigs.length).length).2)))) (.pure (.not _ _ rfl rfl)) (Ch.nil ?_)))))
      refine T_condN (b := ((bcTo x ((exR x ((outsL x.sigs).getD k default) ((([true, false]).getD m default))).getD v default) (quietL x ((outsL x.sigs).getD k default) ((exR x ((outsL x.sigs).getD k default) ((([true, false]).getD m default))).getD v default)) (cubes x.sigs.length).length).2)) rfl (fun h6 => ?_) (fun h6 => ?_)
      ·
       refine T_seq (T_region hc (Ch.s (.c (.slice none 0 0)) pa (Ch.s (.d (.bool false)) pa (Ch.nil (T_ret ?_)))))
       exact endR [(.c (.slice none 0 0)), (.d (.bool false))] [] [] (.cons (.tmp 2 rfl) (.cons (.tmp 3 rfl) .nil)) (.cons (.any _) .nil) (.tup (.cons (Exp.of (congrArg (D.slice true 3) a1) (.nil true 3)) (.cons (Exp.of (congrArg D.bool a1) (.d _)) .nil))) rfl rfl
      ·
       refine T_skip (T_region hc (Ch.s (.ptr 9000 2) (.pure (.fldPtr _ _ _ rfl fld121_2 rfl)) (Ch.s (.row 7700) (.pure (.loadPtr1 _ _ rfl ag23 rfl rfl rfl)) (Ch.s (.d (.str ((bcTo x ((exR x ((outsL x.sigs).getD k default) ((([true, false]).getD m default))).getD v default) (quietL x ((outsL x.sigs).getD k default) ((exR x ((outsL x.sigs).getD k default) ((([true, false]).getD m default))).getD v default)) (cubes x.sigs.length).length).1))) pm (Ch.s (.row 62000) (.slice 62000 _ 9 _ rfl sty23 (xs := [.tmp 61]) rfl rfl (.cons (.d _) .nil) rfl rfl (by decide)) ?_)))))
       refine Ch.step (v := (.row 63000)) rfl (.append 63000 _ _ _ 9 rfl sty23 (by decide) (.rowK rfl) (.inr ⟨_, rfl, rfl⟩) (.row rfl rfl) rfl a56) rfl rfl ?_
       refine Ch.s (.ptr 9000 2) (.pure (.fldPtr _ _ _ rfl fld121_2 rfl)) (Ch.s .junk (.storePtr _ _ _ rfl rfl rfl (.one _ rfl) sz23 (lb rfl)) (Ch.nil (T_region hc (Ch.s (.d (.int .i64 ((v : Int) + 1))) (iX rfl rfl intV_addA) (Ch.s (.d (.int .i64 ((v : Int) + 1))) pm (Ch.nil ?_))))))
       exact nx (v + 1) ⟨by omega, upto_succ hp2.2 (by first | assumption | (unfold bestF; assumption))⟩ (Wk.ren [(7700, 63000)] rfl rfl rfl rfl (ai rfl (ai rfl (ai rfl (ai rfl (ai rfl (ai rfl (ai rfl (ai rfl (ai rfl (ai rfl (ai rfl (ai rfl (ai (vI a114) trivial))))))))))))) (ai rfl (ai rfl (ai (oR a110) (ai (oB (Eq.trans (b := [(.d (.int .i64 ((outsL x.sigs).getD k default))), (.d (.bool (([true, false].getD m default)))), (.row 63000)]) rfl (by rfl))) (ai rfl (ai rfl trivial)))))))
     ·
      try have hos := outs_in _ (getD_mem (l := (outsL x.sigs)) (j := k) (d := default) (by omega))
      try have hed := ed_at (x := x) (k := k) (m := m) (by omega) (by omega)
      try have hexl := exR_le x ((outsL x.sigs).getD k default) ([true, false].getD m default)
      try have hrg := getD_mem (l := (exR x ((outsL x.sigs).getD k default) ([true, false].getD m default))) (j := v) (d := default) (by omega)
      try have hrg2 := exR_in _ hrg
      try have hrq := hrg2.2.2
      try have hrql : ((exR x ((outsL x.sigs).getD k default) ([true, false].getD m default)).getD v default).length ≤ 1048576 := by omega
      try have hqle : (quietL x ((outsL x.sigs).getD k default) ((exR x ((outsL x.sigs).getD k default) ([true, false].getD m default)).getD v default)).length ≤ 1048576 := Nat.le_trans (quietL_le x ((outsL x.sigs).getD k default) _) hn1
      refine T_exit (T_region hc (Ch.s (.row 4) pm (Ch.s (.agg [(.d (.int .i64 ((outsL x.sigs).getD k default))), (.d (.bool (([true, false].getD m default)))), (.row 7700)]) (.pure (.loadPtrA _ _ rfl ag121 sz121 rfl rfl (lb rfl) rfl)) (Ch.s (.row 68000) (.slice 68000 _ 121 _ rfl sty73 (xs := [.tmp 67]) rfl rfl (.cons (.agg (.cons (.d _) (.cons (.d _) (.cons (.row rfl) .nil))) rfl) .nil) rfl rfl (by decide)) ?_))))
      refine Ch.step (v := (.row 69000)) rfl (.append 69000 _ _ _ 121 rfl sty73 (by decide) (.rowK rfl) (.inr ⟨_, rfl, rfl⟩) (.rowK rfl) rfl a56) rfl rfl ?_
      refine Ch.s (.row 69000) pa (Ch.nil (T_region hc (Ch.s (.d (.int .i64 ((m : Int) + 1))) (iX rfl rfl intV_addA) (Ch.s (.d (.int .i64 ((m : Int) + 1))) pm (Ch.nil ?_)))))
      exact nx (m + 1) ⟨by omega, upto_succ hp1.2 (by show okE x ((edgesF (outsL x.sigs)).getD (2 * k + m) default) = true; rw [hed.2]; exact okE_yes2 fun j hj => hp2.2 j (by omega))⟩ (Wk.ren [(4, 69000)] rfl rfl rfl rfl (ai rfl (ai rfl (ai rfl (ai rfl (ai rfl (ai rfl (ai rfl (ai rfl (ai (vI a114) trivial))))))))) (ai (oR a45) (ai rfl (ai rfl (ai rfl trivial)))))
    ·
     try have hos := outs_in _ (getD_mem (l := (outsL x.sigs)) (j := k) (d := default) (by omega))
     try have hed := ed_at (x := x) (k := k) (m := m) (by omega) (by omega)
     try have hexl := exR_le x ((outsL x.sigs).getD k default) ([true, false].getD m default)
     refine T_exit (T_region hc (Ch.s (.d (.int .i64 ((k : Int) + 1))) (iX rfl rfl intV_addA) (Ch.s (.d (.int .i64 ((k : Int) + 1))) pm (Ch.nil ?_))))
     exact nx (k + 1) ⟨by omega, fun j hj => hp1.2 j (by omega)⟩ (Wk.of rfl rfl (ai rfl (ai rfl (ai rfl (ai rfl (ai (vI a114) trivial))))) (ai (oR a107) (ai rfl (ai rfl trivial))))
   ·
    try have hos := outs_in _ (getD_mem (l := (outsL x.sigs)) (j := k) (d := default) (by omega))
    refine T_exit (T_seq (T_region hc (Ch.s (.row 4) pm (Ch.s (.row 4) pa (Ch.s (.d (.bool true)) pa (Ch.nil (T_ret ?_)))))))
    exact endR [(.row 4), (.d (.bool true))] [] [4] (.cons (.tmp 2 rfl) (.cons (.tmp 3 rfl) .nil)) (.cons (.any _) .nil) (.tup (.cons (Exp.of (congrArg (D.slice true 3) a1) (.row rfl)) (.cons (Exp.of (congrArg D.bool a1) (.d _)) .nil))) rfl rfl
 | false =>
  try have hmd : madeB x = true := by first | assumption | (rw [madeB, h1, Bool.true_and]; exact decide_eq_true h2)
  try have hx := sg_has a119
  try have hxl := hx.len
  try have hx8 := hx.eight
  refine Ch.skip rfl rfl (Ch.skip rfl rfl (Ch.skip rfl rfl (Ch.s (.d (.bool true)) (.pure (.pickT _ _ _ rfl rfl rfl)) (Ch.nil ?_))))
  refine T_cond (b := true) rfl (fun _ => ?_) (fun h => nomatch h)
  refine T_seq (T_region hc (Ch.s (.c (.slice none 0 0)) pa (Ch.s (.d (.bool false)) pa (Ch.nil (T_ret ?_)))))
  exact endR [(.c (.slice none 0 0)), (.d (.bool false))] [] [] (.cons (.tmp 2 rfl) (.cons (.tmp 3 rfl) .nil)) (.cons (.any _) .nil) (.tup (.cons (Exp.of (congrArg (D.slice true 3) a1) (.nil true 3)) (.cons (Exp.of (congrArg D.bool a1) (.d _)) .nil))) rfl rfl

theorem sp_laws_markRegionCoversS (xs : List Rcv) (k : Nat) (hn : xs.length ≤ 16) (hs : ∀ r ∈ xs, r.cubes.length ≤ 300) (hk : k ≤ 1) : Sp Tryz.prog 64 [(.slice true 3 (xs.map Rcv.u)), (.int .i64 (k : Int))] [(.slice true 3 ((rmk k xs).map Rcv.u)), .any] (.int .i64 ((k + rml xs xs.length : Nat) : Int)) := by
 refine Sp_intro (lend := false) Tryz.func64 rfl rfl rfl (fun h => nomatch h) (fun c hc hX => ?_)
 have hrb := rml_bd hs
 refine T_seq (T_region hc (Ch.s (.d (.int .i64 0)) pa (Ch.nil (T_seq (T_seq (T_region hc (Ch.s (.d (.int .i64 0)) pa ?_)))))))
 refine Ch.nil (T_block ?_)
 refine T_loop (ι := Nat) (fun m => { n := 36, sl := [(0, (.row 1)), (1, (.d (.int .i64 ((k + rml xs m : Nat) : Int)))), (5, (.d (.int .i64 (m : Int))))], hp := [(1, (some (.row 3 ((rmTo xs k m).map Rcv.u))))], pin := [1] }) (fun m => m ≤ xs.length) (fun m => xs.length - m) ⟨0, (by omega), (Wk.of rfl rfl (ai rfl (ai (vI a80) (ai (vI a114) trivial))) (ai (oR a92) trivial))⟩ (fun m hp0 => ?_)
 have hml := rmTo_len xs k m; have hrm := hrb m; have hmg := rmTo_at (k := k) hp0
 refine T_seq (T_seq (T_region hc (Ch.s (.d (.int .i64 (m : Int))) pm (Ch.s (.row 1) pm (Ch.s (.d (.int .i64 ((rmTo xs k m).length : Int))) (.pure (.len _ _ 121 rfl Tryz.underlying73 (.row rfl) (by simp))) (Ch.s (.d (.bool (decide ((m : Int) < ((rmTo xs k m).length : Int))))) (iX rfl rfl rfl) (Ch.nil ?_)))))))
 refine T_condD (p := ((m : Int) < ((rmTo xs k m).length : Int))) rfl (fun h1 => ?_) (fun h1 => ?_)
 ·
  try have hsm := hs _ (getD_mem (l := xs) (j := m) (d := default) (by omega))
  try have hls := rml_succ (xs := xs) (m := m) (by omega)
  try have hgl := congrArg (fun r => r.cubes.length) hmg
  try dsimp only at hgl
  refine T_skip (T_seq (T_block (T_seq ?_)))
  refine T_takeF 1 m 2 7000002 7000003 rfl get_mapA rfl rfl rfl (fun u1 => ?_)
  refine T_region hc (Ch.s (.row 1) pm (Ch.s (.d (.int .i64 (m : Int))) pm (Ch.s (.d (.int .i64 ((k + rml xs m : Nat) : Int))) pm (Ch.s (.el 1 3 m 0) (.pure (.idxRow _ _ _ 121 (m) rfl Tryz.underlying73 sz121 rfl rfl rfl rfl a86)) (Ch.s (.el 1 3 m 0) (.pure (.fldEl _ _ _ rfl fld121_0 rfl)) (Ch.s .junk (.storeEl (y' := (.agg [(.int .i64 ((k + rml xs m : Nat) : Int)), (.bool (((rmTo xs k m).getD m default).up)), (.hole u1)])) _ _ _ rfl rfl rfl (.d _) rfl sz3 rfl (get_set a86) rfl rfl) (Ch.nil ?_)))))))
  refine T_seq (T_region hc (Ch.s (.d (.int .i64 ((k + rml xs m : Nat) : Int))) pm (Ch.s (.d (.int .i64 (((k + rml xs m : Nat) : Int) + 1))) (iX rfl rfl intV_addA) (Ch.s (.d (.int .i64 (((k + rml xs m : Nat) : Int) + 1))) pa (Ch.nil (T_seq (T_region hc ?_)))))))
  refine Ch.s (.row 1) pm (Ch.s (.d (.int .i64 (m : Int))) pm (Ch.s (.d (.int .i64 (((k + rml xs m : Nat) : Int) + 1))) pm ?_))
  refine Ch.step (v := (.d (.int .i64 (((k + rml xs m + 1) % 3 : Nat) : Int)))) rfl (iX rfl rfl (remN (n := (k + rml xs m + 1)) (d := 3) (by omega) rfl (by decide))) rfl rfl ?_
  refine Ch.s (.d (.bool (decide ((((k + rml xs m + 1) % 3 : Nat) : Int) = 0)))) (iX rfl rfl rfl) (Ch.s (.el 1 3 m 0) (.pure (.idxRow _ _ _ 121 (m) rfl Tryz.underlying73 sz121 rfl rfl rfl rfl a86)) (Ch.s (.el 1 3 m 1) (.pure (.fldEl _ _ _ rfl fld121_1 rfl)) (Ch.s .junk (.storeEl (y' := (.agg [(.int .i64 ((k + rml xs m : Nat) : Int)), (.bool (decide ((((k + rml xs m + 1) % 3 : Nat) : Int) = 0))), (.hole u1)])) _ _ _ rfl rfl rfl (.d _) rfl sz4 rfl (get_set a86) rfl rfl) (Ch.nil (T_seq (T_region hc (Ch.s (.d (.int .i64 (((k + rml xs m : Nat) : Int) + 1))) pm ?_)))))))
  refine Ch.s (.d (.int .i64 ((((k + rml xs m : Nat) : Int) + 1) + 1))) (iX rfl rfl intV_addA) (Ch.s (.d (.int .i64 ((((k + rml xs m : Nat) : Int) + 1) + 1))) pa (Ch.nil (T_region hc (Ch.s (.row 1) pm (Ch.s (.d (.int .i64 (m : Int))) pm (Ch.s (.el 1 3 m 0) (.pure (.idxRow _ _ _ 121 (m) rfl Tryz.underlying73 sz121 rfl rfl rfl rfl a86)) (Ch.s (.el 1 3 m 2) (.pure (.fldEl _ _ _ rfl fld121_2 rfl)) ?_)))))))
  refine Ch.s (.row 7000002) (.pure (.loadHoleF (n := 7000002) (m := 7000003) (u := u1) _ _ rfl ag23 rfl rfl (get_set a86) rfl rfl rfl rfl rfl)) (Ch.s (.d (.int .i64 ((((k + rml xs m : Nat) : Int) + 1) + 1))) pm ?_)
  refine Ch.step (v := (.d (.int .i64 ((((k + rml xs m + 1) + 1) + (((rmTo xs k m).getD m default).cubes).length : Nat) : Int)))) rfl (.call 34000 30 _ _ _ en30 rfl (.inl rfl) (.cons (.row rfl) (.cons (.d _) .nil)) rfl (sol rfl (solids_c (solid_row (fun _ => rfl) _) rfl)) (sp_laws_markStringS (((rmTo xs k m).getD m default).cubes) ((k + rml xs m + 1) + 1) a23 a23) (.row _ _ _ (.skip _ _ .nil)) rfl) rfl rfl ?_
  refine Ch.s (.d (.int .i64 ((((k + rml xs m + 1) + 1) + (((rmTo xs k m).getD m default).cubes).length : Nat) : Int))) pa (Ch.nil (T_region hc (Ch.s (.d (.int .i64 (m : Int))) pm (Ch.s (.d (.int .i64 ((m : Int) + 1))) (iX rfl rfl intV_addA) (Ch.s (.d (.int .i64 ((m : Int) + 1))) pa (Ch.nil ?_))))))
  exact nx (m + 1) (by omega) (Wk.trans (Wk.giveF 1 m 2 7000002 7000003 rfl (get_set a86) rfl rfl rfl rfl rfl) (Wk.of rfl rfl (ai rfl (ai (vI a80) (ai (vI a114) trivial))) (ai (oR a92) trivial)))
 ·
  try have hsm := hs _ (getD_mem (l := xs) (j := m) (d := default) (by omega))
  try have hls := rml_succ (xs := xs) (m := m) (by omega)
  try have hgl := congrArg (fun r => r.cubes.length) hmg
  try dsimp only at hgl
  refine T_exit (T_seq (T_region hc (Ch.s (.d (.int .i64 ((k + rml xs m : Nat) : Int))) pm (Ch.s (.d (.int .i64 ((k + rml xs m : Nat) : Int))) pa (Ch.nil (T_ret ?_))))))
  exact endR [(.d (.int .i64 ((k + rml xs m : Nat) : Int)))] [1] [] (.cons (.tmp 4 rfl) .nil) (.cons (Exp.of (congrArg (D.slice true 3) (by rw [rmk, show xs.length = m by omega])) (.row rfl)) (.cons (.any _) .nil)) (Exp.of (congrArg (D.int .i64) (by rw [rml_all (m := m) (by omega)])) (.d _)) rfl rfl

theorem sp_laws_heldRegionCoversS (xs : List Rcv) (k : Nat) (hn : xs.length ≤ 16) (hs : ∀ r ∈ xs, r.cubes.length ≤ 300) (hk : k ≤ 1) (hq : RHeld xs k) : Sp Tryz.prog 65 [(.slice false 3 (xs.map Rcv.d)), (.int .i64 (k : Int))] [.any, .any] (.int .i64 ((k + rml xs xs.length : Nat) : Int)) := by
 refine Sp_intro (lend := true) Tryz.func65 rfl rfl rfl (fun _ => rfl) (fun c hc hX => ?_)
 have hrb := rml_bd hs
 refine T_seq (T_region hc (Ch.s (.d (.int .i64 0)) pa (Ch.nil (T_seq (T_seq (T_region hc (Ch.s (.d (.int .i64 0)) pa ?_)))))))
 refine Ch.nil (T_block ?_)
 refine T_loop (ι := Nat) (fun m => { n := 42, sl := [(0, (.d (.slice false 3 (xs.map Rcv.d)))), (1, (.d (.int .i64 ((k + rml xs m : Nat) : Int)))), (5, (.d (.int .i64 (m : Int))))], hp := [], pin := [] }) (fun m => m ≤ xs.length) (fun m => xs.length - m) ⟨0, (by omega), (Wk.of rfl rfl (ai rfl (ai (vI (by first | rfl | (rw [rml_succ (by omega)]; omega))) (ai (vI a114) trivial))) trivial)⟩ (fun m hp0 => ?_)
 have hrm := hrb m
 refine T_seq (T_seq (T_region hc (Ch.s (.d (.int .i64 (m : Int))) pm (Ch.s (.d (.slice false 3 (xs.map Rcv.d))) pm (Ch.s (.d (.int .i64 (xs.length : Int))) (.pure (.len _ _ 121 rfl Tryz.underlying73 (.sh _ _) (by simp))) (Ch.s (.d (.bool (decide ((m : Int) < (xs.length : Int))))) (iX rfl rfl rfl) (Ch.nil ?_)))))))
 refine T_condD (p := ((m : Int) < (xs.length : Int))) rfl (fun h1 => ?_) (fun h1 => ?_)
 ·
  try have hsm := hs _ (getD_mem (l := xs) (j := m) (d := default) (by omega))
  try have hls := rml_succ (xs := xs) (m := m) (by omega)
  try have hq1 := (hq m (by omega)).1
  try have hq2 := (hq m (by omega)).2.1
  try have hq3 := (hq m (by omega)).2.2
  refine T_skip (T_seq (T_block (T_seq (T_seq (T_region hc (Ch.s (.d (.slice false 3 (xs.map Rcv.d))) pm (Ch.s (.d (.int .i64 (m : Int))) pm ?_)))))))
  refine Ch.s (.d (.ref (.agg [(.int .i64 ((xs.getD m default).sig)), (.bool ((xs.getD m default).up)), (.slice false 1 (((xs.getD m default).cubes).map D.str))]))) (.pure (.idx _ _ _ 121 (m) rfl Tryz.underlying73 sz121 rfl rfl rfl get_mapA)) (Ch.s (.d (.ref (.int .i64 ((xs.getD m default).sig)))) (.pure (.fldRef _ _ _ rfl fld121_0 rfl rfl rfl)) (Ch.s (.d (.int .i64 ((xs.getD m default).sig))) (.pure (.loadRef1 _ _ rfl ag3 rfl rfl)) (Ch.s (.d (.int .i64 ((k + rml xs m : Nat) : Int))) pm (Ch.s (.d (.bool (!(decide (((xs.getD m default).sig) = ((k + rml xs m : Nat) : Int)))))) (iX rfl rfl rfl) (Ch.nil ?_)))))
  refine T_condN (b := (decide (((xs.getD m default).sig) = ((k + rml xs m : Nat) : Int)))) rfl (fun h2 => ?_) (fun h2 => ?_)
  ·
   replace h2 := of_decide_eq_false h2
   refine T_seq (T_region hc (Ch.s (.d (.int .i64 (-1))) pa (Ch.nil (T_ret ?_))))
   exact endR [(.d (.int .i64 (-1)))] [] [] (.cons (.tmp 4 rfl) .nil) (.cons (.any _) (.cons (.any _) .nil)) (Exp.of (congrArg (D.int .i64) a73) (.d _)) rfl rfl
  ·
   replace h2 := of_decide_eq_true h2
   refine T_skip (T_seq (T_region hc (Ch.s (.d (.int .i64 ((k + rml xs m : Nat) : Int))) pm (Ch.s (.d (.int .i64 (((k + rml xs m : Nat) : Int) + 1))) (iX rfl rfl intV_addA) (Ch.s (.d (.int .i64 (((k + rml xs m : Nat) : Int) + 1))) pa (Ch.nil (T_seq ?_)))))))
   refine T_seq (T_region hc (Ch.s (.d (.slice false 3 (xs.map Rcv.d))) pm (Ch.s (.d (.int .i64 (m : Int))) pm (Ch.s (.d (.ref (.agg [(.int .i64 ((xs.getD m default).sig)), (.bool ((xs.getD m default).up)), (.slice false 1 (((xs.getD m default).cubes).map D.str))]))) (.pure (.idx _ _ _ 121 (m) rfl Tryz.underlying73 sz121 rfl rfl rfl get_mapA)) (Ch.s (.d (.ref (.bool ((xs.getD m default).up)))) (.pure (.fldRef _ _ _ rfl fld121_1 rfl rfl rfl)) (Ch.s (.d (.bool ((xs.getD m default).up))) (.pure (.loadRef1 _ _ rfl ag4 rfl rfl)) (Ch.s (.d (.int .i64 (((k + rml xs m : Nat) : Int) + 1))) pm ?_)))))))
   refine Ch.step (v := (.d (.int .i64 (((k + rml xs m + 1) % 3 : Nat) : Int)))) rfl (iX rfl rfl (remN (n := (k + rml xs m + 1)) (d := 3) (by omega) rfl (by decide))) rfl rfl ?_
   refine Ch.s (.d (.bool (decide ((((k + rml xs m + 1) % 3 : Nat) : Int) = 0)))) (iX rfl rfl rfl) (Ch.s (.d (.bool (!(decide (((xs.getD m default).up) = (decide ((((k + rml xs m + 1) % 3 : Nat) : Int) = 0))))))) (.pure (.neB _ _ _ _ rfl Tryz.underlying4 rfl rfl)) (Ch.nil ?_))
   refine T_condN (b := (decide (((xs.getD m default).up) = (decide ((((k + rml xs m + 1) % 3 : Nat) : Int) = 0))))) rfl (fun h3 => ?_) (fun h3 => ?_)
   ·
    replace h3 := of_decide_eq_false h3
    refine T_seq (T_region hc (Ch.s (.d (.int .i64 (-1))) pa (Ch.nil (T_ret ?_))))
    exact endR [(.d (.int .i64 (-1)))] [] [] (.cons (.tmp 4 rfl) .nil) (.cons (.any _) (.cons (.any _) .nil)) (Exp.of (congrArg (D.int .i64) a73) (.d _)) rfl rfl
   ·
    replace h3 := of_decide_eq_true h3
    refine T_skip (T_seq (T_region hc (Ch.s (.d (.int .i64 (((k + rml xs m : Nat) : Int) + 1))) pm (Ch.s (.d (.int .i64 ((((k + rml xs m : Nat) : Int) + 1) + 1))) (iX rfl rfl intV_addA) (Ch.s (.d (.int .i64 ((((k + rml xs m : Nat) : Int) + 1) + 1))) pa (Ch.nil (T_seq ?_)))))))
    refine T_region hc (Ch.s (.d (.slice false 3 (xs.map Rcv.d))) pm (Ch.s (.d (.int .i64 (m : Int))) pm (Ch.s (.d (.ref (.agg [(.int .i64 ((xs.getD m default).sig)), (.bool ((xs.getD m default).up)), (.slice false 1 (((xs.getD m default).cubes).map D.str))]))) (.pure (.idx _ _ _ 121 (m) rfl Tryz.underlying73 sz121 rfl rfl rfl get_mapA)) (Ch.s (.d (.ref (.slice false 1 (((xs.getD m default).cubes).map D.str)))) (.pure (.fldRef _ _ _ rfl fld121_2 rfl rfl rfl)) (Ch.s (.d (.slice false 1 (((xs.getD m default).cubes).map D.str))) (.pure (.loadRef1 _ _ rfl ag23 rfl rfl)) (Ch.s (.d (.int .i64 ((((k + rml xs m : Nat) : Int) + 1) + 1))) pm (Ch.s (.d (.int .i64 ((((k + rml xs m + 1) + 1) + ((xs.getD m default).cubes).length : Nat) : Int))) (.call 38000 31 _ _ _ en31 rfl (.inl rfl) (.cons (.d _) (.cons (.d _) .nil)) rfl rfl (sp_heldq ((xs.getD m default).cubes) ((k + rml xs m + 1) + 1) a39 a39 (by assumption)) (.skip _ _ (.skip _ _ .nil)) rfl) ?_)))))))
    refine Ch.s (.d (.int .i64 ((((k + rml xs m + 1) + 1) + ((xs.getD m default).cubes).length : Nat) : Int))) pa (Ch.nil (T_seq (T_region hc (Ch.s (.d (.int .i64 ((((k + rml xs m + 1) + 1) + ((xs.getD m default).cubes).length : Nat) : Int))) pm (Ch.s (.d (.bool (decide (((((k + rml xs m + 1) + 1) + ((xs.getD m default).cubes).length : Nat) : Int) < 0)))) (iX rfl rfl rfl) (Ch.nil ?_))))))
    refine T_condD (p := (((((k + rml xs m + 1) + 1) + ((xs.getD m default).cubes).length : Nat) : Int) < 0)) rfl (fun h4 => ?_) (fun h4 => ?_)
    ·
     refine T_seq (T_region hc (Ch.s (.d (.int .i64 (-1))) pa (Ch.nil (T_ret ?_))))
     exact endR [(.d (.int .i64 (-1)))] [] [] (.cons (.tmp 4 rfl) .nil) (.cons (.any _) (.cons (.any _) .nil)) (Exp.of (congrArg (D.int .i64) a73) (.d _)) rfl rfl
    ·
     refine T_skip (T_region hc (Ch.s (.d (.int .i64 (m : Int))) pm (Ch.s (.d (.int .i64 ((m : Int) + 1))) (iX rfl rfl intV_addA) (Ch.s (.d (.int .i64 ((m : Int) + 1))) pa (Ch.nil ?_)))))
     exact nx (m + 1) (by omega) (Wk.of rfl rfl (ai rfl (ai (vI (by first | rfl | (rw [rml_succ (by omega)]; omega))) (ai (vI a114) trivial))) trivial)
 ·
  try have hsm := hs _ (getD_mem (l := xs) (j := m) (d := default) (by omega))
  try have hls := rml_succ (xs := xs) (m := m) (by omega)
  try have hq1 := (hq m (by omega)).1
  try have hq2 := (hq m (by omega)).2.1
  try have hq3 := (hq m (by omega)).2.2
  refine T_exit (T_seq (T_region hc (Ch.s (.d (.int .i64 ((k + rml xs m : Nat) : Int))) pm (Ch.s (.d (.int .i64 ((k + rml xs m : Nat) : Int))) pa (Ch.nil (T_ret ?_))))))
  exact endR [(.d (.int .i64 ((k + rml xs m : Nat) : Int)))] [] [] (.cons (.tmp 4 rfl) .nil) (.cons (.any _) (.cons (.any _) .nil)) (Exp.of (congrArg (D.int .i64) a73) (.d _)) rfl rfl

set_option maxHeartbeats 1000000 in
theorem sp_laws_FnExactMonotonousCovers (x : Sgr) (hwx : x.wide) : Sp Tryz.prog 15 [(.agg [(.slice false 2 (x.sigs.map Sgn.d)), (.slice false 1 (x.codes.map D.str)), (.slice false 4 (x.arcs.map Arc.d))])] [.any] (.bool true) := by
 refine Sp_intro (lend := true) Tryz.func15 rfl rfl rfl (fun _ => rfl) (fun c hc hX => ?_)
 refine T_seq (T_region hc (Ch.s (.ptr 1000 0) (.box 1000 _ _ rfl (.aggD _)) (Ch.s (.d (.bool false)) pa (Ch.nil (T_seq (T_region hc (Ch.s (.d (.int .i64 1048576)) pa ?_)))))))
 refine Ch.nil (T_seq (T_region hc (Ch.s (.agg (vX x)) (.pure (.loadPtrA _ _ rfl ag26 sz26 rfl rfl (lb rfl) rfl)) (Ch.s (.d (.int .i64 1048576)) pm (Ch.s (.d (.int .i64 (szR x.bulk 1048576))) (.call 16000 16 _ _ _ en16 rfl (.inl rfl) (.cons lX (.cons (.d _) .nil)) rfl rfl (sp_laws_szStateGraph x 1048576 a23 a23 a46) (.skip _ _ (.skip _ _ .nil)) rfl) (Ch.s (.d (.int .i64 (szR x.bulk 1048576))) pa (Ch.nil ?_)))))))
 refine T_seq (T_seq (T_region hc (Ch.s (.d (.int .i64 (szR x.bulk 1048576))) pm (Ch.s (.d (.bool (decide ((szR x.bulk 1048576) < 0)))) (iX rfl rfl rfl) (Ch.nil ?_)))))
 refine T_condD (p := ((szR x.bulk 1048576) < 0)) rfl (fun h1 => ?_) (fun h1 => ?_)
 ·
  try have hz := szR_ok (t := x.bulk) (left := 1048576) h1 (by omega)
  try have hb : x.bulk ≤ 1048576 := by omega
  try have hl := hz.2
  try have mcbd := mcV_bd x
  try have hcr : bulkF Rcv.bulk (mcV x) ≤ 1048576 := by omega
  try have hrb := rml_bd mcbd.2.2 (mcV x).length
  try have hrn := rmk_len 1 (mcV x)
  try have hrr : rml (rmk 1 (mcV x)) (rmk 1 (mcV x)).length = rml (mcV x) (mcV x).length := by rw [rmk_len]; exact rmk_rml _ (Nat.le_refl _)
  try have hrs : ∀ r ∈ rmk 1 (mcV x), r.cubes.length ≤ 300 := rmk_cubes mcbd.2.2
  refine T_seq (T_region hc (Ch.s (.d (.bool true)) pa (Ch.nil (T_ret ?_))))
  exact endR [(.d (.bool true))] [] [] (.cons (.tmp 2 rfl) .nil) (.cons (.any _) .nil) (.d _) rfl rfl
 ·
  try have hz := szR_ok (t := x.bulk) (left := 1048576) h1 (by omega)
  try have hb : x.bulk ≤ 1048576 := by omega
  try have hl := hz.2
  try have mcbd := mcV_bd x
  try have hcr : bulkF Rcv.bulk (mcV x) ≤ 1048576 := by omega
  try have hrb := rml_bd mcbd.2.2 (mcV x).length
  try have hrn := rmk_len 1 (mcV x)
  try have hrr : rml (rmk 1 (mcV x)) (rmk 1 (mcV x)).length = rml (mcV x) (mcV x).length := by rw [rmk_len]; exact rmk_rml _ (Nat.le_refl _)
  try have hrs : ∀ r ∈ rmk 1 (mcV x), r.cubes.length ≤ 300 := rmk_cubes mcbd.2.2
  refine T_skip (T_seq (T_region hc (Ch.s (.agg (vX x)) (.pure (.loadPtrA _ _ rfl ag26 sz26 rfl rfl (lb rfl) rfl)) ?_)))
  refine Ch.step (v := (.agg [(.row 21000), (.row 21001), (.row 21002)])) rfl (.call 21000 18 _ _ _ en18 rfl (.inl rfl) (.cons lX .nil) rfl (sol (Sgr.sol _) rfl) (sp_laws_toStateGraph x a39) (.skip _ _ .nil) rfl) rfl rfl ?_
  refine Ch.step (v := (.tup [(.row 22000), (.d (.bool (mcB x)))])) rfl (.call 22000 62 _ _ _ en62 rfl (.inl rfl) (.cons (.lend (.agg (.cons (.row rfl (frozs_map (fun _ => rfl) _)) (.cons (.row rfl (frozs_map (fun _ => rfl) _)) (.cons (.row rfl (frozs_map (fun _ => rfl) _)) .nil))) rfl)) .nil) rfl (sol a112 rfl) (sp_spec_MonotonousCovers x a39) (.skip _ _ .nil) rfl) rfl rfl ?_
  refine Ch.s (.tup [(.row 22000), (.d (.bool (mcB x)))]) pm (Ch.s (.row 22000) (.pure (.extract _ rfl rfl rfl)) (Ch.s (.d (.bool (mcB x))) (.pure (.extract _ rfl rfl rfl)) (Ch.s (.row 22000) pa (Ch.s (.d (.bool (mcB x))) pa (Ch.nil (T_seq (T_region hc ?_)))))))
  refine Ch.s (.agg (vX x)) (.pure (.loadPtrA _ _ rfl ag26 sz26 rfl rfl (lb rfl) rfl)) ?_
  refine Ch.step (v := (.agg [(.row 26000), (.row 26001), (.row 26002)])) rfl (.call 26000 18 _ _ _ en18 rfl (.inl rfl) (.cons lX .nil) rfl (sol (Sgr.sol _) rfl) (sp_laws_toStateGraph x a39) (.skip _ _ .nil) rfl) rfl rfl ?_
  refine Ch.s (.ptr 6000 0) (.alloc 6000 _ rfl zer35) (Ch.s .junk (.storePtr _ _ _ rfl rfl rfl (.agg _ rfl) sz35 (lb rfl)) (Ch.nil (T_seq (T_region hc (Ch.s (.agg [(.row 26000), (.row 26001), (.row 26002)]) (.pure (.loadPtrA _ _ rfl ag35 sz35 rfl rfl (lb rfl) rfl)) ?_)))))
  refine Ch.step (v := (.tup [(.row 29000), (.d (.bool (mcB x)))])) rfl (.call 29000 63 _ _ _ en63 rfl (.inl rfl) (.cons (.lend (.agg (.cons (.row rfl (frozs_map (fun _ => rfl) _)) (.cons (.row rfl (frozs_map (fun _ => rfl) _)) (.cons (.row rfl (frozs_map (fun _ => rfl) _)) .nil))) rfl)) .nil) rfl (sol a112 rfl) (sp_impl_MonotonousCovers x a39) (.skip _ _ .nil) rfl) rfl rfl ?_
  refine Ch.s (.tup [(.row 29000), (.d (.bool (mcB x)))]) pm (Ch.s (.row 29000) (.pure (.extract _ rfl rfl rfl)) (Ch.s (.d (.bool (mcB x))) (.pure (.extract _ rfl rfl rfl)) (Ch.s (.row 29000) pa (Ch.s (.d (.bool (mcB x))) pa (Ch.nil (T_seq (T_seq ?_)))))))
  refine T_region hc (Ch.s (.row 29000) pm (Ch.s (.row 22000) pm (Ch.s (.d (.bool (decide ((mcV x) = (mcV x))))) (.call 34000 53 _ _ _ en53 rfl (.inl rfl) (.cons (.lend (.row rfl (frozs_to Rcv.fz _))) (.cons (.lend (.row rfl (frozs_to Rcv.fz _))) .nil)) rfl rfl (sp_laws_eqRegionCoversS (mcV x) (mcV x) a39) (.skip _ _ (.skip _ _ .nil)) rfl) (Ch.s (.d (.bool (!(decide ((mcV x) = (mcV x)))))) (.pure (.not _ _ rfl rfl)) (Ch.s (.d (.bool (!(decide ((mcV x) = (mcV x)))))) pm ?_)))))
  cases h2 : (decide ((mcV x) = (mcV x))) with
  | true =>
   replace h2 := of_decide_eq_true h2
   refine Ch.s (.d (.bool (mcB x))) pm (Ch.s (.d (.bool (mcB x))) pm (Ch.s (.d (.bool (!(decide ((mcB x) = (mcB x)))))) (.pure (.neB _ _ _ _ rfl Tryz.underlying4 rfl rfl)) (Ch.s (.d (.bool (!(decide ((mcB x) = (mcB x)))))) (.pure (.pickF _ _ _ rfl rfl rfl)) (Ch.nil ?_))))
   refine T_condN (b := (decide ((mcB x) = (mcB x)))) rfl (fun h3 => ?_) (fun h3 => ?_)
   ·
    replace h3 := of_decide_eq_false h3
    refine T_seq (T_region hc (Ch.s (.d (.bool false)) pa (Ch.nil (T_ret ?_))))
    exact endR [(.d (.bool false))] [] [] (.cons (.tmp 2 rfl) .nil) (.cons (.any _) .nil) (Exp.of (congrArg D.bool a77) (.d _)) rfl rfl
   ·
    replace h3 := of_decide_eq_true h3
    refine T_skip (T_seq (T_seq ?_))
    refine T_regionD hc (by kernel_rfl) ?_
    refine ChD.s (.agg [(.row 26000), (.row 26001), (.row 26002)]) [6000, 26000, 26001, 26002] (.pure (.loadPtrA _ _ rfl ag35 sz35 rfl rfl (lb rfl) rfl)) (ChD.s (.agg (vX x)) [1000] (.pure (.loadPtrA _ _ rfl ag26 sz26 rfl rfl (lb rfl) rfl)) (ChD.s (.agg [(.row 43000), (.row 43001), (.row 43002)]) [] (.call 43000 18 _ _ _ en18 rfl (.inl rfl) (.cons lX .nil) rfl (sol (Sgr.sol _) rfl) (sp_laws_toStateGraph x a39) (.skip _ _ .nil) rfl) (ChD.s (.d (.bool (decide (x = x)))) [26000, 26001, 26002, 43000, 43001, 43002] (.call 44000 21 _ _ _ en21 rfl (.inl rfl) (.cons (.lend (.agg (.cons (.row rfl (frozs_map (fun _ => rfl) _)) (.cons (.row rfl (frozs_map (fun _ => rfl) _)) (.cons (.row rfl (frozs_map (fun _ => rfl) _)) .nil))) rfl)) (.cons (.lend (.agg (.cons (.row rfl (frozs_map (fun _ => rfl) _)) (.cons (.row rfl (frozs_map (fun _ => rfl) _)) (.cons (.row rfl (frozs_map (fun _ => rfl) _)) .nil))) rfl)) .nil)) rfl rfl (sp_laws_eqStateGraph x x a39) (.skip _ _ (.skip _ _ .nil)) rfl) (ChD.s (.d (.bool (!(decide (x = x))))) [] (.pure (.not _ _ rfl rfl)) ?_))))
    refine ChD.nil (And.intro ?_ (by kernel_rfl))
    refine T_condN (b := (decide (x = x))) rfl (fun h4 => ?_) (fun h4 => ?_)
    ·
     replace h4 := of_decide_eq_false h4
     refine T_seq (T_region hc (Ch.s (.d (.bool false)) pa (Ch.nil (T_ret ?_))))
     exact endR [(.d (.bool false))] [] [] (.cons (.tmp 2 rfl) .nil) (.cons (.any _) .nil) (Exp.of (congrArg D.bool a77) (.d _)) rfl rfl
    ·
     replace h4 := of_decide_eq_true h4
     refine T_skip (T_seq (T_region hc (Ch.s (.d (.int .i64 1)) pa (Ch.nil (T_seq (T_region hc (Ch.s (.agg [(.row 26000), (.row 26001), (.row 26002)]) (.pure (.loadPtrA _ _ rfl ag35 sz35 rfl rfl (lb rfl) rfl)) ?_)))))))
     refine Ch.s (.d (.int .i64 1)) pm (Ch.s (.d (.int .i64 ((1 + 2 * x.sigs.length + x.codes.length + 4 * x.arcs.length : Nat) : Int))) (.call 48000 22 _ _ _ en22 rfl (.inl rfl) (.cons (.agg (.cons (.row rfl) (.cons (.row rfl) (.cons (.row rfl) .nil))) rfl) (.cons (.d _) .nil)) rfl rfl (sp_laws_markStateGraph x 1 a39 a39) (.skip _ _ (.skip _ _ .nil)) rfl) (Ch.s (.d (.int .i64 ((1 + 2 * x.sigs.length + x.codes.length + 4 * x.arcs.length : Nat) : Int))) pa (Ch.nil (T_seq (T_seq (T_region hc (Ch.s (.d (.int .i64 ((1 + 2 * x.sigs.length + x.codes.length + 4 * x.arcs.length : Nat) : Int))) pm ?_)))))))
     refine Ch.s (.d (.bool (decide (((1 + 2 * x.sigs.length + x.codes.length + 4 * x.arcs.length : Nat) : Int) < 0)))) (iX rfl rfl rfl) (Ch.s (.d (.bool (decide (((1 + 2 * x.sigs.length + x.codes.length + 4 * x.arcs.length : Nat) : Int) < 0)))) pm ?_)
     cases h5 : (decide (((1 + 2 * x.sigs.length + x.codes.length + 4 * x.arcs.length : Nat) : Int) < 0)) with
     | true =>
      replace h5 := of_decide_eq_true h5
      refine Ch.skip rfl rfl (Ch.skip rfl rfl (Ch.skip rfl rfl (Ch.skip rfl rfl (Ch.s (.d (.bool true)) (.pure (.pickT _ _ _ rfl rfl rfl)) (Ch.s (.d (.bool true)) pm (Ch.skip rfl rfl (Ch.skip rfl rfl ?_)))))))
      refine Ch.skip rfl rfl (Ch.s (.d (.bool true)) (.pure (.pickT _ _ _ rfl rfl rfl)) (Ch.nil ?_))
      refine T_cond (b := true) rfl (fun _ => ?_) (fun h => nomatch h)
      refine T_seq (T_region hc (Ch.s (.d (.bool false)) pa (Ch.nil (T_ret ?_))))
      exact endR [(.d (.bool false))] [] [] (.cons (.tmp 2 rfl) .nil) (.cons (.any _) .nil) (Exp.of (congrArg D.bool a77) (.d _)) rfl rfl
     | false =>
      replace h5 := of_decide_eq_false h5
      refine Ch.s (.row 29000) pm (Ch.s (.row 22000) pm (Ch.s (.d (.bool (decide ((mcV x) = (mcV x))))) (.call 54000 53 _ _ _ en53 rfl (.inl rfl) (.cons (.lend (.row rfl (frozs_to Rcv.fz _))) (.cons (.lend (.row rfl (frozs_to Rcv.fz _))) .nil)) rfl rfl (sp_laws_eqRegionCoversS (mcV x) (mcV x) a39) (.skip _ _ (.skip _ _ .nil)) rfl) (Ch.s (.d (.bool (!(decide ((mcV x) = (mcV x)))))) (.pure (.not _ _ rfl rfl)) (Ch.s (.d (.bool (!(decide ((mcV x) = (mcV x)))))) (.pure (.pickF _ _ _ rfl rfl rfl)) (Ch.s (.d (.bool (!(decide ((mcV x) = (mcV x)))))) pm ?_)))))
      cases h6 : (decide ((mcV x) = (mcV x))) with
      | true =>
       replace h6 := of_decide_eq_true h6
       refine Ch.s (.d (.bool (mcB x))) pm (Ch.s (.d (.bool (mcB x))) pm (Ch.s (.d (.bool (!(decide ((mcB x) = (mcB x)))))) (.pure (.neB _ _ _ _ rfl Tryz.underlying4 rfl rfl)) (Ch.s (.d (.bool (!(decide ((mcB x) = (mcB x)))))) (.pure (.pickF _ _ _ rfl rfl rfl)) (Ch.nil ?_))))
       refine T_condN (b := (decide ((mcB x) = (mcB x)))) rfl (fun h7 => ?_) (fun h7 => ?_)
       ·
        replace h7 := of_decide_eq_false h7
        refine T_seq (T_region hc (Ch.s (.d (.bool false)) pa (Ch.nil (T_ret ?_))))
        exact endR [(.d (.bool false))] [] [] (.cons (.tmp 2 rfl) .nil) (.cons (.any _) .nil) (Exp.of (congrArg D.bool a77) (.d _)) rfl rfl
       ·
        replace h7 := of_decide_eq_true h7
        refine T_skip (T_seq (T_region hc (Ch.s (.d (.int .i64 1)) pa (Ch.nil (T_seq (T_region hc (Ch.s (.row 29000) pm ?_)))))))
        refine Ch.s (.d (.int .i64 1)) pm ?_
        refine Ch.step (v := (.d (.int .i64 ((1 + rml (mcV x) (mcV x).length : Nat) : Int)))) rfl (.call 64000 64 _ _ _ en64 rfl (.inl rfl) (.cons (.row rfl) (.cons (.d _) .nil)) rfl (sol rfl (solids_c (solid_row Rcv.sol _) rfl)) (sp_laws_markRegionCoversS (mcV x) 1 a99 a99 a99) (.row _ _ _ (.skip _ _ .nil)) rfl) rfl rfl ?_
        refine Ch.s (.d (.int .i64 ((1 + rml (mcV x) (mcV x).length : Nat) : Int))) pa (Ch.nil (T_seq (T_region hc (Ch.s (.d (.int .i64 1)) pa (Ch.nil (T_seq (T_region hc ?_)))))))
        refine Ch.s (.row 29000) pm (Ch.s (.d (.int .i64 1)) pm (Ch.s (.d (.int .i64 ((1 + rml (rmk 1 (mcV x)) (rmk 1 (mcV x)).length : Nat) : Int))) (.call 67000 65 _ _ _ en65 rfl (.inl rfl) (.cons (.lend (.row rfl (frozs_to Rcv.fz _))) (.cons (.d _) .nil)) rfl rfl (sp_laws_heldRegionCoversS (rmk 1 (mcV x)) 1 a99 (by first | assumption | exact hrs) (by omega) (rmk_held _ _)) (.skip _ _ (.skip _ _ .nil)) rfl) (Ch.s (.d (.int .i64 ((1 + rml (rmk 1 (mcV x)) (rmk 1 (mcV x)).length : Nat) : Int))) pa (Ch.nil (T_seq (T_seq (T_region hc ?_)))))))
        refine Ch.s (.d (.int .i64 ((1 + rml (rmk 1 (mcV x)) (rmk 1 (mcV x)).length : Nat) : Int))) pm (Ch.s (.d (.bool (decide (((1 + rml (rmk 1 (mcV x)) (rmk 1 (mcV x)).length : Nat) : Int) < 0)))) (iX rfl rfl rfl) (Ch.nil ?_))
        refine T_condD (p := (((1 + rml (rmk 1 (mcV x)) (rmk 1 (mcV x)).length : Nat) : Int) < 0)) rfl (fun h8 => ?_) (fun h8 => ?_)
        ·
         refine T_seq (T_region hc (Ch.s (.d (.bool false)) pa (Ch.nil (T_ret ?_))))
         exact endR [(.d (.bool false))] [] [] (.cons (.tmp 2 rfl) .nil) (.cons (.any _) .nil) (Exp.of (congrArg D.bool a77) (.d _)) rfl rfl
        ·
         refine T_skip (T_seq (T_seq (T_region hc (Ch.s (.d (.int .i64 ((1 + rml (rmk 1 (mcV x)) (rmk 1 (mcV x)).length : Nat) : Int))) pm (Ch.s (.d (.int .i64 ((1 + rml (mcV x) (mcV x).length : Nat) : Int))) pm (Ch.s (.d (.bool (!(decide (((1 + rml (rmk 1 (mcV x)) (rmk 1 (mcV x)).length : Nat) : Int) = ((1 + rml (mcV x) (mcV x).length : Nat) : Int)))))) (iX rfl rfl rfl) (Ch.nil ?_)))))))
         refine T_condN (b := (decide (((1 + rml (rmk 1 (mcV x)) (rmk 1 (mcV x)).length : Nat) : Int) = ((1 + rml (mcV x) (mcV x).length : Nat) : Int)))) rfl (fun h9 => ?_) (fun h9 => ?_)
         ·
          replace h9 := of_decide_eq_false h9
          refine T_seq (T_region hc (Ch.s (.d (.bool false)) pa (Ch.nil (T_ret ?_))))
          exact endR [(.d (.bool false))] [] [] (.cons (.tmp 2 rfl) .nil) (.cons (.any _) .nil) (Exp.of (congrArg D.bool a77) (.d _)) rfl rfl
         ·
          replace h9 := of_decide_eq_true h9
          refine T_skip (T_seq (T_region hc (Ch.s (.agg (vX x)) (.pure (.loadPtrA _ _ rfl ag26 sz26 rfl rfl (lb rfl) rfl)) ?_)))
          refine Ch.step (v := (.agg [(.row 75000), (.row 75001), (.row 75002)])) rfl (.call 75000 18 _ _ _ en18 rfl (.inl rfl) (.cons lX .nil) rfl (sol (Sgr.sol _) rfl) (sp_laws_toStateGraph x a39) (.skip _ _ .nil) rfl) rfl rfl ?_
          refine Ch.step (v := (.tup [(.row 76000), (.d (.bool (mcB x)))])) rfl (.call 76000 63 _ _ _ en63 rfl (.inl rfl) (.cons (.lend (.agg (.cons (.row rfl (frozs_map (fun _ => rfl) _)) (.cons (.row rfl (frozs_map (fun _ => rfl) _)) (.cons (.row rfl (frozs_map (fun _ => rfl) _)) .nil))) rfl)) .nil) rfl (sol a112 rfl) (sp_impl_MonotonousCovers x a39) (.skip _ _ .nil) rfl) rfl rfl ?_
          refine Ch.s (.tup [(.row 76000), (.d (.bool (mcB x)))]) pm (Ch.s (.row 76000) (.pure (.extract _ rfl rfl rfl)) (Ch.s (.d (.bool (mcB x))) (.pure (.extract _ rfl rfl rfl)) (Ch.s (.row 76000) pa (Ch.s (.d (.bool (mcB x))) pa (Ch.nil (T_seq (T_seq ?_)))))))
          refine T_region hc (Ch.s (.row 76000) pm (Ch.s (.row 22000) pm (Ch.s (.d (.bool (decide ((mcV x) = (mcV x))))) (.call 81000 53 _ _ _ en53 rfl (.inl rfl) (.cons (.lend (.row rfl (frozs_to Rcv.fz _))) (.cons (.lend (.row rfl (frozs_to Rcv.fz _))) .nil)) rfl rfl (sp_laws_eqRegionCoversS (mcV x) (mcV x) a39) (.skip _ _ (.skip _ _ .nil)) rfl) (Ch.s (.d (.bool (!(decide ((mcV x) = (mcV x)))))) (.pure (.not _ _ rfl rfl)) (Ch.s (.d (.bool (!(decide ((mcV x) = (mcV x)))))) pm ?_)))))
          cases h10 : (decide ((mcV x) = (mcV x))) with
          | true =>
           replace h10 := of_decide_eq_true h10
           refine Ch.s (.d (.bool (mcB x))) pm (Ch.s (.d (.bool (mcB x))) pm (Ch.s (.d (.bool (!(decide ((mcB x) = (mcB x)))))) (.pure (.neB _ _ _ _ rfl Tryz.underlying4 rfl rfl)) (Ch.s (.d (.bool (!(decide ((mcB x) = (mcB x)))))) (.pure (.pickF _ _ _ rfl rfl rfl)) (Ch.nil ?_))))
           refine T_condN (b := (decide ((mcB x) = (mcB x)))) rfl (fun h11 => ?_) (fun h11 => ?_)
           ·
            replace h11 := of_decide_eq_false h11
            refine T_seq (T_region hc (Ch.s (.d (.bool false)) pa (Ch.nil (T_ret ?_))))
            exact endR [(.d (.bool false))] [] [] (.cons (.tmp 2 rfl) .nil) (.cons (.any _) .nil) (Exp.of (congrArg D.bool a77) (.d _)) rfl rfl
           ·
            replace h11 := of_decide_eq_true h11
            refine T_skip (T_seq (T_region hc (Ch.s (.d (.int .i64 1)) pa (Ch.nil (T_seq (T_region hc (Ch.s (.row 29000) pm ?_)))))))
            refine Ch.s (.d (.int .i64 1)) pm (Ch.s (.d (.int .i64 ((1 + rml (rmk 1 (mcV x)) (rmk 1 (mcV x)).length : Nat) : Int))) (.call 90000 65 _ _ _ en65 rfl (.inl rfl) (.cons (.lend (.row rfl (frozs_to Rcv.fz _))) (.cons (.d _) .nil)) rfl rfl (sp_laws_heldRegionCoversS (rmk 1 (mcV x)) 1 a99 (by first | assumption | exact hrs) (by omega) (rmk_held _ _)) (.skip _ _ (.skip _ _ .nil)) rfl) (Ch.s (.d (.int .i64 ((1 + rml (rmk 1 (mcV x)) (rmk 1 (mcV x)).length : Nat) : Int))) pa (Ch.nil (T_seq (T_seq (T_region hc (Ch.s (.d (.int .i64 ((1 + rml (rmk 1 (mcV x)) (rmk 1 (mcV x)).length : Nat) : Int))) pm ?_)))))))
            refine Ch.s (.d (.bool (decide (((1 + rml (rmk 1 (mcV x)) (rmk 1 (mcV x)).length : Nat) : Int) < 0)))) (iX rfl rfl rfl) (Ch.nil ?_)
            refine T_condD (p := (((1 + rml (rmk 1 (mcV x)) (rmk 1 (mcV x)).length : Nat) : Int) < 0)) rfl (fun h12 => ?_) (fun h12 => ?_)
            ·
             refine T_seq (T_region hc (Ch.s (.d (.bool false)) pa (Ch.nil (T_ret ?_))))
             exact endR [(.d (.bool false))] [] [] (.cons (.tmp 2 rfl) .nil) (.cons (.any _) .nil) (Exp.of (congrArg D.bool a77) (.d _)) rfl rfl
            ·
             refine T_skip (T_seq (T_seq (T_region hc (Ch.s (.d (.int .i64 ((1 + rml (rmk 1 (mcV x)) (rmk 1 (mcV x)).length : Nat) : Int))) pm (Ch.s (.d (.int .i64 ((1 + rml (mcV x) (mcV x).length : Nat) : Int))) pm (Ch.s (.d (.bool (!(decide (((1 + rml (rmk 1 (mcV x)) (rmk 1 (mcV x)).length : Nat) : Int) = ((1 + rml (mcV x) (mcV x).length : Nat) : Int)))))) (iX rfl rfl rfl) (Ch.nil ?_)))))))
             refine T_condN (b := (decide (((1 + rml (rmk 1 (mcV x)) (rmk 1 (mcV x)).length : Nat) : Int) = ((1 + rml (mcV x) (mcV x).length : Nat) : Int)))) rfl (fun h13 => ?_) (fun h13 => ?_)
             ·
              replace h13 := of_decide_eq_false h13
              refine T_seq (T_region hc (Ch.s (.d (.bool false)) pa (Ch.nil (T_ret ?_))))
              exact endR [(.d (.bool false))] [] [] (.cons (.tmp 2 rfl) .nil) (.cons (.any _) .nil) (Exp.of (congrArg D.bool a77) (.d _)) rfl rfl
             ·
              replace h13 := of_decide_eq_true h13
              refine T_skip (T_seq (T_region hc (Ch.s (.d (.bool true)) pa (Ch.nil (T_ret ?_)))))
              exact endR [(.d (.bool true))] [] [] (.cons (.tmp 2 rfl) .nil) (.cons (.any _) .nil) (.d _) rfl rfl
          | false =>
           replace h10 := of_decide_eq_false h10
           refine Ch.skip rfl rfl (Ch.skip rfl rfl (Ch.skip rfl rfl (Ch.s (.d (.bool true)) (.pure (.pickT _ _ _ rfl rfl rfl)) (Ch.nil ?_))))
           refine T_cond (b := true) rfl (fun _ => ?_) (fun h => nomatch h)
           refine T_seq (T_region hc (Ch.s (.d (.bool false)) pa (Ch.nil (T_ret ?_))))
           exact endR [(.d (.bool false))] [] [] (.cons (.tmp 2 rfl) .nil) (.cons (.any _) .nil) (Exp.of (congrArg D.bool a77) (.d _)) rfl rfl
      | false =>
       replace h6 := of_decide_eq_false h6
       refine Ch.skip rfl rfl (Ch.skip rfl rfl (Ch.skip rfl rfl (Ch.s (.d (.bool true)) (.pure (.pickT _ _ _ rfl rfl rfl)) (Ch.nil ?_))))
       refine T_cond (b := true) rfl (fun _ => ?_) (fun h => nomatch h)
       refine T_seq (T_region hc (Ch.s (.d (.bool false)) pa (Ch.nil (T_ret ?_))))
       exact endR [(.d (.bool false))] [] [] (.cons (.tmp 2 rfl) .nil) (.cons (.any _) .nil) (Exp.of (congrArg D.bool a77) (.d _)) rfl rfl
  | false =>
   replace h2 := of_decide_eq_false h2
   refine Ch.skip rfl rfl (Ch.skip rfl rfl (Ch.skip rfl rfl (Ch.s (.d (.bool true)) (.pure (.pickT _ _ _ rfl rfl rfl)) (Ch.nil ?_))))
   refine T_cond (b := true) rfl (fun _ => ?_) (fun h => nomatch h)
   refine T_seq (T_region hc (Ch.s (.d (.bool false)) pa (Ch.nil (T_ret ?_))))
   exact endR [(.d (.bool false))] [] [] (.cons (.tmp 2 rfl) .nil) (.cons (.any _) .nil) (Exp.of (congrArg D.bool a77) (.d _)) rfl rfl

end Go.AM
