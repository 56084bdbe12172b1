/-
  The contracts that the law FnExactMonotonousCovers needs.
-/
import Derived.Test.YtnmlcebejnlikaaGreatZMonotonousCovers1
import Derived.Test.YtnmlcebejnlikaaGreatSh
namespace Go.AM
open Go.Proofs
set_option linter.unusedVariables false
set_option linter.unusedSimpArgs false

set_option maxHeartbeats 2000000 in
theorem sp_impl_distances (n : Nat) (l : List Stp) (s : Nat) (hn : n ≤ 1048576) (hll : l.length ≤ 1048576) (hs : s < n) (hl : ∀ e ∈ l, (0 ≤ e.src ∧ e.src.toNat < n) ∧ (0 ≤ e.dst ∧ e.dst.toNat < n)) : Sp Tryz.prog 190 [(.int .i64 (n : Int)), (.slice false 2 (l.map Stp.d)), (.int .i64 (s : Int))] [.any, .any, .any] (.slice true 1 ((distF n l s).map (fun n : Int => D.int .i64 n))) := by
 refine Sp_intro (lend := true) Tryz.func190 rfl rfl rfl (fun _ => rfl) (fun c hc hX => ?_)
 refine T_seq (T_region hc (Ch.s (.c (.slice none 0 0)) pa (Ch.nil (T_seq ?_))))
 refine T_regionD hc (by kernel_rfl) ?_
 refine ChD.s (.row 15000) [] (.slice 15000 _ 3 _ rfl sty55 (xs := [.const (.int .i64 (-1))]) rfl rfl (.cons (.d _) .nil) rfl rfl (by decide)) (ChD.s (.d (.int .i64 (n : Int))) [] pm (ChD.s (.row 17000) [15000] (.call 17000 237 _ _ _ en237 rfl (.inl rfl) (.cons (.lend (.row (ys := (([(-1)]).map (fun n : Int => D.int .i64 n))) rfl rfl)) (.cons (.d _) .nil)) rfl (sol (solid_row (fun _ => rfl) _) rfl) (sp_Repeat_int (-1) n (by omega) (by omega)) (.skip _ _ (.skip _ _ .nil)) rfl) (ChD.s (.d (.int .i64 (n : Int))) [] pm (ChD.s (.row 19000) [] (.make 19000 _ 55 _ _ (n) (n) rfl sty49 rfl rfl rfl rfl a43 a43 a43 (zeroD_mk (zd := (.slice true 1 [])) zr55 a121 rfl)) (ChD.s (.row 17000) [] pa (ChD.s (.row 19000) [] pa ?_))))))
 refine ChD.nil (And.intro ?_ (by kernel_rfl))
 refine T_seq (T_seq (T_region hc (Ch.s (.d (.slice false 2 (l.map Stp.d))) pm (Ch.s (.d (.int .i64 (l.length : Int))) (.pure (.len _ _ 212 rfl Tryz.underlying193 (.sh _ _) (by simp))) (Ch.s (.d (.int .i64 0)) pm (Ch.nil (T_block ?_)))))))
 refine T_loop (ι := Nat) (fun k => { n := 85, sl := [(2, (.d (.int .i64 (s : Int)))), (7, (.row 17000)), (8, (.row 8)), (20, (.d (.slice false 2 (l.map Stp.d)))), (21, (.d (.int .i64 (l.length : Int)))), (22, (.d (.int .i64 (k : Int))))], hp := [(8, (some (.row 1 ((adjTo n l k).map intsU)))), (17000, (some (.row 1 ((List.replicate n (-1)).map (fun n : Int => D.int .i64 n)))))], pin := [] }) (fun k => k ≤ l.length) (fun k => l.length - k) ⟨0, (by omega), (Wk.ren [(8, 19000)] rfl rfl rfl rfl (ai rfl (ai rfl (ai rfl (ai rfl (ai rfl (ai (vI a114) trivial)))))) (ai (oR a74) (ai rfl trivial)))⟩ (fun k hp0 => ?_)
 have hal := adjTo_length n l k; have hadj := adj_len n l k hp0 (l.getD k default).src.toNat
 refine T_seq (T_region hc (Ch.s (.d (.bool (decide ((k : Int) < (l.length : Int))))) (iX rfl rfl rfl) (Ch.nil (T_seq ?_))))
 refine T_condD (p := ((k : Int) < (l.length : Int))) rfl (fun h1 => ?_) (fun h1 => ?_)
 ·
  try have hek := hl _ (getD_mem (l := l) (j := k) (d := default) (by omega))
  refine T_skip (T_seq (T_block (T_seq (T_region hc (Ch.s (.d (.ref (.agg [(.int .i64 ((l.getD k default).src)), (.int .i64 ((l.getD k default).dst))]))) (.pure (.idx _ _ _ 212 (k) rfl Tryz.underlying193 sz212 rfl rfl rfl get_mapA)) (Ch.s (.d (.agg [(.int .i64 ((l.getD k default).src)), (.int .i64 ((l.getD k default).dst))])) (.pure (.loadRefA _ _ rfl ag212 sz212 rfl)) (Ch.s (.ptr 10000 0) (.alloc 10000 _ rfl zer212) ?_)))))))
  refine Ch.s .junk (.storePtr _ _ _ rfl rfl rfl (.aggD _) sz212 (lb rfl)) (Ch.nil ?_)
  refine T_take 8 ((((l.getD k default).src)).toNat) 7000002 7000003 rfl get_mapA rfl rfl (fun u1 => ?_)
  refine T_regionD hc (by kernel_rfl) ?_
  refine ChD.s (.row 8) [] pm (ChD.s (.ptr 10000 0) [] (.pure (.fldPtr _ _ _ rfl fld212_0 rfl)) (ChD.s (.d (.int .i64 ((l.getD k default).src))) [10000] (.pure (.loadPtr1 _ _ rfl ag3 rfl rfl rfl)) (ChD.s (.row 8) [] pm (ChD.s (.ptr 10000 0) [] (.pure (.fldPtr _ _ _ rfl fld212_0 rfl)) (ChD.s (.d (.int .i64 ((l.getD k default).src))) [10000] (.pure (.loadPtr1 _ _ rfl ag3 rfl rfl rfl)) (ChD.s (.el 8 1 ((((l.getD k default).src)).toNat) 0) [8, 7000002, 7000003] (.pure (.idxRow _ _ _ 55 ((((l.getD k default).src)).toNat) rfl Tryz.underlying49 sz55 rfl rfl rfl (by omega) a86)) (ChD.s (.row 7000002) [8, 7000002, 7000003] (.pure (.loadHole (n := 7000002) (m := 7000003) (u := u1) _ _ rfl ag55 rfl rfl (get_set a86) rfl rfl)) ?_)))))))
  refine ChD.s (.ptr 10000 1) [] (.pure (.fldPtr _ _ _ rfl fld212_1 rfl)) (ChD.s (.d (.int .i64 ((l.getD k default).dst))) [10000] (.pure (.loadPtr1 _ _ rfl ag3 rfl rfl rfl)) (ChD.s (.row 36000) [] (.slice 36000 _ 3 _ rfl sty55 (xs := [.tmp 35]) rfl rfl (.cons (.d _) .nil) rfl rfl (by decide)) (ChD.s (.row 37000) [36000, 7000002] (.append 37000 _ _ _ 3 rfl sty55 (by decide) (.rowK rfl) (.inr ⟨_, rfl, rfl⟩) (.row rfl rfl) rfl a56) (ChD.s (.el 8 1 ((((l.getD k default).src)).toNat) 0) [8, 7000002, 7000003] (.pure (.idxRow _ _ _ 55 ((((l.getD k default).src)).toNat) rfl Tryz.underlying49 sz55 rfl rfl rfl (by omega) a86)) (ChD.s .junk [8, 37000, 7000002, 7000003] (.storeElK (y' := (.slice true 1 ((((adjTo n l k).getD ((((l.getD k default).src)).toNat) default).map (fun n : Int => D.int .i64 n)) ++ [(.int .i64 ((l.getD k default).dst))]))) _ _ _ rfl rfl rfl (.row rfl) rfl rfl rfl sz55 rfl (get_set a86) rfl rfl) ?_)))))
  refine ChD.nil (And.intro ?_ (by kernel_rfl))
  refine T_region hc (Ch.s (.d (.int .i64 ((k : Int) + 1))) (iX rfl rfl intV_addA) (Ch.s (.d (.int .i64 ((k : Int) + 1))) pm (Ch.nil ?_)))
  exact nx (k + 1) (by omega) (Wk.of rfl rfl (ai rfl (ai rfl (ai rfl (ai rfl (ai rfl (ai (vI a114) trivial)))))) (ai (oR a74) (ai rfl trivial)))
 ·
  try have hek := hl _ (getD_mem (l := l) (j := k) (d := default) (by omega))
  refine T_exit (T_seq (T_region hc (Ch.s (.row 17000) pm (Ch.s (.d (.int .i64 (s : Int))) pm (Ch.s (.el 17000 1 s 0) (.pure (.idxRow _ _ _ 3 (s) rfl Tryz.underlying55 sz3 rfl rfl rfl rfl a86)) (Ch.s .junk (.storeEl (y' := (.int .i64 0)) _ _ _ rfl rfl rfl (.d _) rfl sz3 rfl get_mapA rfl rfl) (Ch.nil ?_)))))))
  refine T_seq (T_region hc (Ch.s (.d (.int .i64 (s : Int))) pm (Ch.s (.row 44000) (.slice 44000 _ 3 _ rfl sty55 (xs := [.tmp 43]) rfl rfl (.cons (.d _) .nil) rfl rfl (by decide)) (Ch.s (.row 44000) pa (Ch.nil (T_seq (T_seq ?_)))))))
  refine T_region hc (Ch.s (.d (.int .i64 0)) pa (Ch.nil (T_block ?_)))
  refine T_loop (ι := (List Int × List Int) × Nat) (fun q => { n := 85, sl := [(7, (.row 7)), (8, (.row 8)), (11, (.row 11)), (12, (.d (.int .i64 (q.2 : Int))))], hp := [(7, (some (.row 1 (q.1.1.map (fun n : Int => D.int .i64 n))))), (8, (some (.row 1 ((adjTo n l l.length).map intsU)))), (11, (some (.row 1 (q.1.2.map (fun n : Int => D.int .i64 n)))))], pin := [] }) (fun q => BfsInv n l s q) (fun q => n - q.2) ⟨(((List.replicate n (-1)).set s 0, [(s : Int)]), 0), (BfsInv.zero hs), (Wk.ren [(7, 17000), (11, 44000)] rfl rfl rfl rfl (ai rfl (ai rfl (ai rfl (ai (vI a114) trivial)))) (ai (oR a52) (ai (oR (by first | rfl | (rw [show k = l.length by omega]))) (ai (oR a65) trivial))))⟩ (fun q hp1 => ?_)
  have hql := hp1.inv.le; have hol := hp1.inv.len; have hal := adjTo_length n l l.length
  refine T_seq (T_seq (T_region hc (Ch.s (.d (.int .i64 (q.2 : Int))) pm (Ch.s (.row 11) pm (Ch.s (.d (.int .i64 (q.1.2.length : Int))) (.pure (.len _ _ 3 rfl Tryz.underlying55 (.row rfl) (by simp))) (Ch.s (.d (.bool (decide ((q.2 : Int) < (q.1.2.length : Int))))) (iX rfl rfl rfl) (Ch.nil ?_)))))))
  refine T_condD (p := ((q.2 : Int) < (q.1.2.length : Int))) rfl (fun h2 => ?_) (fun h2 => ?_)
  ·
   try have hqk := hp1.inv.qin _ (getD_mem (l := q.1.2) (j := q.2) (d := default) (by omega))
   try have hin := edges_in hl l.length (Nat.le_refl _) (q.1.2.getD q.2 default).toNat
   refine T_skip (T_seq (T_block (T_seq ?_)))
   refine T_take 8 (((q.1.2.getD q.2 default)).toNat) 7000004 7000005 rfl get_mapA rfl rfl (fun u2 => ?_)
   refine T_region hc (Ch.s (.row 8) pm (Ch.s (.row 11) pm (Ch.s (.d (.int .i64 (q.2 : Int))) pm (Ch.s (.el 11 1 q.2 0) (.pure (.idxRow _ _ _ 3 (q.2) rfl Tryz.underlying55 sz3 rfl rfl rfl rfl a86)) (Ch.s (.d (.int .i64 (q.1.2.getD q.2 default))) (.pure (.loadEl1 _ _ rfl ag3 rfl rfl get_mapA rfl rfl rfl)) (Ch.s (.el 8 1 (((q.1.2.getD q.2 default)).toNat) 0) (.pure (.idxRow _ _ _ 55 (((q.1.2.getD q.2 default)).toNat) rfl Tryz.underlying49 sz55 rfl rfl rfl (by omega) a86)) (Ch.s (.row 7000004) (.pure (.loadHole (n := 7000004) (m := 7000005) (u := u2) _ _ rfl ag55 rfl rfl (get_set a86) rfl rfl)) ?_)))))))
   refine Ch.s (.d (.int .i64 (((adjTo n l l.length).getD (((q.1.2.getD q.2 default)).toNat) default).length : Int))) (.pure (.len _ _ 3 rfl Tryz.underlying55 (.row rfl) (by simp))) (Ch.s (.d (.int .i64 0)) pm (Ch.nil (T_block ?_)))
   refine T_loop (ι := Nat) (fun m => { n := 85, sl := [(7, (.row 7)), (8, (.row 8)), (11, (.row 11)), (12, (.d (.int .i64 (q.2 : Int)))), (57, (.row 7000004)), (58, (.d (.int .i64 (((adjTo n l l.length).getD (((q.1.2.getD q.2 default)).toNat) default).length : Int)))), (59, (.d (.int .i64 (m : Int))))], hp := [(7, (some (.row 1 (((relaxTo q.2 q.1.1 q.1.2 ((adjTo n l l.length).getD (q.1.2.getD q.2 default).toNat default) m).1).map (fun n : Int => D.int .i64 n))))), (8, (some (.row 1 ((((adjTo n l l.length).map intsU)).set (((q.1.2.getD q.2 default)).toNat) (.hole u2))))), (11, (some (.row 1 (((relaxTo q.2 q.1.1 q.1.2 ((adjTo n l l.length).getD (q.1.2.getD q.2 default).toNat default) m).2).map (fun n : Int => D.int .i64 n))))), (7000004, (some (.row 1 (((adjTo n l l.length).getD (((q.1.2.getD q.2 default)).toNat) default).map (fun n : Int => D.int .i64 n))))), (7000005, (some (.head 7000004 u2)))], pin := [] }) (fun m => m ≤ ((adjTo n l l.length).getD (q.1.2.getD q.2 default).toNat default).length) (fun m => ((adjTo n l l.length).getD (q.1.2.getD q.2 default).toNat default).length - m) ⟨0, (by omega), (Wk.of rfl rfl (ai rfl (ai rfl (ai rfl (ai rfl (ai rfl (ai rfl (ai (vI a114) trivial))))))) (ai (oR a50) (ai rfl (ai (oR a49) (ai rfl (ai rfl trivial))))))⟩ (fun m hp2 => ?_)
   have hadl := adj_len n l l.length (Nat.le_refl _) (q.1.2.getD q.2 default).toNat; obtain ⟨hri, r, hrq⟩ := relaxTo_inv (k := q.2) (o := q.1.1) (q := q.1.2) hp1.inv (by omega) hin m hp2; have hri0 := hri.len; have hril := hri.le; have hqn : (relaxTo q.2 q.1.1 q.1.2 ((adjTo n l l.length).getD (q.1.2.getD q.2 default).toNat default) m).2.getD q.2 default = q.1.2.getD q.2 default := (by rw [hrq]; exact getD_app (by omega)); have hkl2 : q.2 < (relaxTo q.2 q.1.1 q.1.2 ((adjTo n l l.length).getD (q.1.2.getD q.2 default).toNat default) m).2.length := (by rw [hrq, List.length_append]; omega); have hlo := hri.qd _ (getD_mem (d := default) hkl2); have htop := hri.top ((relaxTo q.2 q.1.1 q.1.2 ((adjTo n l l.length).getD (q.1.2.getD q.2 default).toNat default) m).2.getD q.2 default).toNat; have hqk2 := hri.qin _ (getD_mem (d := default) hkl2)
   refine T_seq (T_region hc (Ch.s (.d (.bool (decide ((m : Int) < (((adjTo n l l.length).getD (((q.1.2.getD q.2 default)).toNat) default).length : Int))))) (iX rfl rfl rfl) (Ch.nil (T_seq ?_))))
   refine T_condD (p := ((m : Int) < (((adjTo n l l.length).getD (((q.1.2.getD q.2 default)).toNat) default).length : Int))) rfl (fun h3 => ?_) (fun h3 => ?_)
   ·
    try have htm := hin _ (getD_mem (l := ((adjTo n l l.length).getD (q.1.2.getD q.2 default).toNat default)) (j := m) (d := default) (by omega))
    refine T_skip (T_seq (T_block (T_seq (T_region hc (Ch.s (.el 7000004 1 m 0) (.pure (.idxRow _ _ _ 3 (m) rfl Tryz.underlying55 sz3 rfl rfl rfl rfl a86)) (Ch.s (.d (.int .i64 (((adjTo n l l.length).getD (((q.1.2.getD q.2 default)).toNat) default).getD m default))) (.pure (.loadEl1 _ _ rfl ag3 rfl rfl get_mapA rfl rfl rfl)) (Ch.s (.d (.int .i64 (((adjTo n l l.length).getD (((q.1.2.getD q.2 default)).toNat) default).getD m default))) pa ?_)))))))
    refine Ch.nil (T_seq (T_region hc (Ch.s (.row 7) pm (Ch.s (.d (.int .i64 (((adjTo n l l.length).getD (((q.1.2.getD q.2 default)).toNat) default).getD m default))) pm (Ch.s (.el 7 1 (((((adjTo n l l.length).getD (((q.1.2.getD q.2 default)).toNat) default).getD m default)).toNat) 0) (.pure (.idxRow _ _ _ 3 (((((adjTo n l l.length).getD (((q.1.2.getD q.2 default)).toNat) default).getD m default)).toNat) rfl Tryz.underlying55 sz3 rfl rfl rfl (by omega) a86)) (Ch.s (.d (.int .i64 (((relaxTo q.2 q.1.1 q.1.2 ((adjTo n l l.length).getD (q.1.2.getD q.2 default).toNat default) m).1).getD (((((adjTo n l l.length).getD (((q.1.2.getD q.2 default)).toNat) default).getD m default)).toNat) default))) (.pure (.loadEl1 _ _ rfl ag3 rfl rfl get_mapA rfl rfl rfl)) (Ch.s (.d (.bool (decide ((((relaxTo q.2 q.1.1 q.1.2 ((adjTo n l l.length).getD (q.1.2.getD q.2 default).toNat default) m).1).getD (((((adjTo n l l.length).getD (((q.1.2.getD q.2 default)).toNat) default).getD m default)).toNat) default) < 0)))) (iX rfl rfl rfl) ?_)))))))
    refine Ch.nil ?_
    refine T_condD (p := ((((relaxTo q.2 q.1.1 q.1.2 ((adjTo n l l.length).getD (q.1.2.getD q.2 default).toNat default) m).1).getD (((((adjTo n l l.length).getD (((q.1.2.getD q.2 default)).toNat) default).getD m default)).toNat) default) < 0)) rfl (fun h4 => ?_) (fun h4 => ?_)
    ·
     refine T_seq (T_region hc (Ch.s (.row 7) pm (Ch.s (.d (.int .i64 (((adjTo n l l.length).getD (((q.1.2.getD q.2 default)).toNat) default).getD m default))) pm (Ch.s (.row 7) pm (Ch.s (.row 11) pm (Ch.s (.d (.int .i64 (q.2 : Int))) pm (Ch.s (.el 11 1 q.2 0) (.pure (.idxRow _ _ _ 3 (q.2) rfl Tryz.underlying55 sz3 rfl rfl rfl rfl a86)) ?_)))))))
     refine Ch.s (.d (.int .i64 (((relaxTo q.2 q.1.1 q.1.2 ((adjTo n l l.length).getD (q.1.2.getD q.2 default).toNat default) m).2).getD q.2 default))) (.pure (.loadEl1 _ _ rfl ag3 rfl rfl get_mapA rfl rfl rfl)) (Ch.s (.el 7 1 (((((relaxTo q.2 q.1.1 q.1.2 ((adjTo n l l.length).getD (q.1.2.getD q.2 default).toNat default) m).2).getD q.2 default)).toNat) 0) (.pure (.idxRow _ _ _ 3 (((((relaxTo q.2 q.1.1 q.1.2 ((adjTo n l l.length).getD (q.1.2.getD q.2 default).toNat default) m).2).getD q.2 default)).toNat) rfl Tryz.underlying55 sz3 rfl rfl rfl (by omega) a86)) (Ch.s (.d (.int .i64 (((relaxTo q.2 q.1.1 q.1.2 ((adjTo n l l.length).getD (q.1.2.getD q.2 default).toNat default) m).1).getD (((((relaxTo q.2 q.1.1 q.1.2 ((adjTo n l l.length).getD (q.1.2.getD q.2 default).toNat default) m).2).getD q.2 default)).toNat) default))) (.pure (.loadEl1 _ _ rfl ag3 rfl rfl get_mapA rfl rfl rfl)) (Ch.s (.d (.int .i64 ((((relaxTo q.2 q.1.1 q.1.2 ((adjTo n l l.length).getD (q.1.2.getD q.2 default).toNat default) m).1).getD (((((relaxTo q.2 q.1.1 q.1.2 ((adjTo n l l.length).getD (q.1.2.getD q.2 default).toNat default) m).2).getD q.2 default)).toNat) default) + 1))) (iX rfl rfl intV_addA) (Ch.s (.el 7 1 (((((adjTo n l l.length).getD (((q.1.2.getD q.2 default)).toNat) default).getD m default)).toNat) 0) (.pure (.idxRow _ _ _ 3 (((((adjTo n l l.length).getD (((q.1.2.getD q.2 default)).toNat) default).getD m default)).toNat) rfl Tryz.underlying55 sz3 rfl rfl rfl (by omega) a86)) (Ch.s .junk (.storeEl (y' := (.int .i64 ((((relaxTo q.2 q.1.1 q.1.2 ((adjTo n l l.length).getD (q.1.2.getD q.2 default).toNat default) m).1).getD (((((relaxTo q.2 q.1.1 q.1.2 ((adjTo n l l.length).getD (q.1.2.getD q.2 default).toNat default) m).2).getD q.2 default)).toNat) default) + 1))) _ _ _ rfl rfl rfl (.d _) rfl sz3 rfl get_mapA rfl rfl) (Ch.nil (T_region hc ?_)))))))
     refine Ch.s (.row 11) pm (Ch.s (.d (.int .i64 (((adjTo n l l.length).getD (((q.1.2.getD q.2 default)).toNat) default).getD m default))) pm (Ch.s (.row 81000) (.slice 81000 _ 3 _ rfl sty55 (xs := [.tmp 80]) rfl rfl (.cons (.d _) .nil) rfl rfl (by decide)) ?_))
     refine Ch.step (v := (.row 82000)) rfl (.append 82000 _ _ _ 3 rfl sty55 (by decide) (.rowK rfl) (.inr ⟨_, rfl, rfl⟩) (.row rfl rfl) rfl a56) rfl rfl ?_
     refine Ch.s (.row 82000) pa (Ch.nil (T_region hc (Ch.s (.d (.int .i64 ((m : Int) + 1))) (iX rfl rfl intV_addA) (Ch.s (.d (.int .i64 ((m : Int) + 1))) pm (Ch.nil ?_)))))
     exact nx (m + 1) (by omega) (Wk.ren [(11, 82000)] rfl rfl rfl rfl (ai rfl (ai rfl (ai rfl (ai rfl (ai rfl (ai rfl (ai (vI a114) trivial))))))) (ai (oR a50) (ai rfl (ai (oR a49) (ai rfl (ai rfl trivial))))))
    ·
     refine T_skip (T_region hc (Ch.s (.d (.int .i64 ((m : Int) + 1))) (iX rfl rfl intV_addA) (Ch.s (.d (.int .i64 ((m : Int) + 1))) pm (Ch.nil ?_))))
     exact nx (m + 1) (by omega) (Wk.of rfl rfl (ai rfl (ai rfl (ai rfl (ai rfl (ai rfl (ai rfl (ai (vI a114) trivial))))))) (ai (oR a50) (ai rfl (ai (oR a49) (ai rfl (ai rfl trivial))))))
   ·
    try have htm := hin _ (getD_mem (l := ((adjTo n l l.length).getD (q.1.2.getD q.2 default).toNat default)) (j := m) (d := default) (by omega))
    refine T_exit (T_region hc (Ch.s (.d (.int .i64 (q.2 : Int))) pm (Ch.s (.d (.int .i64 ((q.2 : Int) + 1))) (iX rfl rfl intV_addA) (Ch.s (.d (.int .i64 ((q.2 : Int) + 1))) pa (Ch.nil ?_)))))
    refine Exists.intro ((relaxTo q.2 q.1.1 q.1.2 ((adjTo n l l.length).getD (q.1.2.getD q.2 default).toNat default) (((adjTo n l l.length).getD (q.1.2.getD q.2 default).toNat default).length), q.2 + 1)) (And.intro (hp1.step (by omega) hl rfl) (And.intro (by dsimp only; omega) (Wk.trans (Wk.give 8 (((q.1.2.getD q.2 default)).toNat) 7000004 7000005 rfl (get_set a86) rfl rfl rfl (set_back (f := intsU) (by omega))) (Wk.of rfl rfl (ai rfl (ai rfl (ai rfl (ai (vI a114) trivial)))) (ai (oR a52) (ai rfl (ai (oR a65) trivial)))))))
  ·
   try have hqk := hp1.inv.qin _ (getD_mem (l := q.1.2) (j := q.2) (d := default) (by omega))
   try have hin := edges_in hl l.length (Nat.le_refl _) (q.1.2.getD q.2 default).toNat
   refine T_exit (T_seq (T_region hc (Ch.s (.row 7) pm (Ch.s (.row 7) pa (Ch.nil (T_ret ?_))))))
   exact endR [(.row 7)] [] [7] (.cons (.tmp 6 rfl) .nil) (.cons (.any _) (.cons (.any _) (.cons (.any _) .nil))) (Exp.of (congrArg (D.slice true 1) (by exact congrArg (List.map _) (hp1.done (by omega)))) (.row rfl)) rfl rfl

theorem sty193 : SlotTy Tryz.prog 193 212 2 16 := slotTy_mk (by kernel_rfl)

theorem stru212 : StructIs Tryz.prog 212 [.int .i64 0, .int .i64 0] [(0, 1), (1, 1)] := structIs_mk (by kernel_rfl) Tryz.underlying212 (by kernel_rfl)

theorem en217 : Enters Tryz.prog 217 := ⟨_, Tryz.func217, by kernel_rfl, rfl⟩

theorem fld107_0 : FieldIs Tryz.prog 107 0 0 1 false := FieldIs.mk Tryz.underlying107 rfl rfl sz3 ag3 rfl

theorem ag107 : AggIs Tryz.prog 107 true := by unfold AggIs; kernel_rfl

theorem sz107 : SizeIs Tryz.prog 107 2 := by unfold SizeIs; kernel_rfl

theorem stru107 : StructIs Tryz.prog 107 [.int .i64 0, .bool false] [(0, 1), (1, 1)] := structIs_mk (by kernel_rfl) Tryz.underlying107 (by kernel_rfl)

theorem eqa107 : ∀ (a0 : Int) (a1 : Bool) (b0 : Int) (b1 : Bool), EqA Tryz.prog 107 [.int .i64 a0, .bool a1] [.int .i64 b0, .bool b1] (decide (a0 = b0) && (decide (a1 = b1) && true)) := fun _ _ _ _ => ⟨_, Tryz.underlying107, Tryz.stoodInHeld107, Tryz.eqGuardType107, (.int (k2 := .i64) rfl Tryz.underlying3 rfl rfl rfl (.bool rfl Tryz.underlying4 rfl rfl .nil))⟩

theorem fld107_1 : FieldIs Tryz.prog 107 1 1 1 false := FieldIs.mk Tryz.underlying107 rfl rfl sz4 ag4 rfl

theorem en186 : Enters Tryz.prog 186 := ⟨_, Tryz.func186, by kernel_rfl, rfl⟩

theorem en187 : Enters Tryz.prog 187 := ⟨_, Tryz.func187, by kernel_rfl, rfl⟩

theorem en188 : Enters Tryz.prog 188 := ⟨_, Tryz.func188, by kernel_rfl, rfl⟩

theorem en189 : Enters Tryz.prog 189 := ⟨_, Tryz.func189, by kernel_rfl, rfl⟩

theorem en191 : Enters Tryz.prog 191 := ⟨_, Tryz.func191, by kernel_rfl, rfl⟩

theorem en190 : Enters Tryz.prog 190 := ⟨_, Tryz.func190, by kernel_rfl, rfl⟩

theorem en160 : Enters Tryz.prog 160 := ⟨_, Tryz.func160, by kernel_rfl, rfl⟩

theorem en219 : Enters Tryz.prog 219 := ⟨_, Tryz.func219, by kernel_rfl, rfl⟩

theorem en214 : Enters Tryz.prog 214 := ⟨_, Tryz.func214, by kernel_rfl, rfl⟩

theorem zr4 : (Tryz.prog.info? 4).bind (·.zero) = some (.bool false) := by kernel_rfl

theorem sty146 : SlotTy Tryz.prog 146 4 1 1 := slotTy_mk (by kernel_rfl)

theorem en162 : Enters Tryz.prog 162 := ⟨_, Tryz.func162, by kernel_rfl, rfl⟩

theorem en164 : Enters Tryz.prog 164 := ⟨_, Tryz.func164, by kernel_rfl, rfl⟩

theorem en165 : Enters Tryz.prog 165 := ⟨_, Tryz.func165, by kernel_rfl, rfl⟩

def stepsOf (l : List Arc) : List Stp := l.map fun a => Stp.mk a.src a.dst

theorem steps_take {l : List Arc} {k : Nat} (hk : k < l.length) : stepsOf (l.take k) ++ [Stp.mk (l.getD k default).src (l.getD k default).dst] = stepsOf (l.take (k + 1)) := by
 unfold stepsOf; rw [List.take_succ_eq_append_getElem hk, List.map_append]; simp [hk]

theorem sp_impl_arcSteps (l : List Arc) (hn : l.length ≤ 1048576) : Sp Tryz.prog 191 [(.slice false 4 (l.map Arc.d))] [.any] (.slice true 2 ((stepsOf l).map Stp.d)) := by
 refine Sp_intro (lend := true) Tryz.func191 rfl rfl rfl (fun _ => rfl) (fun c hc hX => ?_)
 refine T_seq (T_region hc (Ch.s (.c (.slice none 0 0)) pa (Ch.nil (T_seq (T_region hc (Ch.s (.row 6000) (.slice 6000 _ 212 _ rfl sty193 (xs := []) rfl rfl .nil rfl rfl (by decide)) (Ch.s (.row 6000) pa ?_)))))))
 refine Ch.nil (T_seq (T_seq (T_region hc (Ch.s (.d (.slice false 4 (l.map Arc.d))) pm (Ch.s (.d (.int .i64 (l.length : Int))) (.pure (.len _ _ 125 rfl Tryz.underlying33 (.sh _ _) (by simp))) (Ch.s (.d (.int .i64 0)) pm (Ch.nil ?_)))))))
 refine T_block ?_
 refine T_loop (ι := Nat) (fun k => { n := 23, sl := [(3, (.row 3)), (7, (.d (.slice false 4 (l.map Arc.d)))), (8, (.d (.int .i64 (l.length : Int)))), (9, (.d (.int .i64 (k : Int))))], hp := [(3, (some (.row 2 ((stepsOf (l.take k)).map Stp.d))))], pin := [] }) (fun k => k ≤ l.length) (fun k => l.length - k) ⟨0, (by omega), (Wk.ren [(3, 6000)] rfl rfl rfl rfl (ai rfl (ai rfl (ai rfl (ai (vI a114) trivial)))) (ai (oR a111) trivial))⟩ (fun k hp0 => ?_)
 have hq : (stepsOf (l.take k)).length = k := by simp [stepsOf]; omega
 refine T_seq (T_region hc (Ch.s (.d (.bool (decide ((k : Int) < (l.length : Int))))) (iX rfl rfl rfl) (Ch.nil (T_seq ?_))))
 refine T_condD (p := ((k : Int) < (l.length : Int))) rfl (fun h1 => ?_) (fun h1 => ?_)
 ·
  refine T_skip (T_seq (T_block (T_seq (T_region hc (Ch.s (.d (.ref (.agg [(.int .i64 ((l.getD k default).src)), (.int .i64 ((l.getD k default).sig)), (.bool ((l.getD k default).up)), (.int .i64 ((l.getD k default).dst))]))) (.pure (.idx _ _ _ 125 (k) rfl Tryz.underlying33 sz125 rfl rfl rfl get_mapA)) (Ch.s (.d (.agg [(.int .i64 ((l.getD k default).src)), (.int .i64 ((l.getD k default).sig)), (.bool ((l.getD k default).up)), (.int .i64 ((l.getD k default).dst))])) (.pure (.loadRefA _ _ rfl ag125 sz125 rfl)) (Ch.s (.ptr 5000 0) (.alloc 5000 _ rfl zer125) ?_)))))))
  refine Ch.s .junk (.storePtr _ _ _ rfl rfl rfl (.aggD _) sz125 (lb rfl)) (Ch.nil (T_region hc (Ch.s (.row 3) pm (Ch.s (.ptr 5000 0) (.pure (.fldPtr _ _ _ rfl fld125_0 rfl)) (Ch.s (.d (.int .i64 ((l.getD k default).src))) (.pure (.loadPtr1 _ _ rfl ag3 rfl rfl rfl)) (Ch.s (.ptr 5000 3) (.pure (.fldPtr _ _ _ rfl fld125_3 rfl)) (Ch.s (.d (.int .i64 ((l.getD k default).dst))) (.pure (.loadPtr1 _ _ rfl ag3 rfl rfl rfl)) ?_)))))))
  refine Ch.s (.agg [(.d (.int .i64 ((l.getD k default).src))), (.d (.int .i64 ((l.getD k default).dst)))]) (.build _ _ rfl stru212 (.cons (.one _ rfl) (.cons (.one _ rfl) .nil)) rfl) (Ch.s (.row 19000) (.slice 19000 _ 212 _ rfl sty193 (xs := [.tmp 18]) rfl rfl (.cons (.agg (.cons (.d _) (.cons (.d _) .nil)) rfl) .nil) rfl rfl (by decide)) ?_)
  refine Ch.step (v := (.row 20000)) rfl (.append 20000 _ _ _ 212 rfl sty193 (by decide) (.rowK rfl) (.inr ⟨_, rfl, rfl⟩) (.row rfl rfl) rfl a56) rfl rfl ?_
  refine Ch.s (.row 20000) pa (Ch.nil (T_region hc (Ch.s (.d (.int .i64 ((k : Int) + 1))) (iX rfl rfl intV_addA) (Ch.s (.d (.int .i64 ((k : Int) + 1))) pm (Ch.nil ?_)))))
  exact nx (k + 1) (by omega) (Wk.ren [(3, 20000)] rfl rfl rfl rfl (ai rfl (ai rfl (ai rfl (ai (vI a114) trivial)))) (ai (oR a111) trivial))
 ·
  refine T_exit (T_seq (T_region hc (Ch.s (.row 3) pm (Ch.s (.row 3) pa (Ch.nil (T_ret ?_))))))
  exact endR [(.row 3)] [] [3] (.cons (.tmp 2 rfl) .nil) (.cons (.any _) .nil) (Exp.of (congrArg (D.slice true 2) (by rw [List.take_of_length_le (by omega)])) (.row rfl)) rfl rfl

def hasI (xs : List Int) (v : Int) : Bool := xs.any fun a => decide (a = v)

theorem sp_Index_int (xs : List Int) (v : Int) (hn : xs.length ≤ 1048576) : Sp Tryz.prog 217 [(.slice false 1 (xs.map (fun n : Int => D.int .i64 n))), (.int .i64 v)] [.any, .any] (.int .i64 (ixF (fun a => decide (a = v)) xs)) := by
 refine Sp_intro (lend := true) Tryz.func217 rfl rfl rfl (fun _ => rfl) (fun c hc hX => ?_)
 refine T_seq (T_region hc (Ch.s (.d (.int .i64 0)) pa (Ch.nil (T_seq (T_seq (T_region hc (Ch.s (.d (.slice false 1 (xs.map (fun n : Int => D.int .i64 n)))) pm ?_)))))))
 refine Ch.s (.d (.int .i64 (xs.length : Int))) (.pure (.len _ _ 3 rfl Tryz.underlying55 (.sh _ _) (by simp))) (Ch.s (.d (.int .i64 0)) pm (Ch.nil (T_block ?_)))
 refine T_loop (ι := Nat) (fun k => { n := 19, sl := [(0, (.d (.slice false 1 (xs.map (fun n : Int => D.int .i64 n))))), (1, (.d (.int .i64 v))), (7, (.d (.int .i64 (xs.length : Int)))), (8, (.d (.int .i64 (k : Int))))], hp := [], pin := [] }) (fun k => k ≤ xs.length ∧ ∀ j, j < k → decide (xs.getD j default = v) = false) (fun k => xs.length - k) ⟨0, ⟨by omega, fun j hj => by omega⟩, (Wk.of rfl rfl (ai rfl (ai rfl (ai rfl (ai (vI a114) trivial)))) trivial)⟩ (fun k hp0 => ?_)
 refine T_seq (T_region hc (Ch.s (.d (.bool (decide ((k : Int) < (xs.length : Int))))) (iX rfl rfl rfl) (Ch.nil (T_seq ?_))))
 refine T_condD (p := ((k : Int) < (xs.length : Int))) rfl (fun h1 => ?_) (fun h1 => ?_)
 ·
  refine T_skip (T_seq (T_block (T_seq (T_region hc (Ch.s (.d (.int .i64 (k : Int))) pm (Ch.s (.d (.int .i64 (k : Int))) pa (Ch.nil ?_)))))))
  refine T_seq (T_region hc (Ch.s (.d (.int .i64 v)) pm (Ch.s (.d (.slice false 1 (xs.map (fun n : Int => D.int .i64 n)))) pm (Ch.s (.d (.int .i64 (k : Int))) pm (Ch.s (.d (.ref (.int .i64 (xs.getD k default)))) (.pure (.idx _ _ _ 3 (k) rfl Tryz.underlying55 sz3 rfl rfl rfl get_mapA)) (Ch.s (.d (.int .i64 (xs.getD k default))) (.pure (.loadRef1 _ _ rfl ag3 rfl rfl)) (Ch.s (.d (.bool (decide (v = (xs.getD k default))))) (iX rfl rfl rfl) ?_)))))))
  refine Ch.nil ?_
  refine T_condD (p := (v = (xs.getD k default))) rfl (fun h2 => ?_) (fun h2 => ?_)
  ·
   refine T_seq (T_region hc (Ch.s (.d (.int .i64 (k : Int))) pm (Ch.s (.d (.int .i64 (k : Int))) pa (Ch.nil (T_ret ?_)))))
   exact endR [(.d (.int .i64 (k : Int)))] [] [] (.cons (.tmp 4 rfl) .nil) (.cons (.any _) (.cons (.any _) .nil)) (Exp.of (congrArg (D.int .i64) (by exact (ixF_some (d := default) (by omega) hp0.2 (by first | (exact decide_eq_true h2.symm) | (exact decide_eq_true h2))).symm)) (.d _)) rfl rfl
  ·
   refine T_skip (T_region hc (Ch.s (.d (.int .i64 ((k : Int) + 1))) (iX rfl rfl intV_addA) (Ch.s (.d (.int .i64 ((k : Int) + 1))) pm (Ch.nil ?_))))
   exact nx (k + 1) ⟨by omega, upto_succ hp0.2 (by first | (exact decide_eq_false (fun e => h2 e.symm)) | (exact decide_eq_false h2))⟩ (Wk.of rfl rfl (ai rfl (ai rfl (ai rfl (ai (vI a114) trivial)))) trivial)
 ·
  refine T_exit (T_seq (T_region hc (Ch.s (.d (.int .i64 (-1))) pa (Ch.nil (T_ret ?_)))))
  exact endR [(.d (.int .i64 (-1)))] [] [] (.cons (.tmp 4 rfl) .nil) (.cons (.any _) (.cons (.any _) .nil)) (Exp.of (congrArg (D.int .i64) a97) (.d _)) rfl rfl

theorem sp_Contains_int (xs : List Int) (v : Int) (hn : xs.length ≤ 1048576) : Sp Tryz.prog 160 [(.slice false 1 (xs.map (fun n : Int => D.int .i64 n))), (.int .i64 v)] [.any, .any] (.bool (hasI xs v)) := by
 refine Sp_intro (lend := true) Tryz.func160 rfl rfl rfl (fun _ => rfl) (fun c hc hX => ?_)
 refine T_seq (T_region hc (Ch.s (.d (.bool false)) pa (Ch.nil (T_seq (T_region hc (Ch.s (.d (.slice false 1 (xs.map (fun n : Int => D.int .i64 n)))) pm (Ch.s (.d (.int .i64 v)) pm ?_)))))))
 refine Ch.s (.d (.int .i64 (ixF (fun a => decide (a = v)) xs))) (.call 7000 217 _ _ _ en217 rfl (.inl rfl) (.cons (.d _) (.cons (.d _) .nil)) rfl rfl (sp_Index_int xs v a39) (.skip _ _ (.skip _ _ .nil)) rfl) (Ch.s (.d (.bool (decide (0 ≤ (ixF (fun a => decide (a = v)) xs))))) (iX rfl rfl rfl) (Ch.s (.d (.bool (decide (0 ≤ (ixF (fun a => decide (a = v)) xs))))) pa (Ch.nil (T_ret ?_))))
 exact endR [(.d (.bool (decide (0 ≤ (ixF (fun a => decide (a = v)) xs)))))] [] [] (.cons (.tmp 4 rfl) .nil) (.cons (.any _) (.cons (.any _) .nil)) (Exp.of (congrArg D.bool (by exact ixF_nonneg _ xs)) (.d _)) rfl rfl

theorem sp_impl_isBits (u : List UInt8) (n : Int) (hs : u.length ≤ 1048576) : Sp Tryz.prog 187 [(.str u), (.int .i64 n)] [.any, .any] (.bool (codeN u n)) := by
 refine Sp_intro (lend := true) Tryz.func187 rfl rfl rfl (fun _ => rfl) (fun c hc hX => ?_)
 refine T_seq (T_region hc (Ch.s (.d (.bool false)) pa (Ch.nil (T_seq (T_seq (T_region hc (Ch.s (.d (.int .i64 0)) pa ?_)))))))
 refine Ch.nil (T_block ?_)
 refine T_loop (ι := Nat) (fun k => { n := 26, sl := [(0, (.d (.str u))), (1, (.d (.int .i64 n))), (5, (.d (.int .i64 (k : Int))))], hp := [], pin := [] }) (fun k => k ≤ u.length ∧ ∀ j, j < k → codeCh (u.getD j 0) = true) (fun k => u.length - k) ⟨0, ⟨by omega, fun j hj => by omega⟩, (Wk.of rfl rfl (ai rfl (ai rfl (ai (vI a114) trivial))) trivial)⟩ (fun k hp0 => ?_)
 refine T_seq (T_seq (T_region hc (Ch.s (.d (.int .i64 (k : Int))) pm (Ch.s (.d (.str u)) pm (Ch.s (.d (.int .i64 (u.length : Int))) (.pure (.lenStr _ _ rfl Tryz.underlying9 rfl)) (Ch.s (.d (.bool (decide ((k : Int) < (u.length : Int))))) (iX rfl rfl rfl) (Ch.nil ?_)))))))
 refine T_condD (p := ((k : Int) < (u.length : Int))) rfl (fun h1 => ?_) (fun h1 => ?_)
 ·
  refine T_skip (T_seq (T_block (T_seq (T_region hc (Ch.s (.d (.str u)) pm (Ch.s (.d (.int .i64 (k : Int))) pm (Ch.s (.d (.int .u8 ((u.getD k 0).toNat : Int))) (.pure (.idxStr _ _ _ (k) rfl Tryz.underlying9 rfl rfl rfl get_strA)) ?_)))))))
  refine Ch.s (.d (.bool (!(decide (((u.getD k 0) : UInt8) = 48))))) (iX rfl rfl (u8_neq ((u.getD k 0) : UInt8) 48 rfl rfl)) (Ch.s (.d (.bool (!(decide (((u.getD k 0) : UInt8) = 48))))) pm ?_)
  cases h2 : (decide (((u.getD k 0) : UInt8) = 48)) with
  | true =>
   replace h2 := of_decide_eq_true h2
   refine Ch.skip rfl rfl (Ch.skip rfl rfl (Ch.skip rfl rfl (Ch.skip rfl rfl (Ch.s (.d (.bool false)) (.pure (.pickF _ _ _ rfl rfl rfl)) (Ch.nil ?_)))))
   refine T_cond (b := false) rfl (fun h => nomatch h) (fun _ => ?_)
   refine T_skip (T_region hc (Ch.s (.d (.int .i64 (k : Int))) pm (Ch.s (.d (.int .i64 ((k : Int) + 1))) (iX rfl rfl intV_addA) (Ch.s (.d (.int .i64 ((k : Int) + 1))) pa (Ch.nil ?_)))))
   exact nx (k + 1) ⟨by omega, upto_succ hp0.2 (by simp_all [codeCh])⟩ (Wk.of rfl rfl (ai rfl (ai rfl (ai (vI a114) trivial))) trivial)
  | false =>
   replace h2 := of_decide_eq_false h2
   refine Ch.s (.d (.str u)) pm (Ch.s (.d (.int .i64 (k : Int))) pm (Ch.s (.d (.int .u8 ((u.getD k 0).toNat : Int))) (.pure (.idxStr _ _ _ (k) rfl Tryz.underlying9 rfl rfl rfl get_strA)) (Ch.s (.d (.bool (!(decide (((u.getD k 0) : UInt8) = 49))))) (iX rfl rfl (u8_neq ((u.getD k 0) : UInt8) 49 rfl rfl)) (Ch.s (.d (.bool (!(decide (((u.getD k 0) : UInt8) = 49))))) (.pure (.pickT _ _ _ rfl rfl rfl)) (Ch.nil ?_)))))
   refine T_condN (b := (decide (((u.getD k 0) : UInt8) = 49))) rfl (fun h3 => ?_) (fun h3 => ?_)
   ·
    replace h3 := of_decide_eq_false h3
    refine T_seq (T_region hc (Ch.s (.d (.bool false)) pa (Ch.nil (T_ret ?_))))
    exact endR [(.d (.bool false))] [] [] (.cons (.tmp 4 rfl) .nil) (.cons (.any _) (.cons (.any _) .nil)) (Exp.of (congrArg D.bool a53) (.d _)) rfl rfl
   ·
    replace h3 := of_decide_eq_true h3
    refine T_skip (T_region hc (Ch.s (.d (.int .i64 (k : Int))) pm (Ch.s (.d (.int .i64 ((k : Int) + 1))) (iX rfl rfl intV_addA) (Ch.s (.d (.int .i64 ((k : Int) + 1))) pa (Ch.nil ?_)))))
    exact nx (k + 1) ⟨by omega, upto_succ hp0.2 (by simp_all [codeCh])⟩ (Wk.of rfl rfl (ai rfl (ai rfl (ai (vI a114) trivial))) trivial)
 ·
  refine T_exit (T_seq (T_region hc (Ch.s (.d (.str u)) pm (Ch.s (.d (.int .i64 (u.length : Int))) (.pure (.lenStr _ _ rfl Tryz.underlying9 rfl)) (Ch.s (.d (.int .i64 n)) pm (Ch.s (.d (.bool (decide ((u.length : Int) = n)))) (iX rfl rfl rfl) (Ch.s (.d (.bool (decide ((u.length : Int) = n)))) pa ?_)))))))
  refine Ch.nil (T_ret ?_)
  exact endR [(.d (.bool (decide ((u.length : Int) = n))))] [] [] (.cons (.tmp 4 rfl) .nil) (.cons (.any _) (.cons (.any _) .nil)) (Exp.of (congrArg D.bool a53) (.d _)) rfl rfl

def edgeB (l : Lab) (n : Int) : Bool := withinB l.sig 0 (n - 1) || (decide (l.sig = -1) && !l.up)

theorem lab_eq (l : Lab) : decide (l = Lab.mk (-1) false) = (decide (l.sig = -1) && !l.up) := by
  cases l; rename_i a b; cases b <;> simp

theorem sp_impl_isEdge (l : Lab) (n : Int) (hn0 : 0 ≤ n) (hn : n ≤ 1048576) : Sp Tryz.prog 188 [(.agg [(.int .i64 l.sig), (.bool (l.up))]), (.int .i64 n)] [.any, .any] (.bool (edgeB l n)) := by
 refine Sp_intro (lend := true) Tryz.func188 rfl rfl rfl (fun _ => rfl) (fun c hc hX => ?_)
 refine T_seq (T_region hc (Ch.s (.ptr 2000 0) (.box 2000 _ _ rfl (.aggD _)) (Ch.s (.d (.bool false)) pa (Ch.nil (T_seq (T_region hc (Ch.s (.ptr 2000 0) (.pure (.fldPtr _ _ _ rfl fld107_0 rfl)) ?_)))))))
 refine Ch.s (.d (.int .i64 l.sig)) (.pure (.loadPtr1 _ _ rfl ag3 rfl rfl rfl)) (Ch.s (.d (.int .i64 n)) pm (Ch.s (.d (.int .i64 (n - 1))) (iX rfl rfl intV_subA) (Ch.s (.d (.bool (withinB l.sig 0 (n - 1)))) (.call 9000 91 _ _ _ en91 rfl (.inl rfl) (.cons (.d _) (.cons (.d _) (.cons (.d _) .nil))) rfl rfl (sp_impl_within l.sig 0 (n - 1)) (.skip _ _ (.skip _ _ (.skip _ _ .nil))) rfl) (Ch.s (.d (.bool (withinB l.sig 0 (n - 1)))) pm ?_))))
 cases h1 : (withinB l.sig 0 (n - 1)) with
 | true =>
  refine Ch.skip rfl rfl (Ch.skip rfl rfl (Ch.skip rfl rfl (Ch.s (.d (.bool true)) (.pure (.pickT _ _ _ rfl rfl rfl)) (Ch.s (.d (.bool true)) pa (Ch.nil (T_ret ?_))))))
  exact endR [(.d (.bool true))] [] [] (.cons (.tmp 4 rfl) .nil) (.cons (.any _) (.cons (.any _) .nil)) (Exp.of (congrArg D.bool a88) (.d _)) rfl rfl
 | false =>
  refine Ch.s (.agg [(.d (.int .i64 l.sig)), (.d (.bool (l.up)))]) (.pure (.loadPtrA _ _ rfl ag107 sz107 rfl rfl (lb rfl) rfl)) (Ch.s (.agg [(.d (.int .i64 (-1))), (.d (.bool false))]) (.build _ _ rfl stru107 (.cons (.one _ rfl) .nil) rfl) (Ch.s (.d (.bool (decide (l = (Lab.mk (-1) false))))) (.pure (.eqA _ _ _ _ rfl (eqa107 _ _ _ _) (.v [(.int .i64 l.sig), (.bool (l.up))]) (.v [(.int .i64 (-1)), (.bool false)]) (Lab.eqv l (Lab.mk (-1) false)))) (Ch.s (.d (.bool (decide (l = (Lab.mk (-1) false))))) (.pure (.pickF _ _ _ rfl rfl rfl)) (Ch.s (.d (.bool (decide (l = (Lab.mk (-1) false))))) pa (Ch.nil (T_ret ?_))))))
  exact endR [(.d (.bool (decide (l = (Lab.mk (-1) false)))))] [] [] (.cons (.tmp 4 rfl) .nil) (.cons (.any _) (.cons (.any _) .nil)) (Exp.of (congrArg D.bool a88) (.d _)) rfl rfl

theorem sp_spec_l2Label (l : Lab) (n : Int) (hn0 : 0 ≤ n) (hn : n ≤ 1048576) : Sp Tryz.prog 219 [(.agg [(.int .i64 l.sig), (.bool (l.up))]), (.int .i64 n)] [.any, .any] (.bool (edgeB l n)) := by
 refine Sp_intro (lend := true) Tryz.func219 rfl rfl rfl (fun _ => rfl) (fun c hc hX => ?_)
 refine T_seq (T_region hc (Ch.s (.ptr 2000 0) (.box 2000 _ _ rfl (.aggD _)) (Ch.s (.d (.bool false)) pa (Ch.nil (T_seq (T_region hc (Ch.s (.ptr 2000 0) (.pure (.fldPtr _ _ _ rfl fld107_0 rfl)) ?_)))))))
 refine Ch.s (.d (.int .i64 l.sig)) (.pure (.loadPtr1 _ _ rfl ag3 rfl rfl rfl)) (Ch.s (.d (.int .i64 n)) pm (Ch.s (.d (.int .i64 (n - 1))) (iX rfl rfl intV_subA) (Ch.s (.d (.bool (withinB l.sig 0 (n - 1)))) (.call 9000 89 _ _ _ en89 rfl (.inl rfl) (.cons (.d _) (.cons (.d _) (.cons (.d _) .nil))) rfl rfl (sp_spec_l1In l.sig 0 (n - 1)) (.skip _ _ (.skip _ _ (.skip _ _ .nil))) rfl) (Ch.s (.d (.bool (withinB l.sig 0 (n - 1)))) pm ?_))))
 cases h1 : (withinB l.sig 0 (n - 1)) with
 | true =>
  refine Ch.skip rfl rfl (Ch.skip rfl rfl (Ch.skip rfl rfl (Ch.skip rfl rfl (Ch.skip rfl rfl (Ch.skip rfl rfl (Ch.skip rfl rfl (Ch.skip rfl rfl ?_)))))))
  refine Ch.s (.d (.bool true)) (.pure (.pickT _ _ _ rfl rfl rfl)) (Ch.s (.d (.bool true)) pa (Ch.nil (T_ret ?_)))
  exact endR [(.d (.bool true))] [] [] (.cons (.tmp 4 rfl) .nil) (.cons (.any _) (.cons (.any _) .nil)) (Exp.of (congrArg D.bool a88) (.d _)) rfl rfl
 | false =>
  refine Ch.s (.ptr 2000 0) (.pure (.fldPtr _ _ _ rfl fld107_0 rfl)) (Ch.s (.d (.int .i64 l.sig)) (.pure (.loadPtr1 _ _ rfl ag3 rfl rfl rfl)) (Ch.s (.d (.bool (decide (l.sig = (-1))))) (iX rfl rfl rfl) (Ch.s (.d (.bool (decide (l.sig = (-1))))) pm ?_)))
  cases h2 : (decide (l.sig = (-1))) with
  | true =>
   replace h2 := of_decide_eq_true h2
   refine Ch.s (.ptr 2000 1) (.pure (.fldPtr _ _ _ rfl fld107_1 rfl)) (Ch.s (.d (.bool (l.up))) (.pure (.loadPtr1 _ _ rfl ag4 rfl rfl rfl)) (Ch.s (.d (.bool (!(l.up)))) (.pure (.not _ _ rfl rfl)) (Ch.s (.d (.bool (!(l.up)))) (.pure (.pickT _ _ _ rfl rfl rfl)) (Ch.s (.d (.bool (!(l.up)))) (.pure (.pickF _ _ _ rfl rfl rfl)) (Ch.s (.d (.bool (!(l.up)))) pa (Ch.nil (T_ret ?_)))))))
   exact endR [(.d (.bool (!(l.up))))] [] [] (.cons (.tmp 4 rfl) .nil) (.cons (.any _) (.cons (.any _) .nil)) (Exp.of (congrArg D.bool a88) (.d _)) rfl rfl
  | false =>
   replace h2 := of_decide_eq_false h2
   refine Ch.skip rfl rfl (Ch.skip rfl rfl (Ch.skip rfl rfl (Ch.s (.d (.bool false)) (.pure (.pickF _ _ _ rfl rfl rfl)) (Ch.s (.d (.bool false)) (.pure (.pickF _ _ _ rfl rfl rfl)) (Ch.s (.d (.bool false)) pa (Ch.nil (T_ret ?_)))))))
   exact endR [(.d (.bool false))] [] [] (.cons (.tmp 4 rfl) .nil) (.cons (.any _) (.cons (.any _) .nil)) (Exp.of (congrArg D.bool a88) (.d _)) rfl rfl

def fitCh (a : Arc) (u v : List UInt8) (j : Nat) : Bool := if (j : Int) = a.sig then !decide (decide (u.getD j 0 = 49) = a.up) && decide (decide (v.getD j 0 = 49) = a.up) else decide (u.getD j 0 = v.getD j 0)

def fitB (a : Arc) (u v : List UInt8) : Bool := allB u.length (fitCh a u v)

theorem sp_impl_fitsCodes (a : Arc) (u v : List UInt8) (hu : u.length ≤ 1048576) (hv : v.length = u.length) : Sp Tryz.prog 189 [(.agg [(.int .i64 a.src), (.int .i64 a.sig), (.bool (a.up)), (.int .i64 a.dst)]), (.str u), (.str v)] [.any, .any, .any] (.bool (fitB a u v)) := by
 refine Sp_intro (lend := true) Tryz.func189 rfl rfl rfl (fun _ => rfl) (fun c hc hX => ?_)
 refine T_seq (T_region hc (Ch.s (.ptr 3000 0) (.box 3000 _ _ rfl (.aggD _)) (Ch.s (.d (.bool false)) pa (Ch.nil (T_seq (T_seq (T_region hc ?_)))))))
 refine Ch.s (.d (.str u)) pm (Ch.s (.d (.int .i64 (u.length : Int))) (.pure (.lenStr _ _ rfl Tryz.underlying9 rfl)) (Ch.s (.d (.int .i64 0)) pm (Ch.nil (T_block ?_))))
 refine T_loop (ι := Nat) (fun k => { n := 43, sl := [(1, (.d (.str u))), (2, (.d (.str v))), (3, (.ptr 3000 0)), (9, (.d (.int .i64 (u.length : Int)))), (10, (.d (.int .i64 (k : Int))))], hp := [(3000, (some (.box [(.d (.int .i64 a.src)), (.d (.int .i64 a.sig)), (.d (.bool (a.up))), (.d (.int .i64 a.dst))])))], pin := [] }) (fun k => k ≤ u.length ∧ ∀ j, j < k → fitCh a u v j = true) (fun k => u.length - k) ⟨0, ⟨by omega, fun j hj => by omega⟩, (Wk.of rfl rfl (ai rfl (ai rfl (ai rfl (ai rfl (ai (vI a114) trivial))))) (ai rfl trivial))⟩ (fun k hp0 => ?_)
 refine T_seq (T_region hc (Ch.s (.d (.bool (decide ((k : Int) < (u.length : Int))))) (iX rfl rfl rfl) (Ch.nil (T_seq ?_))))
 refine T_condD (p := ((k : Int) < (u.length : Int))) rfl (fun h1 => ?_) (fun h1 => ?_)
 ·
  refine T_skip (T_seq (T_block (T_seq (T_region hc (Ch.s (.d (.int .i64 (k : Int))) pm (Ch.s (.d (.int .i64 (k : Int))) pa (Ch.nil ?_)))))))
  refine T_block (T_seq (T_region hc (Ch.s (.d (.int .i64 (k : Int))) pm (Ch.s (.ptr 3000 1) (.pure (.fldPtr _ _ _ rfl fld125_1 rfl)) (Ch.s (.d (.int .i64 a.sig)) (.pure (.loadPtr1 _ _ rfl ag3 rfl rfl rfl)) (Ch.s (.d (.bool (!(decide ((k : Int) = a.sig))))) (iX rfl rfl rfl) (Ch.s (.d (.bool (!(decide ((k : Int) = a.sig))))) pa ?_)))))))
  refine Ch.nil ?_
  refine T_condN (b := (decide ((k : Int) = a.sig))) rfl (fun h2 => ?_) (fun h2 => ?_)
  ·
   replace h2 := of_decide_eq_false h2
   refine T_seq ?_
   refine T_regionD hc (by kernel_rfl) ?_
   refine ChD.s (.d (.str u)) [] pm (ChD.s (.d (.int .i64 (k : Int))) [] pm (ChD.s (.d (.int .u8 ((u.getD k 0).toNat : Int))) [] (.pure (.idxStr _ _ _ (k) rfl Tryz.underlying9 rfl rfl rfl get_strA)) (ChD.s (.d (.str v)) [] pm (ChD.s (.d (.int .i64 (k : Int))) [] pm (ChD.s (.d (.int .u8 ((v.getD k 0).toNat : Int))) [] (.pure (.idxStr _ _ _ (k) rfl Tryz.underlying9 rfl rfl rfl get_strA)) (ChD.s (.d (.bool (!(decide (((u.getD k 0) : UInt8) = (v.getD k 0)))))) [] (iX rfl rfl (u8_neq ((u.getD k 0) : UInt8) (v.getD k 0) rfl rfl)) ?_))))))
   refine ChD.nil (And.intro ?_ (by kernel_rfl))
   refine T_condN (b := (decide (((u.getD k 0) : UInt8) = (v.getD k 0)))) rfl (fun h3 => ?_) (fun h3 => ?_)
   ·
    replace h3 := of_decide_eq_false h3
    refine T_seq (T_region hc (Ch.s (.d (.bool false)) pa (Ch.nil (T_ret ?_))))
    exact endR [(.d (.bool false))] [] [] (.cons (.tmp 6 rfl) .nil) (.cons (.any _) (.cons (.any _) (.cons (.any _) .nil))) (Exp.of (congrArg D.bool a19) (.d _)) rfl rfl
   ·
    replace h3 := of_decide_eq_true h3
    refine T_skip (T_region hc (Ch.s (.d (.int .i64 ((k : Int) + 1))) (iX rfl rfl intV_addA) (Ch.s (.d (.int .i64 ((k : Int) + 1))) pm (Ch.nil ?_))))
    exact nx (k + 1) ⟨by omega, upto_succ hp0.2 a32⟩ (Wk.of rfl rfl (ai rfl (ai rfl (ai rfl (ai rfl (ai (vI a114) trivial))))) (ai rfl trivial))
  ·
   replace h2 := of_decide_eq_true h2
   refine T_seq ?_
   refine T_regionD hc (by kernel_rfl) ?_
   refine ChD.s (.d (.str u)) [] pm (ChD.s (.d (.int .i64 (k : Int))) [] pm (ChD.s (.d (.int .u8 ((u.getD k 0).toNat : Int))) [] (.pure (.idxStr _ _ _ (k) rfl Tryz.underlying9 rfl rfl rfl get_strA)) (ChD.s (.d (.bool (decide (((u.getD k 0) : UInt8) = 49)))) [] (iX rfl rfl (u8_eql ((u.getD k 0) : UInt8) 49 rfl rfl)) (ChD.s (.ptr 3000 2) [] (.pure (.fldPtr _ _ _ rfl fld125_2 rfl)) (ChD.s (.d (.bool (a.up))) [3000] (.pure (.loadPtr1 _ _ rfl ag4 rfl rfl rfl)) (ChD.s (.d (.bool (decide ((decide (((u.getD k 0) : UInt8) = 49)) = (a.up))))) [] (.pure (.eqB _ _ _ _ rfl Tryz.underlying4 rfl rfl)) (ChD.s (.d (.bool (decide ((decide (((u.getD k 0) : UInt8) = 49)) = (a.up))))) [] pm ?_)))))))
   cases h4 : (decide ((decide (((u.getD k 0) : UInt8) = 49)) = (a.up))) with
   | true =>
    replace h4 := of_decide_eq_true h4
    refine ChD.skip rfl rfl (ChD.skip rfl rfl (ChD.skip rfl rfl (ChD.skip rfl rfl (ChD.skip rfl rfl (ChD.skip rfl rfl (ChD.skip rfl rfl (ChD.s (.d (.bool true)) [] (.pure (.pickT _ _ _ rfl rfl rfl)) ?_)))))))
    refine ChD.s (.d (.bool true)) [] pa ?_
    refine ChD.nil (And.intro ?_ (by kernel_rfl))
    refine T_cond (b := true) rfl (fun _ => ?_) (fun h => nomatch h)
    refine T_seq (T_region hc (Ch.s (.d (.bool false)) pa (Ch.nil (T_ret ?_))))
    exact endR [(.d (.bool false))] [] [] (.cons (.tmp 6 rfl) .nil) (.cons (.any _) (.cons (.any _) (.cons (.any _) .nil))) (Exp.of (congrArg D.bool a19) (.d _)) rfl rfl
   | false =>
    replace h4 := of_decide_eq_false h4
    refine ChD.s (.d (.str v)) [] pm (ChD.s (.d (.int .i64 (k : Int))) [] pm (ChD.s (.d (.int .u8 ((v.getD k 0).toNat : Int))) [] (.pure (.idxStr _ _ _ (k) rfl Tryz.underlying9 rfl rfl rfl get_strA)) (ChD.s (.d (.bool (decide (((v.getD k 0) : UInt8) = 49)))) [] (iX rfl rfl (u8_eql ((v.getD k 0) : UInt8) 49 rfl rfl)) (ChD.s (.ptr 3000 2) [] (.pure (.fldPtr _ _ _ rfl fld125_2 rfl)) (ChD.s (.d (.bool (a.up))) [3000] (.pure (.loadPtr1 _ _ rfl ag4 rfl rfl rfl)) (ChD.s (.d (.bool (!(decide ((decide (((v.getD k 0) : UInt8) = 49)) = (a.up)))))) [] (.pure (.neB _ _ _ _ rfl Tryz.underlying4 rfl rfl)) (ChD.s (.d (.bool (!(decide ((decide (((v.getD k 0) : UInt8) = 49)) = (a.up)))))) [] (.pure (.pickF _ _ _ rfl rfl rfl)) ?_)))))))
    refine ChD.s (.d (.bool (!(decide ((decide (((v.getD k 0) : UInt8) = 49)) = (a.up)))))) [] pa ?_
    refine ChD.nil (And.intro ?_ (by kernel_rfl))
    refine T_condN (b := (decide ((decide (((v.getD k 0) : UInt8) = 49)) = (a.up)))) rfl (fun h5 => ?_) (fun h5 => ?_)
    ·
     replace h5 := of_decide_eq_false h5
     refine T_seq (T_region hc (Ch.s (.d (.bool false)) pa (Ch.nil (T_ret ?_))))
     exact endR [(.d (.bool false))] [] [] (.cons (.tmp 6 rfl) .nil) (.cons (.any _) (.cons (.any _) (.cons (.any _) .nil))) (Exp.of (congrArg D.bool a19) (.d _)) rfl rfl
    ·
     replace h5 := of_decide_eq_true h5
     refine T_skip (T_region hc (Ch.s (.d (.int .i64 ((k : Int) + 1))) (iX rfl rfl intV_addA) (Ch.s (.d (.int .i64 ((k : Int) + 1))) pm (Ch.nil ?_))))
     exact nx (k + 1) ⟨by omega, upto_succ hp0.2 a32⟩ (Wk.of rfl rfl (ai rfl (ai rfl (ai rfl (ai rfl (ai (vI a114) trivial))))) (ai rfl trivial))
 ·
  refine T_exit (T_seq (T_region hc (Ch.s (.d (.bool true)) pa (Ch.nil (T_ret ?_)))))
  exact endR [(.d (.bool true))] [] [] (.cons (.tmp 6 rfl) .nil) (.cons (.any _) (.cons (.any _) (.cons (.any _) .nil))) (Exp.of (congrArg D.bool a19) (.d _)) rfl rfl

inductive Rch (E : Int → Int → Prop) (S : Int → Prop) : Int → Prop
 | base {a : Int} : S a → Rch E S a
 | step {a b : Int} : Rch E S a → E a b → Rch E S b

theorem Rch.mono {E E' : Int → Int → Prop} {S S' : Int → Prop} (hE : ∀ a b, E a b → E' a b) (hS : ∀ a, S a → S' a) {a : Int} (h : Rch E S a) : Rch E' S' a := by
 induction h with
 | base h => exact .base (hS _ h)
 | step _ e ih => exact .step ih (hE _ _ e)

theorem Rch.ind {E : Int → Int → Prop} {S : Int → Prop} (P : Int → Prop) (h0 : ∀ a, S a → P a) (h1 : ∀ a b, P a → E a b → P b) {a : Int} (h : Rch E S a) : P a := by
 induction h with
 | base h => exact h0 _ h
 | step _ e ih => exact h1 _ _ ih e

structure Grow {σ ε : Type} (g : σ → ε → σ) (l : List ε) (size : σ → Nat) (ok : σ → Prop) (N : Nat) : Prop where
 keep : ∀ s e, e ∈ l → ok s → ok (g s e)
 more : ∀ s e, e ∈ l → ok s → size s ≤ size (g s e)
 same : ∀ s e, e ∈ l → ok s → size (g s e) ≤ size s → g s e = s
 top : ∀ s, ok s → size s ≤ N

theorem Grow.fold {σ ε : Type} {g : σ → ε → σ} {size : σ → Nat} {ok : σ → Prop} {N : Nat} : ∀ {l : List ε}, Grow g l size ok N → ∀ s, ok s → ok (l.foldl g s) ∧ size s ≤ size (l.foldl g s) ∧ (size (l.foldl g s) ≤ size s → l.foldl g s = s ∧ ∀ e ∈ l, g s e = s)
  | [], _, s, hs => ⟨hs, Nat.le_refl _, fun _ => ⟨rfl, fun e he => absurd he (List.not_mem_nil)⟩⟩
  | e :: l, h, s, hs => by
    have h' : Grow g l size ok N := ⟨fun s a ha => h.keep s a (List.mem_cons_of_mem _ ha), fun s a ha => h.more s a (List.mem_cons_of_mem _ ha), fun s a ha => h.same s a (List.mem_cons_of_mem _ ha), h.top⟩
    have h1 := h.keep s e (List.mem_cons_self) hs
    have h2 := h.more s e (List.mem_cons_self) hs
    obtain ⟨a, b, c⟩ := h'.fold (g s e) h1
    rw [List.foldl_cons]
    refine ⟨a, by omega, fun hle => ?_⟩
    obtain ⟨c1, c2⟩ := c (by omega)
    have e1 := h.same s e (List.mem_cons_self) hs (by rw [c1] at hle; exact hle)
    rw [e1] at c1 c2
    rw [e1]
    refine ⟨c1, fun x hx => ?_⟩
    rcases List.mem_cons.1 hx with rfl | hx
    · exact e1
    · exact c2 x hx

def itN {σ : Type} (f : σ → σ) : Nat → σ → σ
 | 0, s => s
 | k + 1, s => f (itN f k s)

theorem Grow.steps {σ ε : Type} {g : σ → ε → σ} {l : List ε} {size : σ → Nat} {ok : σ → Prop} {N : Nat} (h : Grow g l size ok N) {s : σ} (hs : ok s) : ∀ k, ok (itN (l.foldl g) k s) ∧ (k ≤ size (itN (l.foldl g) k s) ∨ ∀ e ∈ l, g (itN (l.foldl g) k s) e = itN (l.foldl g) k s)
  | 0 => ⟨hs, .inl (Nat.zero_le _)⟩
  | k + 1 => by
    obtain ⟨h1, h2⟩ := h.steps hs k
    obtain ⟨a, b, c⟩ := h.fold _ h1
    refine ⟨a, ?_⟩
    by_cases hle : size (l.foldl g (itN (l.foldl g) k s)) ≤ size (itN (l.foldl g) k s)
    · obtain ⟨c1, c2⟩ := c hle
      right
      show ∀ e ∈ l, g (l.foldl g (itN (l.foldl g) k s)) e = l.foldl g (itN (l.foldl g) k s)
      rw [c1]; exact c2
    · rcases h2 with h2 | h2
      · left
        show k + 1 ≤ size (l.foldl g (itN (l.foldl g) k s))
        omega
      · exfalso
        apply hle
        have : ∀ (l' : List ε) , (∀ e ∈ l', g (itN (l.foldl g) k s) e = itN (l.foldl g) k s) → l'.foldl g (itN (l.foldl g) k s) = itN (l.foldl g) k s := by
          intro l'
          induction l' with
          | nil => intro _; rfl
          | cons e l' ih =>
            intro hh
            rw [List.foldl_cons, hh e (List.mem_cons_self)]
            exact ih fun x hx => hh x (List.mem_cons_of_mem _ hx)
        rw [this l h2]; exact Nat.le_refl _

theorem Grow.fix {σ ε : Type} {g : σ → ε → σ} {l : List ε} {size : σ → Nat} {ok : σ → Prop} {N : Nat} (h : Grow g l size ok N) {s : σ} (hs : ok s) : ok (itN (l.foldl g) N s) ∧ ∀ e ∈ l, g (itN (l.foldl g) N s) e = itN (l.foldl g) N s := by
  obtain ⟨h1, h2⟩ := h.steps hs N
  refine ⟨h1, ?_⟩
  rcases h2 with h2 | h2
  · intro e he
    exact h.same _ e he h1 (by have := h.top _ (h.keep _ e he h1); omega)
  · exact h2

def markC (p : Arc → Bool) (m : List Bool) (a : Arc) : List Bool := if m.getD a.src.toNat default && p a then m.set a.dst.toNat true else m

def arcE (p : Arc → Bool) (l : List Arc) (a b : Int) : Prop := ∃ e ∈ l, e.src = a ∧ e.dst = b ∧ p e = true

def ends (n : Nat) (l : List Arc) : Prop := ∀ e ∈ l, (0 ≤ e.src ∧ e.src.toNat < n) ∧ (0 ≤ e.dst ∧ e.dst.toNat < n)

theorem getD_set {τ : Type} {d : τ} {l : List τ} {i j : Nat} {x : τ} : (l.set i x).getD j d = if i = j ∧ i < l.length then x else l.getD j d := by
  rw [List.getD_eq_getElem?_getD, List.getElem?_set]
  by_cases h : i = j
  · subst h
    by_cases h2 : i < l.length
    · simp [h2]
    · simp [h2]
  · simp [h]

theorem markC_size (p : Arc → Bool) (m : List Bool) (a : Arc) : m.count true ≤ (markC p m a).count true ∧ ((markC p m a).count true ≤ m.count true → markC p m a = m) := by
  unfold markC
  split
  · by_cases hd : a.dst.toNat < m.length
    · rw [List.count_set (h := hd)]
      by_cases hb : m[a.dst.toNat] = true
      · have hc : 0 < m.count true := List.count_pos_iff.2 (by rw [← hb]; exact List.getElem_mem hd)
        rw [hb]
        refine ⟨by simp; omega, fun _ => ?_⟩
        rw [← hb]; exact List.set_getElem_self hd
      · have hb' : m[a.dst.toNat] = false := by simpa using hb
        rw [hb']
        refine ⟨by simp, fun h => ?_⟩
        simp at h
        omega
    · rw [List.set_eq_of_length_le (by omega)]
      exact ⟨Nat.le_refl _, fun _ => rfl⟩
  · exact ⟨Nat.le_refl _, fun _ => rfl⟩

theorem markC_hit {p : Arc → Bool} {m : List Bool} {e : Arc} (h : m.getD e.src.toNat default = true) (hp : p e = true) (hd : e.dst.toNat < m.length) : (markC p m e).getD e.dst.toNat default = true := by
 unfold markC
 rw [h, hp, Bool.and_self, if_pos rfl, getD_set, if_pos ⟨rfl, hd⟩]

theorem markC_grow (p : Arc → Bool) {n : Nat} {l : List Arc} (hl : ends n l) (m0 : List Bool) :
    Grow (markC p) l (fun m => m.count true) (fun m => m.length = n ∧ (∀ j, m0.getD j default = true → m.getD j default = true) ∧ ∀ j : Nat, m.getD j default = true → Rch (arcE p l) (fun a => 0 ≤ a ∧ m0.getD a.toNat default = true) (j : Int)) n := by
  refine ⟨?_, fun s e _ _ => (markC_size p s e).1, fun s e _ _ => (markC_size p s e).2, fun s hs => by have := List.count_le_length (a := true) (l := s); omega⟩
  intro m e he ⟨h1, h2, h3⟩
  unfold markC
  split
  · rename_i hc
    rw [Bool.and_eq_true] at hc
    have hee := hl e he
    refine ⟨by rw [List.length_set]; exact h1, fun j hj => ?_, fun j hj => ?_⟩
    · rw [getD_set]; split
      · rfl
      · exact h2 j hj
    · rw [getD_set] at hj
      split at hj
      · rename_i hh
        have := h3 _ hc.1
        rw [show (e.src.toNat : Int) = e.src by omega] at this
        exact .step this ⟨e, he, rfl, by omega, hc.2⟩
      · exact h3 j hj
  · exact ⟨h1, h2, h3⟩

theorem markC_reach (p : Arc → Bool) {n : Nat} {l : List Arc} (hl : ends n l) {m0 : List Bool} (hm : m0.length = n) (j : Nat) :
  (itN (l.foldl (markC p)) n m0).getD j default = true ↔ Rch (arcE p l) (fun a => 0 ≤ a ∧ m0.getD a.toNat default = true) (j : Int) := by
 obtain ⟨⟨h1, h2, h3⟩, h4⟩ := (markC_grow p hl m0).fix (s := m0) ⟨hm, fun _ h => h, fun j h => .base ⟨by omega, h⟩⟩
 refine ⟨h3 j, fun h => ?_⟩
 have : 0 ≤ (j : Int) ∧ (itN (l.foldl (markC p)) n m0).getD ((j : Int)).toNat default = true := by
  refine Rch.ind (fun a => 0 ≤ a ∧ (itN (l.foldl (markC p)) n m0).getD a.toNat default = true) (fun a ha => ⟨ha.1, h2 _ ha.2⟩) ?_ h
  rintro a b ⟨ha, hb⟩ ⟨e, he, rfl, rfl, hp⟩
  have hs := h4 e he
  have hee := hl e he
  refine ⟨hee.2.1, ?_⟩
  rw [← hs]
  exact markC_hit hb hp (by omega)
 simpa using this.2

theorem linked_mem {a : List (List Int)} {e : Stp} {i : Nat} {t : Int} (he : e.src.toNat < a.length) : t ∈ (linked a e).getD i default ↔ t ∈ a.getD i default ∨ (e.src.toNat = i ∧ e.dst = t) := by
  unfold linked
  rw [getD_set]
  split
  · rename_i h
    rw [h.1, List.mem_append, List.mem_singleton]
    constructor
    · rintro (h2 | h2)
      · exact .inl h2
      · exact .inr ⟨rfl, h2.symm⟩
    · rintro (h2 | h2)
      · exact .inl h2
      · exact .inr h2.2.symm
  · rename_i h
    constructor
    · exact .inl
    · rintro (h2 | h2)
      · exact h2
      · exact absurd ⟨h2.1, he⟩ h

theorem adj_mem {n : Nat} {l : List Stp} (hl : ∀ e ∈ l, (0 ≤ e.src ∧ e.src.toNat < n) ∧ (0 ≤ e.dst ∧ e.dst.toNat < n)) {i : Nat} {t : Int} : ∀ k, k ≤ l.length → (t ∈ (adjTo n l k).getD i default ↔ ∃ e ∈ l.take k, e.src.toNat = i ∧ e.dst = t)
  | 0, _ => by
    rw [adjTo_zero]
    constructor
    · intro h
      exfalso
      by_cases hi : i < n
      · simp [hi] at h
      · simp [hi] at h
        cases h
    · rintro ⟨e, he, _⟩
      simp at he
  | k + 1, hk => by
    have hm := getD_mem (l := l) (j := k) (d := default) (by omega)
    have hg : l.getD k default = l[k] := by simp [show k < l.length by omega]
    rw [adjTo_succ (by omega), linked_mem (by rw [adjTo_length]; exact (hl _ hm).1.2), adj_mem hl k (by omega), List.take_succ_eq_append_getElem (by omega)]
    constructor
    · rintro (⟨e, he, h⟩ | h)
      · exact ⟨e, List.mem_append.2 (.inl he), h⟩
      · exact ⟨_, List.mem_append.2 (.inr (List.mem_singleton.2 rfl)), by rw [← hg]; exact h⟩
    · rintro ⟨e, he, h⟩
      rcases List.mem_append.1 he with he | he
      · exact .inl ⟨e, he, h⟩
      · rw [List.mem_singleton] at he; subst he; rw [← hg] at h; exact .inr h

structure BfsC (E : Int → Int → Prop) (s : Nat) (p : List Int × List Int) : Prop where
 snd : ∀ t ∈ p.2, Rch E (fun a => a = (s : Int)) t
 two : ∀ j, j < p.1.length → p.1.getD j default = -1 ∨ (j : Int) ∈ p.2
 src : (s : Int) ∈ p.2

theorem BfsC.relax {E : Int → Int → Prop} {s n k : Nat} {p : List Int × List Int} (h : BfsC E s p) (hi : Bfs n p) (hk : k < p.2.length) {t : Int} (ht : 0 ≤ t ∧ t.toNat < n) (he : E (p.2.getD k default) t) :
    BfsC E s (relax k p t) ∧ (∀ j : Nat, 0 ≤ p.1.getD j default → 0 ≤ (Go.AM.relax k p t).1.getD j default) ∧ 0 ≤ (Go.AM.relax k p t).1.getD t.toNat default := by
  have hq : p.2.getD k default ∈ p.2 := getD_mem hk
  have hqd := hi.qd _ hq
  have hlen := hi.len
  unfold Go.AM.relax
  split
  · refine ⟨⟨?_, ?_, List.mem_append.2 (.inl h.src)⟩, ?_, ?_⟩
    · intro x hx
      rcases List.mem_append.1 hx with hx | hx
      · exact h.snd x hx
      · rw [List.mem_singleton] at hx; subst hx; exact .step (h.snd _ hq) he
    · intro j hj
      dsimp only at hj ⊢
      rw [List.length_set] at hj
      rw [getD_set]
      split
      · rename_i hh
        right
        rw [← hh.1]
        exact List.mem_append.2 (.inr (List.mem_singleton.2 (by omega)))
      · rcases h.two j hj with h2 | h2
        · exact .inl h2
        · exact .inr (List.mem_append.2 (.inl h2))
    · intro j hj
      dsimp only
      rw [getD_set]
      split
      · omega
      · exact hj
    · dsimp only
      rw [getD_set, if_pos ⟨rfl, by omega⟩]; omega
  · exact ⟨h, fun _ h => h, by omega⟩

theorem relaxTo_c {E : Int → Int → Prop} {s n k : Nat} {o q ts : List Int} (hi : Bfs n (o, q)) (h : BfsC E s (o, q)) (hk : k < q.length) (hts : ∀ t ∈ ts, (0 ≤ t ∧ t.toNat < n) ∧ E (q.getD k default) t) : ∀ m, m ≤ ts.length →
    BfsC E s (relaxTo k o q ts m) ∧ (∀ j : Nat, 0 ≤ o.getD j default → 0 ≤ (relaxTo k o q ts m).1.getD j default) ∧ ∀ i, i < m → 0 ≤ (relaxTo k o q ts m).1.getD (ts.getD i default).toNat default
  | 0, _ => ⟨h, fun _ h => h, fun i hi => absurd hi (Nat.not_lt_zero _)⟩
  | m + 1, hm => by
    obtain ⟨h1, h2, h3⟩ := relaxTo_c hi h hk hts m (by omega)
    obtain ⟨h4, r, h5⟩ := relaxTo_inv hi hk (fun t ht => (hts t ht).1) m (by omega)
    have hkl : k < (relaxTo k o q ts m).2.length := by rw [h5, List.length_append]; omega
    have hqk : (relaxTo k o q ts m).2.getD k default = q.getD k default := by rw [h5]; exact getD_app hk
    have htm := hts _ (getD_mem (l := ts) (j := m) (d := default) (by omega))
    obtain ⟨a, b, c⟩ := h1.relax h4 hkl htm.1 (by rw [hqk]; exact htm.2)
    rw [relaxTo_succ (by omega)]
    refine ⟨a, fun j hj => b j (h2 j hj), fun i hi => ?_⟩
    by_cases hlt : i < m
    · exact b _ (h3 i hlt)
    · rw [show i = m by omega]; exact c

theorem bfsR_end {E : Int → Int → Prop} {s n : Nat} {nx : List (List Int)} (hnx : ∀ a : Int, (0 ≤ a ∧ a.toNat < n) → ∀ t ∈ nx.getD a.toNat default, (0 ≤ t ∧ t.toNat < n) ∧ E a t) : ∀ (f : Nat) (p : List Int × List Int) (k : Nat), Bfs n p → BfsC E s p → n ≤ k + f →
    (∀ i, i < k → i < p.2.length → ∀ t ∈ nx.getD (p.2.getD i default).toNat default, 0 ≤ p.1.getD t.toNat default) →
    ∃ q, Bfs n (bfsR nx f p k, q) ∧ BfsC E s (bfsR nx f p k, q) ∧ ∀ a ∈ q, ∀ t ∈ nx.getD a.toNat default, 0 ≤ (bfsR nx f p k).getD t.toNat default
  | 0, p, k, hi, hc, hf, hd => by
    refine ⟨p.2, hi, hc, fun a ha t ht => ?_⟩
    obtain ⟨i, hil, rfl⟩ := List.mem_iff_getElem.1 ha
    have hle := hi.le
    refine hd i (by omega) hil t ?_
    rwa [show p.2.getD i default = p.2[i] by simp [hil]]
  | f + 1, p, k, hi, hc, hf, hd => by
    rw [bfsR]
    split
    · rename_i hk
      have hqk := hi.qin _ (getD_mem (l := p.2) (j := k) (d := default) hk)
      have hts := hnx _ hqk
      obtain ⟨a, b, c⟩ := relaxTo_c (o := p.1) (q := p.2) hi hc hk hts _ (Nat.le_refl _)
      obtain ⟨h4, r, h5⟩ := relaxTo_inv (o := p.1) (q := p.2) hi hk (fun t ht => (hts t ht).1) _ (Nat.le_refl _)
      refine bfsR_end hnx f _ _ h4 a (by omega) ?_
      intro i hi1 hi2 t ht
      rw [h5] at ht
      by_cases hlt : i < k
      · rw [getD_app (by omega)] at ht
        exact b _ (hd i hlt (by omega) t ht)
      · have e : i = k := by omega
        subst e
        rw [getD_app hk] at ht
        obtain ⟨m, hm, rfl⟩ := List.mem_iff_getElem.1 ht
        have h6 := c m hm
        rw [List.getD_eq_getElem?_getD (i := m), List.getElem?_eq_getElem hm, Option.getD_some] at h6
        exact h6
    · rename_i hk
      refine ⟨p.2, hi, hc, fun a ha t ht => ?_⟩
      obtain ⟨i, hil, rfl⟩ := List.mem_iff_getElem.1 ha
      refine hd i (by omega) hil t ?_
      rwa [show p.2.getD i default = p.2[i] by simp [hil]]

def stE (l : List Stp) (a b : Int) : Prop := ∃ e ∈ l, e.src = a ∧ e.dst = b

theorem dist_all {n s : Nat} {l : List Stp} (hs : s < n) (hl : ∀ e ∈ l, (0 ≤ e.src ∧ e.src.toNat < n) ∧ (0 ≤ e.dst ∧ e.dst.toNat < n)) :
    hasI (distF n l s) (-1) = false ↔ ∀ j, j < n → Rch (stE l) (fun a => a = (s : Int)) (j : Int) := by
  have hnx : ∀ a : Int, (0 ≤ a ∧ a.toNat < n) → ∀ t ∈ (adjTo n l l.length).getD a.toNat default, (0 ≤ t ∧ t.toNat < n) ∧ stE l a t := by
    intro a ha t ht
    obtain ⟨e, he, h1, h2⟩ := (adj_mem hl l.length (Nat.le_refl _)).1 ht
    rw [List.take_length] at he
    have hee := hl e he
    exact ⟨by rw [← h2]; exact hee.2, e, he, by omega, h2⟩
  have hset : ∀ j, ((List.replicate n (-1 : Int)).set s 0).getD j default = if s = j then 0 else if j < n then -1 else default := by
    intro j
    rw [getD_set, List.length_replicate]
    by_cases h : s = j
    · rw [if_pos ⟨h, hs⟩, if_pos h]
    · rw [if_neg (fun hh => h hh.1), if_neg h]
      rw [List.getD_eq_getElem?_getD, List.getElem?_replicate]; split <;> rfl
  obtain ⟨q, hi, hc, hd⟩ := bfsR_end (E := stE l) (s := s) hnx n ((List.replicate n (-1)).set s 0, [(s : Int)]) 0 (BfsInv.zero (l := l) hs).inv
    ⟨fun t ht => by rw [List.mem_singleton] at ht; exact .base ht, fun j hj => by
      dsimp only at hj ⊢
      rw [List.length_set, List.length_replicate] at hj
      rw [hset]
      by_cases h : s = j
      · right; rw [h]; exact List.mem_singleton.2 rfl
      · left; rw [if_neg h, if_pos hj], List.mem_singleton.2 rfl⟩ (by omega) (fun i h => absurd h (Nat.not_lt_zero _))
  change Bfs n (distF n l s, q) at hi
  change BfsC (stE l) s (distF n l s, q) at hc
  change ∀ a ∈ q, ∀ t ∈ (adjTo n l l.length).getD a.toNat default, 0 ≤ (distF n l s).getD t.toNat default at hd
  have hlen : (distF n l s).length = n := hi.len
  unfold hasI
  constructor
  · intro h j hj
    rcases hc.two j (by rw [hlen]; exact hj) with h2 | h2
    · rw [List.any_eq_false] at h
      exact absurd (decide_eq_true h2) (h _ (getD_mem (by rw [hlen]; exact hj)))
    · exact hc.snd _ h2
  · intro h
    rw [List.any_eq_false]
    intro x hx hx1
    obtain ⟨j, hj, rfl⟩ := List.mem_iff_getElem.1 hx
    have hx1 := of_decide_eq_true hx1
    have hq : (j : Int) ∈ q := by
      refine Rch.ind (fun a => a ∈ q) (fun a ha => by rw [ha]; exact hc.src) ?_ (h j (by omega))
      rintro a b ha ⟨e, he, rfl, rfl⟩
      have hee := hl e he
      have h1 := hd _ ha e.dst ((adj_mem hl l.length (Nat.le_refl _)).2 ⟨e, by rw [List.take_length]; exact he, rfl, rfl⟩)
      rcases hc.two e.dst.toNat (by dsimp only; omega) with h2 | h2
      · rw [h2] at h1; omega
      · rwa [show (e.dst.toNat : Int) = e.dst by omega] at h2
    have h3 := hi.qd _ hq
    have h4 : (distF n l s).getD ((j : Int)).toNat default = (distF n l s)[j] := by simp [hj]
    dsimp only at h3
    rw [h4] at h3; omega

def setCh (u : List UInt8) (k : Int) (b : UInt8) : List UInt8 := u.take k.toNat ++ [b] ++ u.drop (k + 1).toNat

theorem setCh_get {u : List UInt8} {k : Int} {b : UInt8} (h0 : 0 ≤ k) (h1 : k.toNat < u.length) : ∀ j, (setCh u k b).getD j 0 = if (j : Int) = k then b else u.getD j 0 := by
  intro j
  unfold setCh
  have e1 : (u.take k.toNat).length = k.toNat := by simp; omega
  rw [show (k + 1).toNat = k.toNat + 1 by omega, List.append_assoc, List.getD_eq_getElem?_getD, List.getElem?_append]
  split
  · rw [List.getElem?_take, if_pos (by omega), if_neg (by omega), ← List.getD_eq_getElem?_getD]
  · rw [e1, List.singleton_append, List.getElem?_cons]
    split
    · rw [if_pos (by omega)]; rfl
    · rw [if_neg (by omega), List.getElem?_drop, show k.toNat + 1 + (j - k.toNat - 1) = j by omega, ← List.getD_eq_getElem?_getD]

theorem setCh_len {u : List UInt8} {k : Int} {b : UInt8} (h0 : 0 ≤ k) (h1 : k.toNat < u.length) : (setCh u k b).length = u.length := by
 unfold setCh
 simp only [List.length_append, List.length_take, List.length_singleton, List.length_drop]
 omega

theorem eq_getD {u v : List UInt8} (hl : u.length = v.length) : u = v ↔ ∀ j, j < u.length → u.getD j 0 = v.getD j 0 := by
  constructor
  · intro h j _; rw [h]
  · intro h
    apply List.ext_getElem hl
    intro j h1 h2
    have := h j h1
    simpa [h1, h2] using this

theorem fit_neg {a : Arc} {u v : List UInt8} (hv : v.length = u.length) (h : a.sig < 0) : fitB a u v = decide (u = v) := by
  rw [Bool.eq_iff_iff, decide_eq_true_iff, fitB, allB_true, eq_getD hv.symm]
  constructor
  · intro h2 j hj
    have := h2 j hj
    unfold fitCh at this
    rw [if_neg (by omega)] at this
    exact of_decide_eq_true this
  · intro h2 j hj
    unfold fitCh
    rw [if_neg (by omega)]
    exact decide_eq_true (h2 j hj)

theorem fit_pos {a : Arc} {u v : List UInt8} {n : Int} (hu : codeN u n = true) (hv : codeN v n = true) (h0 : 0 ≤ a.sig) (h1 : a.sig < n) : fitB a u v = (decide (u = setCh v a.sig (bitN (!a.up))) && decide (v = setCh u a.sig (bitN a.up))) := by
  unfold codeN at hu hv
  simp only [Bool.and_eq_true, decide_eq_true_iff, allB_true] at hu hv
  obtain ⟨cu, lu⟩ := hu
  obtain ⟨cv, lv⟩ := hv
  have h1u : a.sig.toNat < u.length := by omega
  have h1v : a.sig.toNat < v.length := by omega
  have bu := cu _ h1u
  have bv := cv _ h1v
  rw [Bool.eq_iff_iff, Bool.and_eq_true, decide_eq_true_iff, decide_eq_true_iff, fitB, allB_true, eq_getD (by rw [setCh_len h0 h1v]; omega), eq_getD (by rw [setCh_len h0 h1u]; omega)]
  have key : ∀ x y : UInt8, codeCh x = true → codeCh y = true → (((!decide (decide (x = 49) = a.up)) && decide (decide (y = 49) = a.up)) = true ↔ x = bitN (!a.up) ∧ y = bitN a.up) := by
    intro x y hx hy
    unfold codeCh at hx hy
    simp only [Bool.or_eq_true, beq_iff_eq] at hx hy
    rcases hx with rfl | rfl <;> rcases hy with rfl | rfl <;> cases a.up <;> decide
  constructor
  · intro h
    refine ⟨fun j hj => ?_, fun j hj => ?_⟩
    · rw [setCh_get h0 h1v]
      have := h j hj
      unfold fitCh at this
      split
      · rename_i e
        rw [if_pos e] at this
        obtain rfl : a.sig.toNat = j := by omega
        exact ((key _ _ bu bv).1 this).1
      · rename_i e
        rw [if_neg e] at this
        exact of_decide_eq_true this
    · rw [setCh_get h0 h1u]
      have := h j (by omega)
      unfold fitCh at this
      split
      · rename_i e
        rw [if_pos e] at this
        obtain rfl : a.sig.toNat = j := by omega
        exact ((key _ _ bu bv).1 this).2
      · rename_i e
        rw [if_neg e] at this
        exact (of_decide_eq_true this).symm
  · rintro ⟨h2, h3⟩ j hj
    unfold fitCh
    have a2 := h2 j hj
    have a3 := h3 j (by omega)
    rw [setCh_get h0 h1v] at a2
    rw [setCh_get h0 h1u] at a3
    split
    · rename_i e
      rw [if_pos e] at a2 a3
      obtain rfl : a.sig.toNat = j := by omega
      exact (key _ _ bu bv).2 ⟨a2, a3⟩
    · rename_i e
      rw [if_neg e] at a2
      exact decide_eq_true a2

def codeAt (x : Sgr) (k : Int) : List UInt8 := x.codes.getD k.toNat default

def arcB (x : Sgr) (a : Arc) : Bool := withinB a.src 0 ((x.codes.length : Int) - 1) && (withinB a.dst 0 ((x.codes.length : Int) - 1) && (edgeB (Lab.mk a.sig a.up) (x.sigs.length : Int) && fitB a (codeAt x a.src) (codeAt x a.dst)))

def sgB (x : Sgr) : Bool := sigsB x.sigs && (withinB (x.codes.length : Int) 1 300 && (!decide ((4000 : Int) < (x.arcs.length : Int)) && (allOf x.codes (fun u => codeN u (x.sigs.length : Int)) && (allOf x.arcs (arcB x) && !hasI (distF x.codes.length (stepsOf x.arcs) 0) (-1)))))

def metIt (x : Sgr) (k : Nat) : List Bool := itN (x.arcs.foldl (markC fun _ => true)) k ((List.replicate x.codes.length false).set 0 true)

theorem arc_ends {x : Sgr} (h : allOf x.arcs (arcB x) = true) : ends x.codes.length x.arcs := by
 intro e he
 obtain ⟨j, hj, rfl⟩ := List.mem_iff_getElem.1 he
 have := allB_true.1 h j hj
 rw [show x.arcs.getD j default = x.arcs[j] by simp [hj]] at this
 unfold arcB at this
 simp only [Bool.and_eq_true] at this
 have h1 := within_two this.1
 have h2 := within_two this.2.1
 omega

theorem stE_arcs (l : List Arc) (a b : Int) : stE (stepsOf l) a b ↔ arcE (fun _ => true) l a b := by
  unfold stE arcE stepsOf
  constructor
  · rintro ⟨e, he, h1, h2⟩
    obtain ⟨a, ha, rfl⟩ := List.mem_map.1 he
    exact ⟨a, ha, h1, h2, rfl⟩
  · rintro ⟨e, he, h1, h2, _⟩
    exact ⟨_, List.mem_map.2 ⟨e, he, rfl⟩, h1, h2⟩

theorem steps_ends {n : Nat} {l : List Arc} (h : ends n l) : ∀ e ∈ stepsOf l, (0 ≤ e.src ∧ e.src.toNat < n) ∧ (0 ≤ e.dst ∧ e.dst.toNat < n) := by
 intro e he
 obtain ⟨a, ha, rfl⟩ := List.mem_map.1 he
 exact h a ha

theorem met_all {x : Sgr} (hn : 1 ≤ x.codes.length) (hl : ends x.codes.length x.arcs) : allOf (metIt x x.codes.length) (fun b => b) = !hasI (distF x.codes.length (stepsOf x.arcs) 0) (-1) := by
  have hm : ((List.replicate x.codes.length false).set 0 true).length = x.codes.length := by simp
  have h1 := markC_reach (fun _ => true) hl hm
  have h2 := dist_all (n := x.codes.length) (s := 0) (by omega) (steps_ends hl)
  have hz : ∀ a : Int, (0 ≤ a ∧ ((List.replicate x.codes.length false).set 0 true).getD a.toNat default = true) ↔ a = ((0 : Nat) : Int) := by
    intro a
    rw [getD_set, List.length_replicate]
    constructor
    · rintro ⟨h3, h4⟩
      split at h4
      · omega
      · exfalso
        rw [List.getD_eq_getElem?_getD, List.getElem?_replicate] at h4
        split at h4 <;> cases h4
    · rintro rfl
      exact ⟨by omega, by rw [if_pos ⟨by omega, by omega⟩]⟩
  have hlen : (metIt x x.codes.length).length = x.codes.length := by
    have := ((markC_grow (fun _ => true) hl _).fix (s := (List.replicate x.codes.length false).set 0 true) ⟨hm, fun _ h => h, fun j h => .base ⟨by omega, h⟩⟩).1.1
    exact this
  rw [Bool.eq_iff_iff, Bool.not_eq_true', h2, allOf, allB_true, hlen]
  constructor
  · intro h j hj
    have h3 := (h1 j).1 (by have := h j hj; exact this)
    exact h3.mono (fun a b hh => (stE_arcs _ _ _).2 hh) (fun a ha => (hz a).1 ha)
  · intro h j hj
    have h3 := (h j hj).mono (fun a b hh => (stE_arcs _ _ _).1 hh) (fun a ha => (hz a).2 ha)
    exact (h1 j).2 h3

def metTo (x : Sgr) (k m : Nat) : List Bool := (x.arcs.take m).foldl (markC fun _ => true) (metIt x k)

theorem metTo_all (x : Sgr) (k : Nat) {m : Nat} (h : x.arcs.length ≤ m) : metTo x k m = metIt x (k + 1) := by
 rw [metTo, List.take_of_length_le h]; rfl

theorem metTo_succ {x : Sgr} {k m : Nat} (h : m < x.arcs.length) : metTo x k (m + 1) = markC (fun _ => true) (metTo x k m) (x.arcs.getD m default) := by
 have hg : x.arcs.getD m default = x.arcs[m] := by simp [h]
 unfold metTo
 rw [List.take_succ_eq_append_getElem h, List.foldl_append, hg]; rfl

theorem metTo_yes {x : Sgr} {k m : Nat} (h : m < x.arcs.length) (hs : (metTo x k m).getD (x.arcs.getD m default).src.toNat default = true) : ((metTo x k m).map D.bool).set (x.arcs.getD m default).dst.toNat (D.bool true) = (metTo x k (m + 1)).map D.bool := by
 rw [metTo_succ h, markC, hs, Bool.and_self, if_pos rfl, List.map_set]

theorem metTo_no {x : Sgr} {k m : Nat} (h : m < x.arcs.length) (hs : (metTo x k m).getD (x.arcs.getD m default).src.toNat default = false) : metTo x k m = metTo x k (m + 1) := by
 rw [metTo_succ h, markC, hs, if_neg (by decide)]

theorem markC_len (p : Arc → Bool) (m : List Bool) (a : Arc) : (markC p m a).length = m.length := by
  unfold markC; split
  · rw [List.length_set]
  · rfl

theorem marks_len (p : Arc → Bool) : ∀ (l : List Arc) (m : List Bool), (l.foldl (markC p) m).length = m.length
 | [], _ => rfl
 | a :: l, m => by rw [List.foldl_cons, marks_len p l, markC_len]

theorem metIt_len (x : Sgr) : ∀ k, (metIt x k).length = x.codes.length
 | 0 => by simp [metIt, itN]
 | k + 1 => by
  have : metIt x (k + 1) = x.arcs.foldl (markC fun _ => true) (metIt x k) := rfl
  rw [this, marks_len, metIt_len x k]

theorem metTo_len (x : Sgr) (k m : Nat) : (metTo x k m).length = x.codes.length := by rw [metTo, marks_len, metIt_len]

theorem metIt_start (x : Sgr) : (List.replicate x.codes.length (D.bool false)).set 0 (D.bool true) = (metIt x 0).map D.bool := by
 rw [metIt, itN, List.map_set, List.map_replicate]

theorem sg_codes {x : Sgr} {k : Nat} (hk : x.codes.length ≤ k) (h : ∀ j, j < k → codeN (x.codes.getD j default) (x.sigs.length : Int) = true) : allOf x.codes (fun u => codeN u (x.sigs.length : Int)) = true := allB_of fun j hj => h j (by omega)

theorem sg_arcs {x : Sgr} {k : Nat} (hk : x.arcs.length ≤ k) (h : ∀ j, j < k → arcB x (x.arcs.getD j default) = true) : allOf x.arcs (arcB x) = true := allB_of fun j hj => h j (by omega)

theorem sg_no_code {x : Sgr} {k : Nat} (hk : k < x.codes.length) (h : codeN (x.codes.getD k default) (x.sigs.length : Int) = false) : sgB x = false := by
  rw [sgB, show allOf x.codes (fun u => codeN u (x.sigs.length : Int)) = false from allB_no k hk h]
  cases sigsB x.sigs <;> cases withinB (x.codes.length : Int) 1 300 <;> cases decide ((4000 : Int) < (x.arcs.length : Int)) <;> rfl

theorem sg_no_arc {x : Sgr} {k : Nat} (hk : k < x.arcs.length) (h : arcB x (x.arcs.getD k default) = false) : sgB x = false := by
  rw [sgB, show allOf x.arcs (arcB x) = false from allB_no k hk h]
  cases sigsB x.sigs <;> cases withinB (x.codes.length : Int) 1 300 <;> cases decide ((4000 : Int) < (x.arcs.length : Int)) <;> cases allOf x.codes (fun u => codeN u (x.sigs.length : Int)) <;> rfl

theorem sg_end {x : Sgr} (h1 : sigsB x.sigs = true) (h2 : withinB (x.codes.length : Int) 1 300 = true) (h3 : ¬ (4000 : Int) < (x.arcs.length : Int)) (h4 : allOf x.codes (fun u => codeN u (x.sigs.length : Int)) = true) (h5 : allOf x.arcs (arcB x) = true) : (!hasI (distF x.codes.length (stepsOf x.arcs) 0) (-1)) = sgB x := by
 rw [sgB, h1, h2, decide_eq_false h3, h4, h5]; rfl

theorem codes_at {x : Sgr} (h : allOf x.codes (fun u => codeN u (x.sigs.length : Int)) = true) : ∀ a : Int, 0 ≤ a → a.toNat < x.codes.length → codeN (codeAt x a) (x.sigs.length : Int) = true ∧ (codeAt x a).length = x.sigs.length := by
 intro a h0 h1
 have h2 : codeN (codeAt x a) (x.sigs.length : Int) = true := allB_true.1 h _ h1
 refine ⟨h2, ?_⟩
 unfold codeN at h2
 simp only [Bool.and_eq_true, decide_eq_true_iff] at h2
 omega

theorem stepsOf_len (l : List Arc) : (stepsOf l).length = l.length := by simp [stepsOf]

theorem distF_len {n s : Nat} {l : List Stp} (hs : s < n) (hl : ∀ e ∈ l, (0 ≤ e.src ∧ e.src.toNat < n) ∧ (0 ≤ e.dst ∧ e.dst.toNat < n)) : (distF n l s).length = n := by
  have hnx : ∀ a : Int, (0 ≤ a ∧ a.toNat < n) → ∀ t ∈ (adjTo n l l.length).getD a.toNat default, (0 ≤ t ∧ t.toNat < n) ∧ True := by
    intro a ha t ht
    obtain ⟨e, he, h1, h2⟩ := (adj_mem hl l.length (Nat.le_refl _)).1 ht
    rw [List.take_length] at he
    exact ⟨by rw [← h2]; exact (hl e he).2, trivial⟩
  obtain ⟨q, hi, _⟩ := bfsR_end (E := fun _ _ => True) (s := s) hnx n ((List.replicate n (-1)).set s 0, [(s : Int)]) 0 (BfsInv.zero (l := l) hs).inv
    ⟨fun t ht => by rw [List.mem_singleton] at ht; exact .base ht, fun j hj => by
      dsimp only at hj ⊢
      rw [List.length_set, List.length_replicate] at hj
      rw [getD_set, List.length_replicate]
      by_cases h : s = j
      · right; rw [h]; exact List.mem_singleton.2 rfl
      · left
        rw [if_neg (fun hh => h hh.1), List.getD_eq_getElem?_getD, List.getElem?_replicate, if_pos hj]; rfl, List.mem_singleton.2 rfl⟩ (by omega) (fun i h => absurd h (Nat.not_lt_zero _))
  exact hi.len

theorem edge_lt {a : Arc} {n : Int} (h : edgeB (Lab.mk a.sig a.up) n = true) : a.sig < n ∨ a.sig = -1 := by
  unfold edgeB at h
  simp only [Bool.or_eq_true, Bool.and_eq_true, decide_eq_true_iff] at h
  rcases h with h | h
  · have := within_two h
    omega
  · exact .inr h.1

theorem met_no {x : Sgr} (hn : 1 ≤ x.codes.length) (hl : ends x.codes.length x.arcs) {k : Nat} (hk : k = x.codes.length) (m : Nat) (hm : m < x.codes.length) (h : (metIt x k).getD m default = false) : false = !hasI (distF x.codes.length (stepsOf x.arcs) 0) (-1) := by
 subst hk
 rw [← met_all hn hl]
 exact (allB_no m (by rw [metIt_len]; exact hm) h).symm

theorem met_yes {x : Sgr} (hn : 1 ≤ x.codes.length) (hl : ends x.codes.length x.arcs) {k : Nat} (hk : k = x.codes.length) (h : ∀ j, j < x.codes.length → (metIt x k).getD j default = true) : true = !hasI (distF x.codes.length (stepsOf x.arcs) 0) (-1) := by
 subst hk
 rw [← met_all hn hl]
 exact (allB_of fun j hj => h j (by rw [metIt_len] at hj; exact hj)).symm

set_option maxHeartbeats 2000000 in
theorem sp_impl_IsValidStateGraph (x : Sgr) (hb : x.bulk ≤ 1048576) : Sp Tryz.prog 120 [(.agg [(.slice false 2 (x.sigs.map Sgn.d)), (.slice false 1 (x.codes.map D.str)), (.slice false 4 (x.arcs.map Arc.d))])] [.any] (.bool (sgB x)) := by
 refine Sp_intro (lend := true) Tryz.func120 rfl rfl rfl (fun _ => rfl) (fun c hc hX => ?_)
 obtain ⟨hp0, hp1, hp2⟩ := Sgr.parts hb
 have hn0 := bulkF_len hp0
 have hn1 := bulk_len hp1
 have hx1 := bulk_mem hp1
 have hn2 := bulkF_len hp2
 refine T_seq (T_region hc (Ch.s (.ptr 1000 0) (.box 1000 _ _ rfl (.aggD _)) (Ch.s (.d (.bool false)) pa (Ch.nil (T_seq (T_seq (T_region hc ?_)))))))
 refine Ch.s (.ptr 1000 0) (.pure (.fldPtr _ _ _ rfl fld35_0 rfl)) (Ch.s (.d (.slice false 2 (x.sigs.map Sgn.d))) (.pure (.loadPtr1 _ _ rfl ag32 rfl rfl rfl)) (Ch.s (.d (.bool (sigsB x.sigs))) (.call 10000 186 _ _ _ en186 rfl (.inl rfl) (.cons (.d _) .nil) rfl rfl (sp_impl_areSignals x.sigs a39) (.skip _ _ .nil) rfl) (Ch.s (.d (.bool (!(sigsB x.sigs)))) (.pure (.not _ _ rfl rfl)) (Ch.s (.d (.bool (!(sigsB x.sigs)))) pm ?_))))
 cases h1 : (sigsB x.sigs) with
 | true =>
  refine Ch.s (.ptr 1000 1) (.pure (.fldPtr _ _ _ rfl fld35_1 rfl)) (Ch.s (.d (.slice false 1 (x.codes.map D.str))) (.pure (.loadPtr1 _ _ rfl ag23 rfl rfl rfl)) (Ch.s (.d (.int .i64 (x.codes.length : Int))) (.pure (.len _ _ 9 rfl Tryz.underlying23 (.sh _ _) (by simp))) (Ch.s (.d (.bool (withinB (x.codes.length : Int) 1 300))) (.call 16000 91 _ _ _ en91 rfl (.inl rfl) (.cons (.d _) (.cons (.d _) (.cons (.d _) .nil))) rfl rfl (sp_impl_within (x.codes.length : Int) 1 300) (.skip _ _ (.skip _ _ (.skip _ _ .nil))) rfl) (Ch.s (.d (.bool (!(withinB (x.codes.length : Int) 1 300)))) (.pure (.not _ _ rfl rfl)) (Ch.s (.d (.bool (!(withinB (x.codes.length : Int) 1 300)))) (.pure (.pickF _ _ _ rfl rfl rfl)) (Ch.s (.d (.bool (!(withinB (x.codes.length : Int) 1 300)))) pm ?_))))))
  cases h2 : (withinB (x.codes.length : Int) 1 300) with
  | true =>
   try have hw2 := within_two h2
   refine Ch.s (.ptr 1000 2) (.pure (.fldPtr _ _ _ rfl fld35_2 rfl)) (Ch.s (.d (.slice false 4 (x.arcs.map Arc.d))) (.pure (.loadPtr1 _ _ rfl ag33 rfl rfl rfl)) (Ch.s (.d (.int .i64 (x.arcs.length : Int))) (.pure (.len _ _ 125 rfl Tryz.underlying33 (.sh _ _) (by simp))) (Ch.s (.d (.bool (decide (4000 < (x.arcs.length : Int))))) (iX rfl rfl rfl) (Ch.s (.d (.bool (decide (4000 < (x.arcs.length : Int))))) (.pure (.pickF _ _ _ rfl rfl rfl)) (Ch.nil ?_)))))
   refine T_condD (p := (4000 < (x.arcs.length : Int))) rfl (fun h3 => ?_) (fun h3 => ?_)
   ·
    refine T_seq (T_region hc (Ch.s (.d (.bool false)) pa (Ch.nil (T_ret ?_))))
    exact endR [(.d (.bool false))] [] [] (.cons (.tmp 2 rfl) .nil) (.cons (.any _) .nil) (Exp.of (congrArg D.bool a21) (.d _)) rfl rfl
   ·
    refine T_skip (T_seq (T_region hc (Ch.s (.ptr 1000 1) (.pure (.fldPtr _ _ _ rfl fld35_1 rfl)) (Ch.s (.d (.slice false 1 (x.codes.map D.str))) (.pure (.loadPtr1 _ _ rfl ag23 rfl rfl rfl)) (Ch.s (.d (.int .i64 (x.codes.length : Int))) (.pure (.len _ _ 9 rfl Tryz.underlying23 (.sh _ _) (by simp))) (Ch.s (.d (.int .i64 ((x.codes.length : Int) - 1))) (iX rfl rfl intV_subA) (Ch.s (.d (.int .i64 ((x.codes.length : Int) - 1))) pa ?_)))))))
    refine Ch.nil (T_seq (T_seq (T_region hc (Ch.s (.ptr 1000 1) (.pure (.fldPtr _ _ _ rfl fld35_1 rfl)) (Ch.s (.d (.slice false 1 (x.codes.map D.str))) (.pure (.loadPtr1 _ _ rfl ag23 rfl rfl rfl)) (Ch.s (.d (.int .i64 (x.codes.length : Int))) (.pure (.len _ _ 9 rfl Tryz.underlying23 (.sh _ _) (by simp))) (Ch.s (.d (.int .i64 0)) pm ?_)))))))
    refine Ch.nil (T_block ?_)
    refine T_loop (ι := Nat) (fun k => { n := 101, sl := [(1, (.ptr 1000 0)), (3, (.d (.int .i64 ((x.codes.length : Int) - 1)))), (30, (.d (.slice false 1 (x.codes.map D.str)))), (31, (.d (.int .i64 (x.codes.length : Int)))), (32, (.d (.int .i64 (k : Int))))], hp := [(1000, (some (.box (vX x))))], pin := [] }) (fun k => k ≤ x.codes.length ∧ ∀ j, j < k → codeN (x.codes.getD j default) (x.sigs.length : Int) = true) (fun k => x.codes.length - k) ⟨0, ⟨by omega, fun j hj => by omega⟩, (Wk.of rfl rfl (ai rfl (ai rfl (ai rfl (ai rfl (ai (vI a114) trivial))))) (ai rfl trivial))⟩ (fun k hp0 => ?_)
    refine T_seq (T_region hc (Ch.s (.d (.bool (decide ((k : Int) < (x.codes.length : Int))))) (iX rfl rfl rfl) (Ch.nil (T_seq ?_))))
    refine T_condD (p := ((k : Int) < (x.codes.length : Int))) rfl (fun h4 => ?_) (fun h4 => ?_)
    ·
     try have hcl := sg_codes (x := x) (k := k) (by omega) hp0.2
     try have hca := codes_at hcl
     refine T_skip (T_seq (T_block (T_seq (T_region hc (Ch.s (.d (.ref (.str (x.codes.getD k default)))) (.pure (.idx _ _ _ 9 (k) rfl Tryz.underlying23 sz9 rfl rfl rfl get_mapA)) (Ch.s (.d (.str (x.codes.getD k default))) (.pure (.loadRef1 _ _ rfl ag9 rfl rfl)) (Ch.s (.d (.str (x.codes.getD k default))) pa ?_)))))))
     refine Ch.nil (T_seq (T_region hc (Ch.s (.d (.str (x.codes.getD k default))) pm (Ch.s (.ptr 1000 0) (.pure (.fldPtr _ _ _ rfl fld35_0 rfl)) (Ch.s (.d (.slice false 2 (x.sigs.map Sgn.d))) (.pure (.loadPtr1 _ _ rfl ag32 rfl rfl rfl)) (Ch.s (.d (.int .i64 (x.sigs.length : Int))) (.pure (.len _ _ 154 rfl Tryz.underlying32 (.sh _ _) (by simp))) (Ch.s (.d (.bool (codeN (x.codes.getD k default) (x.sigs.length : Int)))) (.call 40000 187 _ _ _ en187 rfl (.inl rfl) (.cons (.d _) (.cons (.d _) .nil)) rfl rfl (sp_impl_isBits (x.codes.getD k default) (x.sigs.length : Int) a39) (.skip _ _ (.skip _ _ .nil)) rfl) ?_)))))))
     refine Ch.s (.d (.bool (!(codeN (x.codes.getD k default) (x.sigs.length : Int))))) (.pure (.not _ _ rfl rfl)) (Ch.nil ?_)
     refine T_condN (b := (codeN (x.codes.getD k default) (x.sigs.length : Int))) rfl (fun h5 => ?_) (fun h5 => ?_)
     ·
      refine T_seq (T_region hc (Ch.s (.d (.bool false)) pa (Ch.nil (T_ret ?_))))
      exact endR [(.d (.bool false))] [] [] (.cons (.tmp 2 rfl) .nil) (.cons (.any _) .nil) (Exp.of (congrArg D.bool a21) (.d _)) rfl rfl
     ·
      refine T_skip (T_region hc (Ch.s (.d (.int .i64 ((k : Int) + 1))) (iX rfl rfl intV_addA) (Ch.s (.d (.int .i64 ((k : Int) + 1))) pm (Ch.nil ?_))))
      exact nx (k + 1) ⟨by omega, upto_succ hp0.2 (by assumption)⟩ (Wk.of rfl rfl (ai rfl (ai rfl (ai rfl (ai rfl (ai (vI a114) trivial))))) (ai rfl trivial))
    ·
     try have hcl := sg_codes (x := x) (k := k) (by omega) hp0.2
     try have hca := codes_at hcl
     refine T_exit (T_seq (T_seq (T_region hc (Ch.s (.ptr 1000 2) (.pure (.fldPtr _ _ _ rfl fld35_2 rfl)) (Ch.s (.d (.slice false 4 (x.arcs.map Arc.d))) (.pure (.loadPtr1 _ _ rfl ag33 rfl rfl rfl)) (Ch.s (.d (.int .i64 (x.arcs.length : Int))) (.pure (.len _ _ 125 rfl Tryz.underlying33 (.sh _ _) (by simp))) (Ch.s (.d (.int .i64 0)) pm ?_)))))))
     refine Ch.nil (T_block ?_)
     refine T_loop (ι := Nat) (fun m => { n := 101, sl := [(1, (.ptr 1000 0)), (3, (.d (.int .i64 ((x.codes.length : Int) - 1)))), (44, (.d (.slice false 4 (x.arcs.map Arc.d)))), (45, (.d (.int .i64 (x.arcs.length : Int)))), (46, (.d (.int .i64 (m : Int))))], hp := [(1000, (some (.box (vX x))))], pin := [] }) (fun m => m ≤ x.arcs.length ∧ ∀ j, j < m → arcB x (x.arcs.getD j default) = true) (fun m => x.arcs.length - m) ⟨0, ⟨by omega, fun j hj => by omega⟩, (Wk.of rfl rfl (ai rfl (ai rfl (ai rfl (ai rfl (ai (vI a114) trivial))))) (ai rfl trivial))⟩ (fun m hp1 => ?_)
     refine T_seq (T_region hc (Ch.s (.d (.bool (decide ((m : Int) < (x.arcs.length : Int))))) (iX rfl rfl rfl) (Ch.nil (T_seq ?_))))
     refine T_condD (p := ((m : Int) < (x.arcs.length : Int))) rfl (fun h6 => ?_) (fun h6 => ?_)
     ·
      try have hal := sg_arcs (x := x) (k := m) (by omega) hp1.2
      try have hen := arc_ends hal
      try have hse := steps_ends hen
      try have hsl := stepsOf_len x.arcs
      try have hdl := distF_len (n := x.codes.length) (s := 0) (by omega) hse
      refine T_skip (T_seq (T_block (T_seq (T_region hc (Ch.s (.d (.ref (.agg [(.int .i64 ((x.arcs.getD m default).src)), (.int .i64 ((x.arcs.getD m default).sig)), (.bool ((x.arcs.getD m default).up)), (.int .i64 ((x.arcs.getD m default).dst))]))) (.pure (.idx _ _ _ 125 (m) rfl Tryz.underlying33 sz125 rfl rfl rfl get_mapA)) (Ch.s (.d (.agg [(.int .i64 ((x.arcs.getD m default).src)), (.int .i64 ((x.arcs.getD m default).sig)), (.bool ((x.arcs.getD m default).up)), (.int .i64 ((x.arcs.getD m default).dst))])) (.pure (.loadRefA _ _ rfl ag125 sz125 rfl)) (Ch.s (.ptr 7000 0) (.alloc 7000 _ rfl zer125) ?_)))))))
      refine Ch.s .junk (.storePtr _ _ _ rfl rfl rfl (.aggD _) sz125 (lb rfl)) (Ch.nil (T_seq ?_))
      refine T_regionD hc (by kernel_rfl) ?_
      refine ChD.s (.ptr 7000 0) [] (.pure (.fldPtr _ _ _ rfl fld125_0 rfl)) (ChD.s (.d (.int .i64 ((x.arcs.getD m default).src))) [7000] (.pure (.loadPtr1 _ _ rfl ag3 rfl rfl rfl)) (ChD.s (.d (.int .i64 ((x.codes.length : Int) - 1))) [] pm (ChD.s (.d (.bool (withinB ((x.arcs.getD m default).src) 0 ((x.codes.length : Int) - 1)))) [] (.call 53000 91 _ _ _ en91 rfl (.inl rfl) (.cons (.d _) (.cons (.d _) (.cons (.d _) .nil))) rfl rfl (sp_impl_within ((x.arcs.getD m default).src) 0 ((x.codes.length : Int) - 1)) (.skip _ _ (.skip _ _ (.skip _ _ .nil))) rfl) (ChD.s (.d (.bool (!(withinB ((x.arcs.getD m default).src) 0 ((x.codes.length : Int) - 1))))) [] (.pure (.not _ _ rfl rfl)) (ChD.s (.d (.bool (!(withinB ((x.arcs.getD m default).src) 0 ((x.codes.length : Int) - 1))))) [] pm ?_)))))
      cases h7 : (withinB ((x.arcs.getD m default).src) 0 ((x.codes.length : Int) - 1)) with
      | true =>
       try have hw7 := within_two h7
       refine ChD.s (.ptr 7000 3) [] (.pure (.fldPtr _ _ _ rfl fld125_3 rfl)) (ChD.s (.d (.int .i64 ((x.arcs.getD m default).dst))) [7000] (.pure (.loadPtr1 _ _ rfl ag3 rfl rfl rfl)) (ChD.s (.d (.int .i64 ((x.codes.length : Int) - 1))) [] pm (ChD.s (.d (.bool (withinB ((x.arcs.getD m default).dst) 0 ((x.codes.length : Int) - 1)))) [] (.call 59000 91 _ _ _ en91 rfl (.inl rfl) (.cons (.d _) (.cons (.d _) (.cons (.d _) .nil))) rfl rfl (sp_impl_within ((x.arcs.getD m default).dst) 0 ((x.codes.length : Int) - 1)) (.skip _ _ (.skip _ _ (.skip _ _ .nil))) rfl) (ChD.s (.d (.bool (!(withinB ((x.arcs.getD m default).dst) 0 ((x.codes.length : Int) - 1))))) [] (.pure (.not _ _ rfl rfl)) (ChD.s (.d (.bool (!(withinB ((x.arcs.getD m default).dst) 0 ((x.codes.length : Int) - 1))))) [] (.pure (.pickF _ _ _ rfl rfl rfl)) (ChD.s (.d (.bool (!(withinB ((x.arcs.getD m default).dst) 0 ((x.codes.length : Int) - 1))))) [] pm ?_))))))
       cases h8 : (withinB ((x.arcs.getD m default).dst) 0 ((x.codes.length : Int) - 1)) with
       | true =>
        try have hw8 := within_two h8
        try have hl1 := hca (x.arcs.getD m default).src (by omega) (by omega)
        try have hl2 := hca (x.arcs.getD m default).dst (by omega) (by omega)
        try have hl3 := hl1.2
        try have hl4 := hl2.2
        try unfold codeAt at hl3 hl4
        refine ChD.s (.ptr 7000 1) [] (.pure (.fldPtr _ _ _ rfl fld125_1 rfl)) (ChD.s (.d (.int .i64 ((x.arcs.getD m default).sig))) [7000] (.pure (.loadPtr1 _ _ rfl ag3 rfl rfl rfl)) (ChD.s (.ptr 7000 2) [] (.pure (.fldPtr _ _ _ rfl fld125_2 rfl)) (ChD.s (.d (.bool ((x.arcs.getD m default).up))) [7000] (.pure (.loadPtr1 _ _ rfl ag4 rfl rfl rfl)) (ChD.s (.agg [(.d (.int .i64 ((x.arcs.getD m default).sig))), (.d (.bool ((x.arcs.getD m default).up)))]) [] (.build _ _ rfl stru107 (.cons (.one _ rfl) (.cons (.one _ rfl) .nil)) rfl) (ChD.s (.ptr 1000 0) [] (.pure (.fldPtr _ _ _ rfl fld35_0 rfl)) (ChD.s (.d (.slice false 2 (x.sigs.map Sgn.d))) [1000] (.pure (.loadPtr1 _ _ rfl ag32 rfl rfl rfl)) (ChD.s (.d (.int .i64 (x.sigs.length : Int))) [] (.pure (.len _ _ 154 rfl Tryz.underlying32 (.sh _ _) (by simp))) ?_)))))))
        refine ChD.s (.d (.bool (edgeB (Lab.mk ((x.arcs.getD m default).sig) ((x.arcs.getD m default).up)) (x.sigs.length : Int)))) [] (.call 71000 188 _ _ _ en188 rfl (.inl rfl) (.cons (.lend (.agg (.cons (.d _) (.cons (.d _) .nil)) rfl)) (.cons (.d _) .nil)) rfl rfl (sp_impl_isEdge (Lab.mk ((x.arcs.getD m default).sig) ((x.arcs.getD m default).up)) (x.sigs.length : Int) a39 a39) (.skip _ _ (.skip _ _ .nil)) rfl) (ChD.s (.d (.bool (!(edgeB (Lab.mk ((x.arcs.getD m default).sig) ((x.arcs.getD m default).up)) (x.sigs.length : Int))))) [] (.pure (.not _ _ rfl rfl)) (ChD.s (.d (.bool (!(edgeB (Lab.mk ((x.arcs.getD m default).sig) ((x.arcs.getD m default).up)) (x.sigs.length : Int))))) [] (.pure (.pickF _ _ _ rfl rfl rfl)) (ChD.s (.d (.bool (!(edgeB (Lab.mk ((x.arcs.getD m default).sig) ((x.arcs.getD m default).up)) (x.sigs.length : Int))))) [] pm ?_)))
        cases h9 : (edgeB (Lab.mk ((x.arcs.getD m default).sig) ((x.arcs.getD m default).up)) (x.sigs.length : Int)) with
        | true =>
         refine ChD.s (.agg [(.d (.int .i64 ((x.arcs.getD m default).src))), (.d (.int .i64 ((x.arcs.getD m default).sig))), (.d (.bool ((x.arcs.getD m default).up))), (.d (.int .i64 ((x.arcs.getD m default).dst)))]) [7000] (.pure (.loadPtrA _ _ rfl ag125 sz125 rfl rfl (lb rfl) rfl)) (ChD.s (.ptr 1000 1) [] (.pure (.fldPtr _ _ _ rfl fld35_1 rfl)) (ChD.s (.d (.slice false 1 (x.codes.map D.str))) [1000] (.pure (.loadPtr1 _ _ rfl ag23 rfl rfl rfl)) (ChD.s (.ptr 7000 0) [] (.pure (.fldPtr _ _ _ rfl fld125_0 rfl)) (ChD.s (.d (.int .i64 ((x.arcs.getD m default).src))) [7000] (.pure (.loadPtr1 _ _ rfl ag3 rfl rfl rfl)) (ChD.s (.d (.ref (.str (x.codes.getD ((((x.arcs.getD m default).src)).toNat) default)))) [] (.pure (.idx _ _ _ 9 ((((x.arcs.getD m default).src)).toNat) rfl Tryz.underlying23 sz9 rfl rfl (by omega) get_mapA)) (ChD.s (.d (.str (x.codes.getD ((((x.arcs.getD m default).src)).toNat) default))) [] (.pure (.loadRef1 _ _ rfl ag9 rfl rfl)) (ChD.s (.ptr 1000 1) [] (.pure (.fldPtr _ _ _ rfl fld35_1 rfl)) ?_)))))))
         refine ChD.s (.d (.slice false 1 (x.codes.map D.str))) [1000] (.pure (.loadPtr1 _ _ rfl ag23 rfl rfl rfl)) (ChD.s (.ptr 7000 3) [] (.pure (.fldPtr _ _ _ rfl fld125_3 rfl)) (ChD.s (.d (.int .i64 ((x.arcs.getD m default).dst))) [7000] (.pure (.loadPtr1 _ _ rfl ag3 rfl rfl rfl)) (ChD.s (.d (.ref (.str (x.codes.getD ((((x.arcs.getD m default).dst)).toNat) default)))) [] (.pure (.idx _ _ _ 9 ((((x.arcs.getD m default).dst)).toNat) rfl Tryz.underlying23 sz9 rfl rfl (by omega) get_mapA)) (ChD.s (.d (.str (x.codes.getD ((((x.arcs.getD m default).dst)).toNat) default))) [] (.pure (.loadRef1 _ _ rfl ag9 rfl rfl)) (ChD.s (.d (.bool (fitB (x.arcs.getD m default) (x.codes.getD ((((x.arcs.getD m default).src)).toNat) default) (x.codes.getD ((((x.arcs.getD m default).dst)).toNat) default)))) [] (.call 88000 189 _ _ _ en189 rfl (.inl rfl) (.cons (.lend (.agg (.cons (.d _) (.cons (.d _) (.cons (.d _) (.cons (.d _) .nil)))) rfl)) (.cons (.d _) (.cons (.d _) .nil))) rfl rfl (sp_impl_fitsCodes (x.arcs.getD m default) (x.codes.getD ((((x.arcs.getD m default).src)).toNat) default) (x.codes.getD ((((x.arcs.getD m default).dst)).toNat) default) a39 a39) (.skip _ _ (.skip _ _ (.skip _ _ .nil))) rfl) (ChD.s (.d (.bool (!(fitB (x.arcs.getD m default) (x.codes.getD ((((x.arcs.getD m default).src)).toNat) default) (x.codes.getD ((((x.arcs.getD m default).dst)).toNat) default))))) [] (.pure (.not _ _ rfl rfl)) (ChD.s (.d (.bool (!(fitB (x.arcs.getD m default) (x.codes.getD ((((x.arcs.getD m default).src)).toNat) default) (x.codes.getD ((((x.arcs.getD m default).dst)).toNat) default))))) [] (.pure (.pickF _ _ _ rfl rfl rfl)) ?_)))))))
         refine ChD.nil (And.intro ?_ (by kernel_rfl))
         refine T_condN (b := (fitB (x.arcs.getD m default) (x.codes.getD ((((x.arcs.getD m default).src)).toNat) default) (x.codes.getD ((((x.arcs.getD m default).dst)).toNat) default))) rfl (fun h10 => ?_) (fun h10 => ?_)
         ·
          refine T_seq (T_region hc (Ch.s (.d (.bool false)) pa (Ch.nil (T_ret ?_))))
          exact endR [(.d (.bool false))] [] [] (.cons (.tmp 2 rfl) .nil) (.cons (.any _) .nil) (Exp.of (congrArg D.bool a21) (.d _)) rfl rfl
         ·
          refine T_skip (T_region hc (Ch.s (.d (.int .i64 ((m : Int) + 1))) (iX rfl rfl intV_addA) (Ch.s (.d (.int .i64 ((m : Int) + 1))) pm (Ch.nil ?_))))
          exact nx (m + 1) ⟨by omega, upto_succ hp1.2 a108⟩ (Wk.of rfl rfl (ai rfl (ai rfl (ai rfl (ai rfl (ai (vI a114) trivial))))) (ai rfl trivial))
        | false =>
         refine ChD.skip rfl rfl (ChD.skip rfl rfl (ChD.skip rfl rfl (ChD.skip rfl rfl (ChD.skip rfl rfl (ChD.skip rfl rfl (ChD.skip rfl rfl (ChD.skip rfl rfl ?_)))))))
         refine ChD.skip rfl rfl (ChD.skip rfl rfl (ChD.skip rfl rfl (ChD.skip rfl rfl (ChD.skip rfl rfl (ChD.skip rfl rfl (ChD.skip rfl rfl (ChD.s (.d (.bool true)) [] (.pure (.pickT _ _ _ rfl rfl rfl)) ?_)))))))
         refine ChD.nil (And.intro ?_ (by kernel_rfl))
         refine T_cond (b := true) rfl (fun _ => ?_) (fun h => nomatch h)
         refine T_seq (T_region hc (Ch.s (.d (.bool false)) pa (Ch.nil (T_ret ?_))))
         exact endR [(.d (.bool false))] [] [] (.cons (.tmp 2 rfl) .nil) (.cons (.any _) .nil) (Exp.of (congrArg D.bool a21) (.d _)) rfl rfl
       | false =>
        try have hw8 := within_two h8
        try have hl1 := hca (x.arcs.getD m default).src (by omega) (by omega)
        try have hl2 := hca (x.arcs.getD m default).dst (by omega) (by omega)
        try have hl3 := hl1.2
        try have hl4 := hl2.2
        try unfold codeAt at hl3 hl4
        refine ChD.skip rfl rfl (ChD.skip rfl rfl (ChD.skip rfl rfl (ChD.skip rfl rfl (ChD.skip rfl rfl (ChD.skip rfl rfl (ChD.skip rfl rfl (ChD.skip rfl rfl ?_)))))))
        refine ChD.skip rfl rfl (ChD.skip rfl rfl (ChD.s (.d (.bool true)) [] (.pure (.pickT _ _ _ rfl rfl rfl)) (ChD.s (.d (.bool true)) [] pm (ChD.skip rfl rfl (ChD.skip rfl rfl (ChD.skip rfl rfl (ChD.skip rfl rfl ?_)))))))
        refine ChD.skip rfl rfl (ChD.skip rfl rfl (ChD.skip rfl rfl (ChD.skip rfl rfl (ChD.skip rfl rfl (ChD.skip rfl rfl (ChD.skip rfl rfl (ChD.skip rfl rfl ?_)))))))
        refine ChD.skip rfl rfl (ChD.skip rfl rfl (ChD.skip rfl rfl (ChD.s (.d (.bool true)) [] (.pure (.pickT _ _ _ rfl rfl rfl)) ?_)))
        refine ChD.nil (And.intro ?_ (by kernel_rfl))
        refine T_cond (b := true) rfl (fun _ => ?_) (fun h => nomatch h)
        refine T_seq (T_region hc (Ch.s (.d (.bool false)) pa (Ch.nil (T_ret ?_))))
        exact endR [(.d (.bool false))] [] [] (.cons (.tmp 2 rfl) .nil) (.cons (.any _) .nil) (Exp.of (congrArg D.bool a21) (.d _)) rfl rfl
      | false =>
       try have hw7 := within_two h7
       refine ChD.skip rfl rfl (ChD.skip rfl rfl (ChD.skip rfl rfl (ChD.skip rfl rfl (ChD.skip rfl rfl (ChD.s (.d (.bool true)) [] (.pure (.pickT _ _ _ rfl rfl rfl)) (ChD.s (.d (.bool true)) [] pm (ChD.skip rfl rfl ?_)))))))
       refine ChD.skip rfl rfl (ChD.skip rfl rfl (ChD.skip rfl rfl (ChD.skip rfl rfl (ChD.skip rfl rfl (ChD.skip rfl rfl (ChD.skip rfl rfl (ChD.skip rfl rfl ?_)))))))
       refine ChD.skip rfl rfl (ChD.s (.d (.bool true)) [] (.pure (.pickT _ _ _ rfl rfl rfl)) (ChD.s (.d (.bool true)) [] pm (ChD.skip rfl rfl (ChD.skip rfl rfl (ChD.skip rfl rfl (ChD.skip rfl rfl (ChD.skip rfl rfl ?_)))))))
       refine ChD.skip rfl rfl (ChD.skip rfl rfl (ChD.skip rfl rfl (ChD.skip rfl rfl (ChD.skip rfl rfl (ChD.skip rfl rfl (ChD.skip rfl rfl (ChD.skip rfl rfl ?_)))))))
       refine ChD.skip rfl rfl (ChD.skip rfl rfl (ChD.s (.d (.bool true)) [] (.pure (.pickT _ _ _ rfl rfl rfl)) ?_))
       refine ChD.nil (And.intro ?_ (by kernel_rfl))
       refine T_cond (b := true) rfl (fun _ => ?_) (fun h => nomatch h)
       refine T_seq (T_region hc (Ch.s (.d (.bool false)) pa (Ch.nil (T_ret ?_))))
       exact endR [(.d (.bool false))] [] [] (.cons (.tmp 2 rfl) .nil) (.cons (.any _) .nil) (Exp.of (congrArg D.bool a21) (.d _)) rfl rfl
     ·
      try have hal := sg_arcs (x := x) (k := m) (by omega) hp1.2
      try have hen := arc_ends hal
      try have hse := steps_ends hen
      try have hsl := stepsOf_len x.arcs
      try have hdl := distF_len (n := x.codes.length) (s := 0) (by omega) hse
      refine T_exit (T_seq ?_)
      refine T_regionD hc (by kernel_rfl) ?_
      refine ChD.s (.ptr 1000 1) [] (.pure (.fldPtr _ _ _ rfl fld35_1 rfl)) (ChD.s (.d (.slice false 1 (x.codes.map D.str))) [1000] (.pure (.loadPtr1 _ _ rfl ag23 rfl rfl rfl)) (ChD.s (.d (.int .i64 (x.codes.length : Int))) [] (.pure (.len _ _ 9 rfl Tryz.underlying23 (.sh _ _) (by simp))) (ChD.s (.ptr 1000 2) [] (.pure (.fldPtr _ _ _ rfl fld35_2 rfl)) (ChD.s (.d (.slice false 4 (x.arcs.map Arc.d))) [1000] (.pure (.loadPtr1 _ _ rfl ag33 rfl rfl rfl)) (ChD.s (.row 97000) [] (.call 97000 191 _ _ _ en191 rfl (.inl rfl) (.cons (.d _) .nil) rfl (sol (solid_row (fun _ => rfl) _) rfl) (sp_impl_arcSteps x.arcs a39) (.skip _ _ .nil) rfl) (ChD.s (.row 98000) [97000] (.call 98000 190 _ _ _ en190 rfl (.inl rfl) (.cons (.d _) (.cons (.lend (.row rfl (frozs_map (fun _ => rfl) _))) (.cons (.d _) .nil))) rfl (sol (solid_row (fun _ => rfl) _) rfl) (sp_impl_distances x.codes.length (stepsOf x.arcs) 0 a39 a39 a39 (by assumption)) (.skip _ _ (.skip _ _ (.skip _ _ .nil))) rfl) (ChD.s (.d (.bool (hasI (distF x.codes.length (stepsOf x.arcs) 0) (-1)))) [98000] (.call 99000 160 _ _ _ en160 rfl (.inl rfl) (.cons (.lend (.row rfl (frozs_map (fun _ => rfl) _))) (.cons (.d _) .nil)) rfl rfl (sp_Contains_int (distF x.codes.length (stepsOf x.arcs) 0) (-1) a39) (.skip _ _ (.skip _ _ .nil)) rfl) ?_)))))))
      refine ChD.s (.d (.bool (!(hasI (distF x.codes.length (stepsOf x.arcs) 0) (-1))))) [] (.pure (.not _ _ rfl rfl)) (ChD.s (.d (.bool (!(hasI (distF x.codes.length (stepsOf x.arcs) 0) (-1))))) [] pa ?_)
      refine ChD.nil (And.intro ?_ (by kernel_rfl))
      refine T_ret ?_
      exact endR [(.d (.bool (!(hasI (distF x.codes.length (stepsOf x.arcs) 0) (-1)))))] [] [] (.cons (.tmp 2 rfl) .nil) (.cons (.any _) .nil) (Exp.of (congrArg D.bool a21) (.d _)) rfl rfl
  | false =>
   try have hw2 := within_two h2
   refine Ch.skip rfl rfl (Ch.skip rfl rfl (Ch.skip rfl rfl (Ch.skip rfl rfl (Ch.s (.d (.bool true)) (.pure (.pickT _ _ _ rfl rfl rfl)) (Ch.nil ?_)))))
   refine T_cond (b := true) rfl (fun _ => ?_) (fun h => nomatch h)
   refine T_seq (T_region hc (Ch.s (.d (.bool false)) pa (Ch.nil (T_ret ?_))))
   exact endR [(.d (.bool false))] [] [] (.cons (.tmp 2 rfl) .nil) (.cons (.any _) .nil) (Exp.of (congrArg D.bool a21) (.d _)) rfl rfl
 | false =>
  refine Ch.skip rfl rfl (Ch.skip rfl rfl (Ch.skip rfl rfl (Ch.skip rfl rfl (Ch.skip rfl rfl (Ch.s (.d (.bool true)) (.pure (.pickT _ _ _ rfl rfl rfl)) (Ch.s (.d (.bool true)) pm (Ch.skip rfl rfl ?_)))))))
  refine Ch.skip rfl rfl (Ch.skip rfl rfl (Ch.skip rfl rfl (Ch.s (.d (.bool true)) (.pure (.pickT _ _ _ rfl rfl rfl)) (Ch.nil ?_))))
  refine T_cond (b := true) rfl (fun _ => ?_) (fun h => nomatch h)
  refine T_seq (T_region hc (Ch.s (.d (.bool false)) pa (Ch.nil (T_ret ?_))))
  exact endR [(.d (.bool false))] [] [] (.cons (.tmp 2 rfl) .nil) (.cons (.any _) .nil) (Exp.of (congrArg D.bool a21) (.d _)) rfl rfl

set_option maxHeartbeats 2000000 in
theorem sp_spec_l5Arc (x : Sgr) (a : Arc) (hb : x.bulk ≤ 1048576) (h8 : x.sigs.length ≤ 8) (hcl : allOf x.codes (fun u => codeN u (x.sigs.length : Int)) = true) : Sp Tryz.prog 164 [(.agg [(.slice false 2 (x.sigs.map Sgn.d)), (.slice false 1 (x.codes.map D.str)), (.slice false 4 (x.arcs.map Arc.d))]), (.agg [(.int .i64 a.src), (.int .i64 a.sig), (.bool (a.up)), (.int .i64 a.dst)])] [.any, .any] (.bool (arcB x a)) := by
 refine Sp_intro (lend := true) Tryz.func164 rfl rfl rfl (fun _ => rfl) (fun c hc hX => ?_)
 obtain ⟨hp0, hp1, hp2⟩ := Sgr.parts hb
 have hn0 := bulkF_len hp0
 have hn1 := bulk_len hp1
 have hx1 := bulk_mem hp1
 have hn2 := bulkF_len hp2; have hca := codes_at hcl
 refine T_seq (T_region hc (Ch.s (.ptr 2000 0) (.box 2000 _ _ rfl (.aggD _)) (Ch.s (.ptr 3000 0) (.box 3000 _ _ rfl (.aggD _)) (Ch.s (.d (.bool false)) pa (Ch.nil (T_seq (T_seq ?_)))))))
 refine T_region hc (Ch.s (.ptr 3000 0) (.pure (.fldPtr _ _ _ rfl fld125_0 rfl)) (Ch.s (.d (.int .i64 a.src)) (.pure (.loadPtr1 _ _ rfl ag3 rfl rfl rfl)) (Ch.s (.ptr 2000 1) (.pure (.fldPtr _ _ _ rfl fld35_1 rfl)) (Ch.s (.d (.slice false 1 (x.codes.map D.str))) (.pure (.loadPtr1 _ _ rfl ag23 rfl rfl rfl)) (Ch.s (.d (.int .i64 (x.codes.length : Int))) (.pure (.len _ _ 9 rfl Tryz.underlying23 (.sh _ _) (by simp))) (Ch.s (.d (.int .i64 ((x.codes.length : Int) - 1))) (iX rfl rfl intV_subA) (Ch.s (.d (.bool (withinB a.src 0 ((x.codes.length : Int) - 1)))) (.call 13000 89 _ _ _ en89 rfl (.inl rfl) (.cons (.d _) (.cons (.d _) (.cons (.d _) .nil))) rfl rfl (sp_spec_l1In a.src 0 ((x.codes.length : Int) - 1)) (.skip _ _ (.skip _ _ (.skip _ _ .nil))) rfl) ?_)))))))
 refine Ch.s (.d (.bool (!(withinB a.src 0 ((x.codes.length : Int) - 1))))) (.pure (.not _ _ rfl rfl)) (Ch.s (.d (.bool (!(withinB a.src 0 ((x.codes.length : Int) - 1))))) pm ?_)
 cases h1 : (withinB a.src 0 ((x.codes.length : Int) - 1)) with
 | true =>
  try have hw1 := within_two h1
  refine Ch.s (.ptr 3000 3) (.pure (.fldPtr _ _ _ rfl fld125_3 rfl)) (Ch.s (.d (.int .i64 a.dst)) (.pure (.loadPtr1 _ _ rfl ag3 rfl rfl rfl)) (Ch.s (.ptr 2000 1) (.pure (.fldPtr _ _ _ rfl fld35_1 rfl)) (Ch.s (.d (.slice false 1 (x.codes.map D.str))) (.pure (.loadPtr1 _ _ rfl ag23 rfl rfl rfl)) (Ch.s (.d (.int .i64 (x.codes.length : Int))) (.pure (.len _ _ 9 rfl Tryz.underlying23 (.sh _ _) (by simp))) (Ch.s (.d (.int .i64 ((x.codes.length : Int) - 1))) (iX rfl rfl intV_subA) (Ch.s (.d (.bool (withinB a.dst 0 ((x.codes.length : Int) - 1)))) (.call 22000 89 _ _ _ en89 rfl (.inl rfl) (.cons (.d _) (.cons (.d _) (.cons (.d _) .nil))) rfl rfl (sp_spec_l1In a.dst 0 ((x.codes.length : Int) - 1)) (.skip _ _ (.skip _ _ (.skip _ _ .nil))) rfl) (Ch.s (.d (.bool (!(withinB a.dst 0 ((x.codes.length : Int) - 1))))) (.pure (.not _ _ rfl rfl)) ?_)))))))
  refine Ch.s (.d (.bool (!(withinB a.dst 0 ((x.codes.length : Int) - 1))))) (.pure (.pickF _ _ _ rfl rfl rfl)) (Ch.s (.d (.bool (!(withinB a.dst 0 ((x.codes.length : Int) - 1))))) pm ?_)
  cases h2 : (withinB a.dst 0 ((x.codes.length : Int) - 1)) with
  | true =>
   try have hw2 := within_two h2
   try have hl1 := hca a.src (by omega) (by omega)
   try have hl2 := hca a.dst (by omega) (by omega)
   try have hl3 := hl1.2
   try have hl4 := hl2.2
   try unfold codeAt at hl3 hl4
   refine Ch.s (.ptr 3000 1) (.pure (.fldPtr _ _ _ rfl fld125_1 rfl)) (Ch.s (.d (.int .i64 a.sig)) (.pure (.loadPtr1 _ _ rfl ag3 rfl rfl rfl)) (Ch.s (.ptr 3000 2) (.pure (.fldPtr _ _ _ rfl fld125_2 rfl)) (Ch.s (.d (.bool (a.up))) (.pure (.loadPtr1 _ _ rfl ag4 rfl rfl rfl)) (Ch.s (.agg [(.d (.int .i64 a.sig)), (.d (.bool (a.up)))]) (.build _ _ rfl stru107 (.cons (.one _ rfl) (.cons (.one _ rfl) .nil)) rfl) (Ch.s (.ptr 2000 0) (.pure (.fldPtr _ _ _ rfl fld35_0 rfl)) (Ch.s (.d (.slice false 2 (x.sigs.map Sgn.d))) (.pure (.loadPtr1 _ _ rfl ag32 rfl rfl rfl)) (Ch.s (.d (.int .i64 (x.sigs.length : Int))) (.pure (.len _ _ 154 rfl Tryz.underlying32 (.sh _ _) (by simp))) ?_)))))))
   refine Ch.s (.d (.bool (edgeB (Lab.mk a.sig a.up) (x.sigs.length : Int)))) (.call 34000 219 _ _ _ en219 rfl (.inl rfl) (.cons (.lend (.agg (.cons (.d _) (.cons (.d _) .nil)) rfl)) (.cons (.d _) .nil)) rfl rfl (sp_spec_l2Label (Lab.mk a.sig a.up) (x.sigs.length : Int) a39 a39) (.skip _ _ (.skip _ _ .nil)) rfl) (Ch.s (.d (.bool (!(edgeB (Lab.mk a.sig a.up) (x.sigs.length : Int))))) (.pure (.not _ _ rfl rfl)) (Ch.s (.d (.bool (!(edgeB (Lab.mk a.sig a.up) (x.sigs.length : Int))))) (.pure (.pickF _ _ _ rfl rfl rfl)) (Ch.nil ?_)))
   refine T_condN (b := (edgeB (Lab.mk a.sig a.up) (x.sigs.length : Int))) rfl (fun h3 => ?_) (fun h3 => ?_)
   ·
    refine T_seq (T_region hc (Ch.s (.d (.bool false)) pa (Ch.nil (T_ret ?_))))
    exact endR [(.d (.bool false))] [] [] (.cons (.tmp 4 rfl) .nil) (.cons (.any _) (.cons (.any _) .nil)) (Exp.of (congrArg D.bool a11) (.d _)) rfl rfl
   ·
    refine T_skip (T_seq ?_)
    refine T_regionD hc (by kernel_rfl) ?_
    refine ChD.s (.ptr 2000 1) [] (.pure (.fldPtr _ _ _ rfl fld35_1 rfl)) (ChD.s (.d (.slice false 1 (x.codes.map D.str))) [2000] (.pure (.loadPtr1 _ _ rfl ag23 rfl rfl rfl)) (ChD.s (.ptr 3000 0) [] (.pure (.fldPtr _ _ _ rfl fld125_0 rfl)) (ChD.s (.d (.int .i64 a.src)) [3000] (.pure (.loadPtr1 _ _ rfl ag3 rfl rfl rfl)) (ChD.s (.d (.ref (.str (x.codes.getD ((a.src).toNat) default)))) [] (.pure (.idx _ _ _ 9 ((a.src).toNat) rfl Tryz.underlying23 sz9 rfl rfl (by omega) get_mapA)) (ChD.s (.d (.str (x.codes.getD ((a.src).toNat) default))) [] (.pure (.loadRef1 _ _ rfl ag9 rfl rfl)) (ChD.s (.ptr 2000 1) [] (.pure (.fldPtr _ _ _ rfl fld35_1 rfl)) (ChD.s (.d (.slice false 1 (x.codes.map D.str))) [2000] (.pure (.loadPtr1 _ _ rfl ag23 rfl rfl rfl)) ?_)))))))
    refine ChD.s (.ptr 3000 3) [] (.pure (.fldPtr _ _ _ rfl fld125_3 rfl)) (ChD.s (.d (.int .i64 a.dst)) [3000] (.pure (.loadPtr1 _ _ rfl ag3 rfl rfl rfl)) (ChD.s (.d (.ref (.str (x.codes.getD ((a.dst).toNat) default)))) [] (.pure (.idx _ _ _ 9 ((a.dst).toNat) rfl Tryz.underlying23 sz9 rfl rfl (by omega) get_mapA)) (ChD.s (.d (.str (x.codes.getD ((a.dst).toNat) default))) [] (.pure (.loadRef1 _ _ rfl ag9 rfl rfl)) (ChD.s (.d (.str (x.codes.getD ((a.src).toNat) default))) [] pa (ChD.s (.d (.str (x.codes.getD ((a.dst).toNat) default))) [] pa ?_)))))
    refine ChD.nil (And.intro ?_ (by kernel_rfl))
    refine T_seq (T_seq (T_region hc (Ch.s (.ptr 3000 1) (.pure (.fldPtr _ _ _ rfl fld125_1 rfl)) (Ch.s (.d (.int .i64 a.sig)) (.pure (.loadPtr1 _ _ rfl ag3 rfl rfl rfl)) (Ch.s (.d (.bool (decide (a.sig < 0)))) (iX rfl rfl rfl) (Ch.nil ?_))))))
    refine T_condD (p := (a.sig < 0)) rfl (fun h4 => ?_) (fun h4 => ?_)
    ·
     try have hf4 := fit_neg (a := a) (u := codeAt x a.src) (v := codeAt x a.dst) (by omega) (by omega)
     try have hf5 := fit_pos (a := a) hl1.1 hl2.1 (by omega) (by have := edge_lt h3; omega)
     try have hlt := edge_lt h3
     refine T_seq (T_region hc (Ch.s (.d (.str (x.codes.getD ((a.src).toNat) default))) pm (Ch.s (.d (.str (x.codes.getD ((a.dst).toNat) default))) pm (Ch.s (.d (.bool (decide ((x.codes.getD ((a.src).toNat) default) = (x.codes.getD ((a.dst).toNat) default))))) (.pure (.str _ _ _ _ _ rfl rfl rfl rfl)) (Ch.s (.d (.bool (decide ((x.codes.getD ((a.src).toNat) default) = (x.codes.getD ((a.dst).toNat) default))))) pa (Ch.nil (T_ret ?_)))))))
     exact endR [(.d (.bool (decide ((x.codes.getD ((a.src).toNat) default) = (x.codes.getD ((a.dst).toNat) default)))))] [] [] (.cons (.tmp 4 rfl) .nil) (.cons (.any _) (.cons (.any _) .nil)) (Exp.of (congrArg D.bool a11) (.d _)) rfl rfl
    ·
     try have hf4 := fit_neg (a := a) (u := codeAt x a.src) (v := codeAt x a.dst) (by omega) (by omega)
     try have hf5 := fit_pos (a := a) hl1.1 hl2.1 (by omega) (by have := edge_lt h3; omega)
     try have hlt := edge_lt h3
     refine T_skip (T_seq ?_)
     refine T_regionD hc (by kernel_rfl) ?_
     refine ChD.s (.d (.str (x.codes.getD ((a.src).toNat) default))) [] pm (ChD.s (.d (.str (x.codes.getD ((a.dst).toNat) default))) [] pm (ChD.s (.ptr 3000 1) [] (.pure (.fldPtr _ _ _ rfl fld125_1 rfl)) (ChD.s (.d (.int .i64 a.sig)) [3000] (.pure (.loadPtr1 _ _ rfl ag3 rfl rfl rfl)) (ChD.s (.ptr 3000 2) [] (.pure (.fldPtr _ _ _ rfl fld125_2 rfl)) (ChD.s (.d (.bool (a.up))) [3000] (.pure (.loadPtr1 _ _ rfl ag4 rfl rfl rfl)) (ChD.s (.d (.bool (!(a.up)))) [] (.pure (.not _ _ rfl rfl)) (ChD.s (.d (.str ([bitN (!(a.up))]))) [] (.call 62000 214 _ _ _ en214 rfl (.inl rfl) (.cons (.d _) .nil) rfl rfl (sp_spec_l5Bit (!(a.up))) (.skip _ _ .nil) rfl) ?_)))))))
     refine ChD.s (.d (.str ((x.codes.getD ((a.dst).toNat) default).take a.sig.toNat ++ ([bitN (!(a.up))]) ++ (x.codes.getD ((a.dst).toNat) default).drop (a.sig + 1).toNat))) [] (.call 63000 220 _ _ _ en220 rfl (.inl rfl) (.cons (.d _) (.cons (.d _) (.cons (.d _) .nil))) rfl rfl (sp_spec_l5Set (x.codes.getD ((a.dst).toNat) default) a.sig ([bitN (!(a.up))]) a23 (by first | omega | (simp; done) | assumption) a23 a23) (.skip _ _ (.skip _ _ (.skip _ _ .nil))) rfl) (ChD.s (.d (.bool (decide ((x.codes.getD ((a.src).toNat) default) = ((x.codes.getD ((a.dst).toNat) default).take a.sig.toNat ++ ([bitN (!(a.up))]) ++ (x.codes.getD ((a.dst).toNat) default).drop (a.sig + 1).toNat))))) [] (.pure (.str _ _ _ _ _ rfl rfl rfl rfl)) (ChD.s (.d (.bool (decide ((x.codes.getD ((a.src).toNat) default) = ((x.codes.getD ((a.dst).toNat) default).take a.sig.toNat ++ ([bitN (!(a.up))]) ++ (x.codes.getD ((a.dst).toNat) default).drop (a.sig + 1).toNat))))) [] pm ?_))
     cases h5 : (decide ((x.codes.getD ((a.src).toNat) default) = ((x.codes.getD ((a.dst).toNat) default).take a.sig.toNat ++ ([bitN (!(a.up))]) ++ (x.codes.getD ((a.dst).toNat) default).drop (a.sig + 1).toNat))) with
     | true =>
      replace h5 := of_decide_eq_true h5
      refine ChD.s (.d (.str (x.codes.getD ((a.dst).toNat) default))) [] pm (ChD.s (.d (.str (x.codes.getD ((a.src).toNat) default))) [] pm (ChD.s (.ptr 3000 1) [] (.pure (.fldPtr _ _ _ rfl fld125_1 rfl)) (ChD.s (.d (.int .i64 a.sig)) [3000] (.pure (.loadPtr1 _ _ rfl ag3 rfl rfl rfl)) (ChD.s (.ptr 3000 2) [] (.pure (.fldPtr _ _ _ rfl fld125_2 rfl)) (ChD.s (.d (.bool (a.up))) [3000] (.pure (.loadPtr1 _ _ rfl ag4 rfl rfl rfl)) (ChD.s (.d (.str ([bitN (a.up)]))) [] (.call 72000 214 _ _ _ en214 rfl (.inl rfl) (.cons (.d _) .nil) rfl rfl (sp_spec_l5Bit (a.up)) (.skip _ _ .nil) rfl) (ChD.s (.d (.str ((x.codes.getD ((a.src).toNat) default).take a.sig.toNat ++ ([bitN (a.up)]) ++ (x.codes.getD ((a.src).toNat) default).drop (a.sig + 1).toNat))) [] (.call 73000 220 _ _ _ en220 rfl (.inl rfl) (.cons (.d _) (.cons (.d _) (.cons (.d _) .nil))) rfl rfl (sp_spec_l5Set (x.codes.getD ((a.src).toNat) default) a.sig ([bitN (a.up)]) a23 (by first | omega | (simp; done) | assumption) a23 a23) (.skip _ _ (.skip _ _ (.skip _ _ .nil))) rfl) ?_)))))))
      refine ChD.s (.d (.bool (decide ((x.codes.getD ((a.dst).toNat) default) = ((x.codes.getD ((a.src).toNat) default).take a.sig.toNat ++ ([bitN (a.up)]) ++ (x.codes.getD ((a.src).toNat) default).drop (a.sig + 1).toNat))))) [] (.pure (.str _ _ _ _ _ rfl rfl rfl rfl)) (ChD.s (.d (.bool (decide ((x.codes.getD ((a.dst).toNat) default) = ((x.codes.getD ((a.src).toNat) default).take a.sig.toNat ++ ([bitN (a.up)]) ++ (x.codes.getD ((a.src).toNat) default).drop (a.sig + 1).toNat))))) [] (.pure (.pickT _ _ _ rfl rfl rfl)) (ChD.s (.d (.bool (decide ((x.codes.getD ((a.dst).toNat) default) = ((x.codes.getD ((a.src).toNat) default).take a.sig.toNat ++ ([bitN (a.up)]) ++ (x.codes.getD ((a.src).toNat) default).drop (a.sig + 1).toNat))))) [] pa ?_))
      refine ChD.nil (And.intro ?_ (by kernel_rfl))
      refine T_ret ?_
      exact endR [(.d (.bool (decide ((x.codes.getD ((a.dst).toNat) default) = ((x.codes.getD ((a.src).toNat) default).take a.sig.toNat ++ ([bitN (a.up)]) ++ (x.codes.getD ((a.src).toNat) default).drop (a.sig + 1).toNat)))))] [] [] (.cons (.tmp 4 rfl) .nil) (.cons (.any _) (.cons (.any _) .nil)) (Exp.of (congrArg D.bool a11) (.d _)) rfl rfl
     | false =>
      replace h5 := of_decide_eq_false h5
      refine ChD.skip rfl rfl (ChD.skip rfl rfl (ChD.skip rfl rfl (ChD.skip rfl rfl (ChD.skip rfl rfl (ChD.skip rfl rfl (ChD.skip rfl rfl (ChD.skip rfl rfl ?_)))))))
      refine ChD.skip rfl rfl (ChD.s (.d (.bool false)) [] (.pure (.pickF _ _ _ rfl rfl rfl)) (ChD.s (.d (.bool false)) [] pa ?_))
      refine ChD.nil (And.intro ?_ (by kernel_rfl))
      refine T_ret ?_
      exact endR [(.d (.bool false))] [] [] (.cons (.tmp 4 rfl) .nil) (.cons (.any _) (.cons (.any _) .nil)) (Exp.of (congrArg D.bool a11) (.d _)) rfl rfl
  | false =>
   try have hw2 := within_two h2
   try have hl1 := hca a.src (by omega) (by omega)
   try have hl2 := hca a.dst (by omega) (by omega)
   try have hl3 := hl1.2
   try have hl4 := hl2.2
   try unfold codeAt at hl3 hl4
   refine Ch.skip rfl rfl (Ch.skip rfl rfl (Ch.skip rfl rfl (Ch.skip rfl rfl (Ch.skip rfl rfl (Ch.skip rfl rfl (Ch.skip rfl rfl (Ch.skip rfl rfl ?_)))))))
   refine Ch.skip rfl rfl (Ch.skip rfl rfl (Ch.s (.d (.bool true)) (.pure (.pickT _ _ _ rfl rfl rfl)) (Ch.nil ?_)))
   refine T_cond (b := true) rfl (fun _ => ?_) (fun h => nomatch h)
   refine T_seq (T_region hc (Ch.s (.d (.bool false)) pa (Ch.nil (T_ret ?_))))
   exact endR [(.d (.bool false))] [] [] (.cons (.tmp 4 rfl) .nil) (.cons (.any _) (.cons (.any _) .nil)) (Exp.of (congrArg D.bool a11) (.d _)) rfl rfl
 | false =>
  try have hw1 := within_two h1
  refine Ch.skip rfl rfl (Ch.skip rfl rfl (Ch.skip rfl rfl (Ch.skip rfl rfl (Ch.skip rfl rfl (Ch.skip rfl rfl (Ch.skip rfl rfl (Ch.skip rfl rfl ?_)))))))
  refine Ch.s (.d (.bool true)) (.pure (.pickT _ _ _ rfl rfl rfl)) (Ch.s (.d (.bool true)) pm (Ch.skip rfl rfl (Ch.skip rfl rfl (Ch.skip rfl rfl (Ch.skip rfl rfl (Ch.skip rfl rfl (Ch.skip rfl rfl ?_)))))))
  refine Ch.skip rfl rfl (Ch.skip rfl rfl (Ch.skip rfl rfl (Ch.skip rfl rfl (Ch.s (.d (.bool true)) (.pure (.pickT _ _ _ rfl rfl rfl)) (Ch.nil ?_)))))
  refine T_cond (b := true) rfl (fun _ => ?_) (fun h => nomatch h)
  refine T_seq (T_region hc (Ch.s (.d (.bool false)) pa (Ch.nil (T_ret ?_))))
  exact endR [(.d (.bool false))] [] [] (.cons (.tmp 4 rfl) .nil) (.cons (.any _) (.cons (.any _) .nil)) (Exp.of (congrArg D.bool a11) (.d _)) rfl rfl

set_option maxHeartbeats 2000000 in
theorem sp_spec_l5All (x : Sgr) (hb : x.bulk ≤ 1048576) (hn : 1 ≤ x.codes.length) (hen : ends x.codes.length x.arcs) : Sp Tryz.prog 165 [(.agg [(.slice false 2 (x.sigs.map Sgn.d)), (.slice false 1 (x.codes.map D.str)), (.slice false 4 (x.arcs.map Arc.d))])] [.any] (.bool (!hasI (distF x.codes.length (stepsOf x.arcs) 0) (-1))) := by
 refine Sp_intro (lend := true) Tryz.func165 rfl rfl rfl (fun _ => rfl) (fun c hc hX => ?_)
 obtain ⟨hp0, hp1, hp2⟩ := Sgr.parts hb
 have hn0 := bulkF_len hp0
 have hn1 := bulk_len hp1
 have hx1 := bulk_mem hp1
 have hn2 := bulkF_len hp2
 refine T_seq (T_region hc (Ch.s (.ptr 1000 0) (.box 1000 _ _ rfl (.aggD _)) (Ch.s (.d (.bool false)) pa (Ch.nil (T_seq (T_region hc (Ch.s (.ptr 1000 1) (.pure (.fldPtr _ _ _ rfl fld35_1 rfl)) ?_)))))))
 refine Ch.s (.d (.slice false 1 (x.codes.map D.str))) (.pure (.loadPtr1 _ _ rfl ag23 rfl rfl rfl)) (Ch.s (.d (.int .i64 (x.codes.length : Int))) (.pure (.len _ _ 9 rfl Tryz.underlying23 (.sh _ _) (by simp))) (Ch.s (.row 11000) (.make 11000 _ 4 _ _ (x.codes.length) (x.codes.length) rfl sty146 rfl rfl rfl rfl a43 a43 a43 (zeroD_mk (zd := (.bool false)) zr4 a120 rfl)) (Ch.s (.row 11000) pa (Ch.nil (T_seq (T_region hc (Ch.s (.row 11000) pm ?_)))))))
 refine Ch.s (.el 11000 1 0 0) (.pure (.idxRow _ _ _ 4 (0) rfl Tryz.underlying146 sz4 rfl rfl rfl rfl a86)) (Ch.s .junk (.storeEl (y' := (.bool true)) _ _ _ rfl rfl rfl (.d _) rfl sz4 rfl (by rw [List.getElem?_replicate, if_pos (by omega)]) rfl rfl) (Ch.nil (T_seq (T_seq (T_region hc (Ch.s (.ptr 1000 1) (.pure (.fldPtr _ _ _ rfl fld35_1 rfl)) (Ch.s (.d (.slice false 1 (x.codes.map D.str))) (.pure (.loadPtr1 _ _ rfl ag23 rfl rfl rfl)) ?_)))))))
 refine Ch.s (.d (.int .i64 (x.codes.length : Int))) (.pure (.len _ _ 9 rfl Tryz.underlying23 (.sh _ _) (by simp))) (Ch.s (.d (.int .i64 0)) pm (Ch.nil (T_block ?_)))
 refine T_loop (ι := Nat) (fun k => { n := 46, sl := [(1, (.ptr 1000 0)), (3, (.row 3)), (16, (.d (.int .i64 (x.codes.length : Int)))), (17, (.d (.int .i64 (k : Int))))], hp := [(3, (some (.row 1 ((metIt x k).map D.bool)))), (1000, (some (.box (vX x))))], pin := [] }) (fun k => k ≤ x.codes.length) (fun k => x.codes.length - k) ⟨0, (by omega), (Wk.ren [(3, 11000)] rfl rfl rfl rfl (ai rfl (ai rfl (ai rfl (ai (vI a114) trivial)))) (ai (oR a98) (ai rfl trivial)))⟩ (fun k hp0 => ?_)
 have hml := metIt_len x k
 refine T_seq (T_region hc (Ch.s (.d (.bool (decide ((k : Int) < (x.codes.length : Int))))) (iX rfl rfl rfl) (Ch.nil (T_seq ?_))))
 refine T_condD (p := ((k : Int) < (x.codes.length : Int))) rfl (fun h1 => ?_) (fun h1 => ?_)
 ·
  refine T_skip (T_seq (T_block (T_seq (T_region hc (Ch.s (.ptr 1000 2) (.pure (.fldPtr _ _ _ rfl fld35_2 rfl)) (Ch.s (.d (.slice false 4 (x.arcs.map Arc.d))) (.pure (.loadPtr1 _ _ rfl ag33 rfl rfl rfl)) (Ch.s (.d (.int .i64 (x.arcs.length : Int))) (.pure (.len _ _ 125 rfl Tryz.underlying33 (.sh _ _) (by simp))) ?_)))))))
  refine Ch.s (.d (.int .i64 0)) pm (Ch.nil (T_block ?_))
  refine T_loop (ι := Nat) (fun m => { n := 46, sl := [(1, (.ptr 1000 0)), (3, (.row 3)), (16, (.d (.int .i64 (x.codes.length : Int)))), (17, (.d (.int .i64 (k : Int)))), (20, (.d (.slice false 4 (x.arcs.map Arc.d)))), (21, (.d (.int .i64 (x.arcs.length : Int)))), (22, (.d (.int .i64 (m : Int))))], hp := [(3, (some (.row 1 ((metTo x k m).map D.bool)))), (1000, (some (.box (vX x))))], pin := [] }) (fun m => m ≤ x.arcs.length) (fun m => x.arcs.length - m) ⟨0, (by omega), (Wk.of rfl rfl (ai rfl (ai rfl (ai rfl (ai rfl (ai rfl (ai rfl (ai (vI a114) trivial))))))) (ai (oR a61) (ai rfl trivial)))⟩ (fun m hp1 => ?_)
  have hmt := metTo_len x k m
  refine T_seq (T_region hc (Ch.s (.d (.bool (decide ((m : Int) < (x.arcs.length : Int))))) (iX rfl rfl rfl) (Ch.nil (T_seq ?_))))
  refine T_condD (p := ((m : Int) < (x.arcs.length : Int))) rfl (fun h2 => ?_) (fun h2 => ?_)
  ·
   try have hee := hen _ (getD_mem (l := x.arcs) (j := m) (d := default) (by omega))
   refine T_skip (T_seq (T_block (T_seq (T_region hc (Ch.s (.d (.ref (.agg [(.int .i64 ((x.arcs.getD m default).src)), (.int .i64 ((x.arcs.getD m default).sig)), (.bool ((x.arcs.getD m default).up)), (.int .i64 ((x.arcs.getD m default).dst))]))) (.pure (.idx _ _ _ 125 (m) rfl Tryz.underlying33 sz125 rfl rfl rfl get_mapA)) (Ch.s (.d (.agg [(.int .i64 ((x.arcs.getD m default).src)), (.int .i64 ((x.arcs.getD m default).sig)), (.bool ((x.arcs.getD m default).up)), (.int .i64 ((x.arcs.getD m default).dst))])) (.pure (.loadRefA _ _ rfl ag125 sz125 rfl)) (Ch.s (.ptr 5000 0) (.alloc 5000 _ rfl zer125) ?_)))))))
   refine Ch.s .junk (.storePtr _ _ _ rfl rfl rfl (.aggD _) sz125 (lb rfl)) (Ch.nil (T_seq (T_region hc (Ch.s (.row 3) pm (Ch.s (.ptr 5000 0) (.pure (.fldPtr _ _ _ rfl fld125_0 rfl)) (Ch.s (.d (.int .i64 ((x.arcs.getD m default).src))) (.pure (.loadPtr1 _ _ rfl ag3 rfl rfl rfl)) (Ch.s (.el 3 1 ((((x.arcs.getD m default).src)).toNat) 0) (.pure (.idxRow _ _ _ 4 ((((x.arcs.getD m default).src)).toNat) rfl Tryz.underlying146 sz4 rfl rfl rfl (by omega) a86)) ?_)))))))
   refine Ch.s (.d (.bool (((metTo x k m).getD ((((x.arcs.getD m default).src)).toNat) default)))) (.pure (.loadEl1 _ _ rfl ag4 rfl rfl get_mapA rfl rfl rfl)) (Ch.nil ?_)
   refine T_cond (b := (((metTo x k m).getD ((((x.arcs.getD m default).src)).toNat) default))) rfl (fun h3 => ?_) (fun h3 => ?_)
   ·
    refine T_region hc (Ch.s (.row 3) pm (Ch.s (.ptr 5000 3) (.pure (.fldPtr _ _ _ rfl fld125_3 rfl)) (Ch.s (.d (.int .i64 ((x.arcs.getD m default).dst))) (.pure (.loadPtr1 _ _ rfl ag3 rfl rfl rfl)) (Ch.s (.el 3 1 ((((x.arcs.getD m default).dst)).toNat) 0) (.pure (.idxRow _ _ _ 4 ((((x.arcs.getD m default).dst)).toNat) rfl Tryz.underlying146 sz4 rfl rfl rfl (by omega) a86)) (Ch.s .junk (.storeEl (y' := (.bool true)) _ _ _ rfl rfl rfl (.d _) rfl sz4 rfl get_mapA rfl rfl) (Ch.nil (T_region hc ?_)))))))
    refine Ch.s (.d (.int .i64 ((m : Int) + 1))) (iX rfl rfl intV_addA) (Ch.s (.d (.int .i64 ((m : Int) + 1))) pm (Ch.nil ?_))
    exact nx (m + 1) (by omega) (Wk.of rfl rfl (ai rfl (ai rfl (ai rfl (ai rfl (ai rfl (ai rfl (ai (vI a114) trivial))))))) (ai (oR a61) (ai rfl trivial)))
   ·
    refine T_skip (T_region hc (Ch.s (.d (.int .i64 ((m : Int) + 1))) (iX rfl rfl intV_addA) (Ch.s (.d (.int .i64 ((m : Int) + 1))) pm (Ch.nil ?_))))
    exact nx (m + 1) (by omega) (Wk.of rfl rfl (ai rfl (ai rfl (ai rfl (ai rfl (ai rfl (ai rfl (ai (vI a114) trivial))))))) (ai (oR a61) (ai rfl trivial)))
  ·
   try have hee := hen _ (getD_mem (l := x.arcs) (j := m) (d := default) (by omega))
   refine T_exit (T_region hc (Ch.s (.d (.int .i64 ((k : Int) + 1))) (iX rfl rfl intV_addA) (Ch.s (.d (.int .i64 ((k : Int) + 1))) pm (Ch.nil ?_))))
   exact nx (k + 1) (by omega) (Wk.of rfl rfl (ai rfl (ai rfl (ai rfl (ai (vI a114) trivial)))) (ai (oR a98) (ai rfl trivial)))
 ·
  refine T_exit (T_seq (T_seq (T_region hc (Ch.s (.row 3) pm (Ch.s (.d (.int .i64 ((metIt x k).length : Int))) (.pure (.len _ _ 4 rfl Tryz.underlying146 (.row rfl) (by simp))) (Ch.s (.d (.int .i64 0)) pm (Ch.nil ?_)))))))
  refine T_block ?_
  refine T_loop (ι := Nat) (fun m => { n := 46, sl := [(37, (.row 3)), (38, (.d (.int .i64 ((metIt x k).length : Int)))), (39, (.d (.int .i64 (m : Int))))], hp := [(3, (some (.row 1 ((metIt x k).map D.bool))))], pin := [] }) (fun m => m ≤ x.codes.length ∧ ∀ j, j < m → (metIt x k).getD j default = true) (fun m => x.codes.length - m) ⟨0, ⟨by omega, fun j hj => by omega⟩, (Wk.of rfl rfl (ai rfl (ai rfl (ai (vI a114) trivial))) (ai rfl trivial))⟩ (fun m hp2 => ?_)
  refine T_seq (T_region hc (Ch.s (.d (.bool (decide ((m : Int) < ((metIt x k).length : Int))))) (iX rfl rfl rfl) (Ch.nil (T_seq ?_))))
  refine T_condD (p := ((m : Int) < ((metIt x k).length : Int))) rfl (fun h4 => ?_) (fun h4 => ?_)
  ·
   refine T_skip (T_seq (T_block (T_seq (T_region hc (Ch.s (.el 3 1 m 0) (.pure (.idxRow _ _ _ 4 (m) rfl Tryz.underlying146 sz4 rfl rfl rfl rfl a86)) (Ch.s (.d (.bool (((metIt x k).getD m default)))) (.pure (.loadEl1 _ _ rfl ag4 rfl rfl get_mapA rfl rfl rfl)) (Ch.s (.d (.bool (((metIt x k).getD m default)))) pa ?_)))))))
   refine Ch.nil (T_seq (T_region hc (Ch.s (.d (.bool (((metIt x k).getD m default)))) pm (Ch.s (.d (.bool (!(((metIt x k).getD m default))))) (.pure (.not _ _ rfl rfl)) (Ch.nil ?_)))))
   refine T_condN (b := (((metIt x k).getD m default))) rfl (fun h5 => ?_) (fun h5 => ?_)
   ·
    refine T_seq (T_region hc (Ch.s (.d (.bool false)) pa (Ch.nil (T_ret ?_))))
    exact endR [(.d (.bool false))] [] [] (.cons (.tmp 2 rfl) .nil) (.cons (.any _) .nil) (Exp.of (congrArg D.bool a22) (.d _)) rfl rfl
   ·
    refine T_skip (T_region hc (Ch.s (.d (.int .i64 ((m : Int) + 1))) (iX rfl rfl intV_addA) (Ch.s (.d (.int .i64 ((m : Int) + 1))) pm (Ch.nil ?_))))
    exact nx (m + 1) ⟨by omega, upto_succ hp2.2 (by assumption)⟩ (Wk.of rfl rfl (ai rfl (ai rfl (ai (vI a114) trivial))) (ai rfl trivial))
  ·
   refine T_exit (T_seq (T_region hc (Ch.s (.d (.bool true)) pa (Ch.nil (T_ret ?_)))))
   exact endR [(.d (.bool true))] [] [] (.cons (.tmp 2 rfl) .nil) (.cons (.any _) .nil) (Exp.of (congrArg D.bool a22) (.d _)) rfl rfl

set_option maxHeartbeats 2000000 in
theorem sp_spec_l5Good (x : Sgr) (hb : x.bulk ≤ 1048576) : Sp Tryz.prog 93 [(.agg [(.slice false 2 (x.sigs.map Sgn.d)), (.slice false 1 (x.codes.map D.str)), (.slice false 4 (x.arcs.map Arc.d))])] [.any] (.bool (sgB x)) := by
 refine Sp_intro (lend := true) Tryz.func93 rfl rfl rfl (fun _ => rfl) (fun c hc hX => ?_)
 obtain ⟨hp0, hp1, hp2⟩ := Sgr.parts hb
 have hn0 := bulkF_len hp0
 have hn1 := bulk_len hp1
 have hx1 := bulk_mem hp1
 have hn2 := bulkF_len hp2
 refine T_seq (T_region hc (Ch.s (.ptr 1000 0) (.box 1000 _ _ rfl (.aggD _)) (Ch.s (.d (.bool false)) pa (Ch.nil (T_seq (T_seq (T_region hc ?_)))))))
 refine Ch.s (.ptr 1000 0) (.pure (.fldPtr _ _ _ rfl fld35_0 rfl)) (Ch.s (.d (.slice false 2 (x.sigs.map Sgn.d))) (.pure (.loadPtr1 _ _ rfl ag32 rfl rfl rfl)) (Ch.s (.d (.bool (sigsB x.sigs))) (.call 9000 162 _ _ _ en162 rfl (.inl rfl) (.cons (.d _) .nil) rfl rfl (sp_spec_l2Signals x.sigs a39) (.skip _ _ .nil) rfl) (Ch.s (.d (.bool (!(sigsB x.sigs)))) (.pure (.not _ _ rfl rfl)) (Ch.s (.d (.bool (!(sigsB x.sigs)))) pm ?_))))
 cases h1 : (sigsB x.sigs) with
 | true =>
  try have hs8 := within_two (sigsB_len h1)
  refine Ch.s (.ptr 1000 1) (.pure (.fldPtr _ _ _ rfl fld35_1 rfl)) (Ch.s (.d (.slice false 1 (x.codes.map D.str))) (.pure (.loadPtr1 _ _ rfl ag23 rfl rfl rfl)) (Ch.s (.d (.int .i64 (x.codes.length : Int))) (.pure (.len _ _ 9 rfl Tryz.underlying23 (.sh _ _) (by simp))) (Ch.s (.d (.bool (withinB (x.codes.length : Int) 1 300))) (.call 15000 89 _ _ _ en89 rfl (.inl rfl) (.cons (.d _) (.cons (.d _) (.cons (.d _) .nil))) rfl rfl (sp_spec_l1In (x.codes.length : Int) 1 300) (.skip _ _ (.skip _ _ (.skip _ _ .nil))) rfl) (Ch.s (.d (.bool (!(withinB (x.codes.length : Int) 1 300)))) (.pure (.not _ _ rfl rfl)) (Ch.s (.d (.bool (!(withinB (x.codes.length : Int) 1 300)))) (.pure (.pickF _ _ _ rfl rfl rfl)) (Ch.s (.d (.bool (!(withinB (x.codes.length : Int) 1 300)))) pm ?_))))))
  cases h2 : (withinB (x.codes.length : Int) 1 300) with
  | true =>
   try have hw2 := within_two h2
   refine Ch.s (.ptr 1000 2) (.pure (.fldPtr _ _ _ rfl fld35_2 rfl)) (Ch.s (.d (.slice false 4 (x.arcs.map Arc.d))) (.pure (.loadPtr1 _ _ rfl ag33 rfl rfl rfl)) (Ch.s (.d (.int .i64 (x.arcs.length : Int))) (.pure (.len _ _ 125 rfl Tryz.underlying33 (.sh _ _) (by simp))) (Ch.s (.d (.bool (decide (4000 < (x.arcs.length : Int))))) (iX rfl rfl rfl) (Ch.s (.d (.bool (decide (4000 < (x.arcs.length : Int))))) (.pure (.pickF _ _ _ rfl rfl rfl)) (Ch.nil ?_)))))
   refine T_condD (p := (4000 < (x.arcs.length : Int))) rfl (fun h3 => ?_) (fun h3 => ?_)
   ·
    refine T_seq (T_region hc (Ch.s (.d (.bool false)) pa (Ch.nil (T_ret ?_))))
    exact endR [(.d (.bool false))] [] [] (.cons (.tmp 2 rfl) .nil) (.cons (.any _) .nil) (Exp.of (congrArg D.bool a12) (.d _)) rfl rfl
   ·
    refine T_skip (T_seq (T_seq (T_region hc (Ch.s (.ptr 1000 1) (.pure (.fldPtr _ _ _ rfl fld35_1 rfl)) (Ch.s (.d (.slice false 1 (x.codes.map D.str))) (.pure (.loadPtr1 _ _ rfl ag23 rfl rfl rfl)) (Ch.s (.d (.int .i64 (x.codes.length : Int))) (.pure (.len _ _ 9 rfl Tryz.underlying23 (.sh _ _) (by simp))) (Ch.s (.d (.int .i64 0)) pm ?_)))))))
    refine Ch.nil (T_block ?_)
    refine T_loop (ι := Nat) (fun k => { n := 52, sl := [(1, (.ptr 1000 0)), (25, (.d (.slice false 1 (x.codes.map D.str)))), (26, (.d (.int .i64 (x.codes.length : Int)))), (27, (.d (.int .i64 (k : Int))))], hp := [(1000, (some (.box (vX x))))], pin := [] }) (fun k => k ≤ x.codes.length ∧ ∀ j, j < k → codeN (x.codes.getD j default) (x.sigs.length : Int) = true) (fun k => x.codes.length - k) ⟨0, ⟨by omega, fun j hj => by omega⟩, (Wk.of rfl rfl (ai rfl (ai rfl (ai rfl (ai (vI a114) trivial)))) (ai rfl trivial))⟩ (fun k hp0 => ?_)
    refine T_seq (T_region hc (Ch.s (.d (.bool (decide ((k : Int) < (x.codes.length : Int))))) (iX rfl rfl rfl) (Ch.nil (T_seq ?_))))
    refine T_condD (p := ((k : Int) < (x.codes.length : Int))) rfl (fun h4 => ?_) (fun h4 => ?_)
    ·
     try have hcl := sg_codes (x := x) (k := k) (by omega) hp0.2
     try have hca := codes_at hcl
     refine T_skip (T_seq (T_block (T_seq (T_region hc (Ch.s (.d (.ref (.str (x.codes.getD k default)))) (.pure (.idx _ _ _ 9 (k) rfl Tryz.underlying23 sz9 rfl rfl rfl get_mapA)) (Ch.s (.d (.str (x.codes.getD k default))) (.pure (.loadRef1 _ _ rfl ag9 rfl rfl)) (Ch.s (.d (.str (x.codes.getD k default))) pa ?_)))))))
     refine Ch.nil (T_seq (T_region hc (Ch.s (.d (.str (x.codes.getD k default))) pm (Ch.s (.ptr 1000 0) (.pure (.fldPtr _ _ _ rfl fld35_0 rfl)) (Ch.s (.d (.slice false 2 (x.sigs.map Sgn.d))) (.pure (.loadPtr1 _ _ rfl ag32 rfl rfl rfl)) (Ch.s (.d (.int .i64 (x.sigs.length : Int))) (.pure (.len _ _ 154 rfl Tryz.underlying32 (.sh _ _) (by simp))) (Ch.s (.d (.bool (codeN (x.codes.getD k default) (x.sigs.length : Int)))) (.call 35000 163 _ _ _ en163 rfl (.inl rfl) (.cons (.d _) (.cons (.d _) .nil)) rfl rfl (sp_spec_l5Code (x.codes.getD k default) (x.sigs.length : Int) a23) (.skip _ _ (.skip _ _ .nil)) rfl) ?_)))))))
     refine Ch.s (.d (.bool (!(codeN (x.codes.getD k default) (x.sigs.length : Int))))) (.pure (.not _ _ rfl rfl)) (Ch.nil ?_)
     refine T_condN (b := (codeN (x.codes.getD k default) (x.sigs.length : Int))) rfl (fun h5 => ?_) (fun h5 => ?_)
     ·
      refine T_seq (T_region hc (Ch.s (.d (.bool false)) pa (Ch.nil (T_ret ?_))))
      exact endR [(.d (.bool false))] [] [] (.cons (.tmp 2 rfl) .nil) (.cons (.any _) .nil) (Exp.of (congrArg D.bool a12) (.d _)) rfl rfl
     ·
      refine T_skip (T_region hc (Ch.s (.d (.int .i64 ((k : Int) + 1))) (iX rfl rfl intV_addA) (Ch.s (.d (.int .i64 ((k : Int) + 1))) pm (Ch.nil ?_))))
      exact nx (k + 1) ⟨by omega, upto_succ hp0.2 (by assumption)⟩ (Wk.of rfl rfl (ai rfl (ai rfl (ai rfl (ai (vI a114) trivial)))) (ai rfl trivial))
    ·
     try have hcl := sg_codes (x := x) (k := k) (by omega) hp0.2
     try have hca := codes_at hcl
     refine T_exit (T_seq (T_seq (T_region hc (Ch.s (.ptr 1000 2) (.pure (.fldPtr _ _ _ rfl fld35_2 rfl)) (Ch.s (.d (.slice false 4 (x.arcs.map Arc.d))) (.pure (.loadPtr1 _ _ rfl ag33 rfl rfl rfl)) (Ch.s (.d (.int .i64 (x.arcs.length : Int))) (.pure (.len _ _ 125 rfl Tryz.underlying33 (.sh _ _) (by simp))) (Ch.s (.d (.int .i64 0)) pm ?_)))))))
     refine Ch.nil (T_block ?_)
     refine T_loop (ι := Nat) (fun m => { n := 52, sl := [(1, (.ptr 1000 0)), (39, (.d (.slice false 4 (x.arcs.map Arc.d)))), (40, (.d (.int .i64 (x.arcs.length : Int)))), (41, (.d (.int .i64 (m : Int))))], hp := [(1000, (some (.box (vX x))))], pin := [] }) (fun m => m ≤ x.arcs.length ∧ ∀ j, j < m → arcB x (x.arcs.getD j default) = true) (fun m => x.arcs.length - m) ⟨0, ⟨by omega, fun j hj => by omega⟩, (Wk.of rfl rfl (ai rfl (ai rfl (ai rfl (ai (vI a114) trivial)))) (ai rfl trivial))⟩ (fun m hp1 => ?_)
     refine T_seq (T_region hc (Ch.s (.d (.bool (decide ((m : Int) < (x.arcs.length : Int))))) (iX rfl rfl rfl) (Ch.nil (T_seq ?_))))
     refine T_condD (p := ((m : Int) < (x.arcs.length : Int))) rfl (fun h6 => ?_) (fun h6 => ?_)
     ·
      try have hal := sg_arcs (x := x) (k := m) (by omega) hp1.2
      try have hen := arc_ends hal
      try have hse := steps_ends hen
      try have hsl := stepsOf_len x.arcs
      try have hdl := distF_len (n := x.codes.length) (s := 0) (by omega) hse
      refine T_skip (T_seq (T_block (T_seq (T_region hc (Ch.s (.d (.ref (.agg [(.int .i64 ((x.arcs.getD m default).src)), (.int .i64 ((x.arcs.getD m default).sig)), (.bool ((x.arcs.getD m default).up)), (.int .i64 ((x.arcs.getD m default).dst))]))) (.pure (.idx _ _ _ 125 (m) rfl Tryz.underlying33 sz125 rfl rfl rfl get_mapA)) (Ch.s (.d (.agg [(.int .i64 ((x.arcs.getD m default).src)), (.int .i64 ((x.arcs.getD m default).sig)), (.bool ((x.arcs.getD m default).up)), (.int .i64 ((x.arcs.getD m default).dst))])) (.pure (.loadRefA _ _ rfl ag125 sz125 rfl)) (Ch.s (.ptr 6000 0) (.alloc 6000 _ rfl zer125) ?_)))))))
      refine Ch.s .junk (.storePtr _ _ _ rfl rfl rfl (.aggD _) sz125 (lb rfl)) (Ch.nil (T_seq (T_region hc (Ch.s (.agg (vX x)) (.pure (.loadPtrA _ _ rfl ag35 sz35 rfl rfl (lb rfl) rfl)) (Ch.s (.agg [(.d (.int .i64 ((x.arcs.getD m default).src))), (.d (.int .i64 ((x.arcs.getD m default).sig))), (.d (.bool ((x.arcs.getD m default).up))), (.d (.int .i64 ((x.arcs.getD m default).dst)))]) (.pure (.loadPtrA _ _ rfl ag125 sz125 rfl rfl (lb rfl) rfl)) (Ch.s (.d (.bool (arcB x (x.arcs.getD m default)))) (.call 47000 164 _ _ _ en164 rfl (.inl rfl) (.cons lX (.cons (.lend (.agg (.cons (.d _) (.cons (.d _) (.cons (.d _) (.cons (.d _) .nil)))) rfl)) .nil)) rfl rfl (sp_spec_l5Arc x (x.arcs.getD m default) a39 a39 (by assumption)) (.skip _ _ (.skip _ _ .nil)) rfl) (Ch.s (.d (.bool (!(arcB x (x.arcs.getD m default))))) (.pure (.not _ _ rfl rfl)) ?_)))))))
      refine Ch.nil ?_
      refine T_condN (b := (arcB x (x.arcs.getD m default))) rfl (fun h7 => ?_) (fun h7 => ?_)
      ·
       refine T_seq (T_region hc (Ch.s (.d (.bool false)) pa (Ch.nil (T_ret ?_))))
       exact endR [(.d (.bool false))] [] [] (.cons (.tmp 2 rfl) .nil) (.cons (.any _) .nil) (Exp.of (congrArg D.bool a12) (.d _)) rfl rfl
      ·
       refine T_skip (T_region hc (Ch.s (.d (.int .i64 ((m : Int) + 1))) (iX rfl rfl intV_addA) (Ch.s (.d (.int .i64 ((m : Int) + 1))) pm (Ch.nil ?_))))
       exact nx (m + 1) ⟨by omega, upto_succ hp1.2 a108⟩ (Wk.of rfl rfl (ai rfl (ai rfl (ai rfl (ai (vI a114) trivial)))) (ai rfl trivial))
     ·
      try have hal := sg_arcs (x := x) (k := m) (by omega) hp1.2
      try have hen := arc_ends hal
      try have hse := steps_ends hen
      try have hsl := stepsOf_len x.arcs
      try have hdl := distF_len (n := x.codes.length) (s := 0) (by omega) hse
      refine T_exit (T_seq (T_region hc (Ch.s (.agg (vX x)) (.pure (.loadPtrA _ _ rfl ag35 sz35 rfl rfl (lb rfl) rfl)) (Ch.s (.d (.bool (!hasI (distF x.codes.length (stepsOf x.arcs) 0) (-1)))) (.call 51000 165 _ _ _ en165 rfl (.inl rfl) (.cons lX .nil) rfl rfl (sp_spec_l5All x a39 a39 (by assumption)) (.skip _ _ .nil) rfl) (Ch.s (.d (.bool (!hasI (distF x.codes.length (stepsOf x.arcs) 0) (-1)))) pa (Ch.nil (T_ret ?_)))))))
      exact endR [(.d (.bool (!hasI (distF x.codes.length (stepsOf x.arcs) 0) (-1))))] [] [] (.cons (.tmp 2 rfl) .nil) (.cons (.any _) .nil) (Exp.of (congrArg D.bool a12) (.d _)) rfl rfl
  | false =>
   try have hw2 := within_two h2
   refine Ch.skip rfl rfl (Ch.skip rfl rfl (Ch.skip rfl rfl (Ch.skip rfl rfl (Ch.s (.d (.bool true)) (.pure (.pickT _ _ _ rfl rfl rfl)) (Ch.nil ?_)))))
   refine T_cond (b := true) rfl (fun _ => ?_) (fun h => nomatch h)
   refine T_seq (T_region hc (Ch.s (.d (.bool false)) pa (Ch.nil (T_ret ?_))))
   exact endR [(.d (.bool false))] [] [] (.cons (.tmp 2 rfl) .nil) (.cons (.any _) .nil) (Exp.of (congrArg D.bool a12) (.d _)) rfl rfl
 | false =>
  try have hs8 := within_two (sigsB_len h1)
  refine Ch.skip rfl rfl (Ch.skip rfl rfl (Ch.skip rfl rfl (Ch.skip rfl rfl (Ch.skip rfl rfl (Ch.s (.d (.bool true)) (.pure (.pickT _ _ _ rfl rfl rfl)) (Ch.s (.d (.bool true)) pm (Ch.skip rfl rfl ?_)))))))
  refine Ch.skip rfl rfl (Ch.skip rfl rfl (Ch.skip rfl rfl (Ch.s (.d (.bool true)) (.pure (.pickT _ _ _ rfl rfl rfl)) (Ch.nil ?_))))
  refine T_cond (b := true) rfl (fun _ => ?_) (fun h => nomatch h)
  refine T_seq (T_region hc (Ch.s (.d (.bool false)) pa (Ch.nil (T_ret ?_))))
  exact endR [(.d (.bool false))] [] [] (.cons (.tmp 2 rfl) .nil) (.cons (.any _) .nil) (Exp.of (congrArg D.bool a12) (.d _)) rfl rfl

theorem en76 : Enters Tryz.prog 76 := ⟨_, Tryz.func76, by kernel_rfl, rfl⟩

theorem en30 : Enters Tryz.prog 30 := ⟨_, Tryz.func30, by kernel_rfl, rfl⟩

theorem en77 : Enters Tryz.prog 77 := ⟨_, Tryz.func77, by kernel_rfl, rfl⟩

theorem en120 : Enters Tryz.prog 120 := ⟨_, Tryz.func120, by kernel_rfl, rfl⟩

theorem en208 : Enters Tryz.prog 208 := ⟨_, Tryz.func208, by kernel_rfl, rfl⟩

theorem en207 : Enters Tryz.prog 207 := ⟨_, Tryz.func207, by kernel_rfl, rfl⟩

theorem sp_laws_markSignalS (xs : List Sgn) (k : Nat) (hn : xs.length ≤ 1048576) (hk : k ≤ 2097152) : Sp Tryz.prog 76 [(.slice true 2 (xs.map Sgn.d)), (.int .i64 (k : Int))] [.any, .any] (.int .i64 ((k + 2 * xs.length : Nat) : Int)) := by
 refine Sp_intro (lend := false) Tryz.func76 rfl rfl rfl (fun h => nomatch h) (fun c hc hX => ?_)
 refine T_seq (T_region hc (Ch.s (.d (.int .i64 0)) pa (Ch.nil (T_seq (T_seq (T_region hc (Ch.s (.d (.int .i64 0)) pa ?_)))))))
 refine Ch.nil (T_block ?_)
 refine T_loop (ι := Nat × List Sgn) (fun p => { n := 28, sl := [(0, (.row 1)), (1, (.d (.int .i64 ((k + 2 * p.1 : Nat) : Int)))), (5, (.d (.int .i64 (p.1 : Int))))], hp := [(1, (some (.row 2 (p.2.map Sgn.d))))], pin := [1] }) (fun p => p.1 ≤ xs.length ∧ p.2.length = xs.length) (fun p => xs.length - p.1) ⟨(0, xs), ⟨by dsimp only; omega, rfl⟩, (Wk.of rfl rfl (ai rfl (ai (vI a114) (ai (vI a114) trivial))) (ai (oR a41) trivial))⟩ (fun p hp0 => ?_)
 have hql := hp0.2
 refine T_seq (T_seq (T_region hc (Ch.s (.d (.int .i64 (p.1 : Int))) pm (Ch.s (.row 1) pm (Ch.s (.d (.int .i64 (p.2.length : Int))) (.pure (.len _ _ 154 rfl Tryz.underlying32 (.row rfl) (by simp))) (Ch.s (.d (.bool (decide ((p.1 : Int) < (p.2.length : Int))))) (iX rfl rfl rfl) (Ch.nil ?_)))))))
 refine T_condD (p := ((p.1 : Int) < (p.2.length : Int))) rfl (fun h1 => ?_) (fun h1 => ?_)
 ·
  refine T_skip (T_seq (T_block (T_seq (T_region hc (Ch.s (.row 1) pm (Ch.s (.d (.int .i64 (p.1 : Int))) pm (Ch.s (.d (.int .i64 ((k + 2 * p.1 : Nat) : Int))) pm ?_)))))))
  refine Ch.s (.d (.str (mtext (k + 2 * p.1)))) (.call 15000 84 _ _ _ en84 rfl (.inl rfl) (.cons (.d _) .nil) rfl rfl (sp_laws_markText (k + 2 * p.1) a23) (.skip _ _ .nil) rfl) (Ch.s (.el 1 2 p.1 0) (.pure (.idxRow _ _ _ 154 (p.1) rfl Tryz.underlying32 sz154 rfl rfl rfl rfl a86)) (Ch.s (.el 1 2 p.1 0) (.pure (.fldEl _ _ _ rfl fld154_0 rfl)) (Ch.s .junk (.storeEl (y' := (.agg [(.str (mtext (k + 2 * p.1))), (.int .i64 ((p.2.getD p.1 default).kind))])) _ _ _ rfl rfl rfl (.d _) rfl sz9 rfl get_mapA rfl rfl) (Ch.nil (T_seq (T_region hc (Ch.s (.d (.int .i64 ((k + 2 * p.1 : Nat) : Int))) pm ?_)))))))
  refine Ch.s (.d (.int .i64 (((k + 2 * p.1 : Nat) : Int) + 1))) (iX rfl rfl intV_addA) (Ch.s (.d (.int .i64 (((k + 2 * p.1 : Nat) : Int) + 1))) pa (Ch.nil (T_seq (T_region hc (Ch.s (.row 1) pm (Ch.s (.d (.int .i64 (p.1 : Int))) pm (Ch.s (.d (.int .i64 (((k + 2 * p.1 : Nat) : Int) + 1))) pm ?_)))))))
  refine Ch.s (.el 1 2 p.1 0) (.pure (.idxRow _ _ _ 154 (p.1) rfl Tryz.underlying32 sz154 rfl rfl rfl rfl a86)) (Ch.s (.el 1 2 p.1 1) (.pure (.fldEl _ _ _ rfl fld154_1 rfl)) (Ch.s .junk (.storeEl (y' := (.agg [(.str (mtext (k + 2 * p.1))), (.int .i64 (((k + 2 * p.1 : Nat) : Int) + 1))])) _ _ _ rfl rfl rfl (.d _) rfl sz3 rfl (get_set a86) rfl rfl) (Ch.nil (T_region hc (Ch.s (.d (.int .i64 (((k + 2 * p.1 : Nat) : Int) + 1))) pm (Ch.s (.d (.int .i64 ((((k + 2 * p.1 : Nat) : Int) + 1) + 1))) (iX rfl rfl intV_addA) (Ch.s (.d (.int .i64 ((((k + 2 * p.1 : Nat) : Int) + 1) + 1))) pa ?_)))))))
  refine Ch.nil (T_region hc (Ch.s (.d (.int .i64 (p.1 : Int))) pm (Ch.s (.d (.int .i64 ((p.1 : Int) + 1))) (iX rfl rfl intV_addA) (Ch.s (.d (.int .i64 ((p.1 : Int) + 1))) pa (Ch.nil ?_)))))
  exact nx (p.1 + 1, p.2.set p.1 (Sgn.mk (mtext (k + 2 * p.1)) ((k + 2 * p.1 + 1 : Nat) : Int))) ⟨by dsimp only; omega, by dsimp only; rw [List.length_set]; exact hp0.2⟩ (Wk.of rfl rfl (ai rfl (ai (vI a114) (ai (vI a114) trivial))) (ai (oR a41) trivial))
 ·
  refine T_exit (T_seq (T_region hc (Ch.s (.d (.int .i64 ((k + 2 * p.1 : Nat) : Int))) pm (Ch.s (.d (.int .i64 ((k + 2 * p.1 : Nat) : Int))) pa (Ch.nil (T_ret ?_))))))
  exact endR [(.d (.int .i64 ((k + 2 * p.1 : Nat) : Int)))] [] [] (.cons (.tmp 4 rfl) .nil) (.cons (.any _) (.cons (.any _) .nil)) (Exp.of (congrArg (D.int .i64) (by omega)) (.d _)) rfl rfl

theorem sp_laws_markArcS (xs : List Arc) (k : Nat) (hn : xs.length ≤ 1048576) (hk : k ≤ 4194304) : Sp Tryz.prog 77 [(.slice true 4 (xs.map Arc.d)), (.int .i64 (k : Int))] [.any, .any] (.int .i64 ((k + 4 * xs.length : Nat) : Int)) := by
 refine Sp_intro (lend := false) Tryz.func77 rfl rfl rfl (fun h => nomatch h) (fun c hc hX => ?_)
 refine T_seq (T_region hc (Ch.s (.d (.int .i64 0)) pa (Ch.nil (T_seq (T_seq (T_region hc (Ch.s (.d (.int .i64 0)) pa ?_)))))))
 refine Ch.nil (T_block ?_)
 refine T_loop (ι := Nat × List Arc) (fun p => { n := 43, sl := [(0, (.row 1)), (1, (.d (.int .i64 ((k + 4 * p.1 : Nat) : Int)))), (5, (.d (.int .i64 (p.1 : Int))))], hp := [(1, (some (.row 4 (p.2.map Arc.d))))], pin := [1] }) (fun p => p.1 ≤ xs.length ∧ p.2.length = xs.length) (fun p => xs.length - p.1) ⟨(0, xs), ⟨by dsimp only; omega, rfl⟩, (Wk.of rfl rfl (ai rfl (ai (vI a114) (ai (vI a114) trivial))) (ai (oR a41) trivial))⟩ (fun p hp0 => ?_)
 have hql := hp0.2
 refine T_seq (T_seq (T_region hc (Ch.s (.d (.int .i64 (p.1 : Int))) pm (Ch.s (.row 1) pm (Ch.s (.d (.int .i64 (p.2.length : Int))) (.pure (.len _ _ 125 rfl Tryz.underlying33 (.row rfl) (by simp))) (Ch.s (.d (.bool (decide ((p.1 : Int) < (p.2.length : Int))))) (iX rfl rfl rfl) (Ch.nil ?_)))))))
 refine T_condD (p := ((p.1 : Int) < (p.2.length : Int))) rfl (fun h1 => ?_) (fun h1 => ?_)
 ·
  refine T_skip (T_seq (T_block (T_seq (T_region hc (Ch.s (.row 1) pm (Ch.s (.d (.int .i64 (p.1 : Int))) pm (Ch.s (.d (.int .i64 ((k + 4 * p.1 : Nat) : Int))) pm ?_)))))))
  refine Ch.s (.el 1 4 p.1 0) (.pure (.idxRow _ _ _ 125 (p.1) rfl Tryz.underlying33 sz125 rfl rfl rfl rfl a86)) (Ch.s (.el 1 4 p.1 0) (.pure (.fldEl _ _ _ rfl fld125_0 rfl)) (Ch.s .junk (.storeEl (y' := (.agg [(.int .i64 ((k + 4 * p.1 : Nat) : Int)), (.int .i64 ((p.2.getD p.1 default).sig)), (.bool ((p.2.getD p.1 default).up)), (.int .i64 ((p.2.getD p.1 default).dst))])) _ _ _ rfl rfl rfl (.d _) rfl sz3 rfl get_mapA rfl rfl) (Ch.nil (T_seq (T_region hc (Ch.s (.d (.int .i64 ((k + 4 * p.1 : Nat) : Int))) pm (Ch.s (.d (.int .i64 (((k + 4 * p.1 : Nat) : Int) + 1))) (iX rfl rfl intV_addA) ?_)))))))
  refine Ch.s (.d (.int .i64 (((k + 4 * p.1 : Nat) : Int) + 1))) pa (Ch.nil (T_seq (T_region hc (Ch.s (.row 1) pm (Ch.s (.d (.int .i64 (p.1 : Int))) pm (Ch.s (.d (.int .i64 (((k + 4 * p.1 : Nat) : Int) + 1))) pm (Ch.s (.el 1 4 p.1 0) (.pure (.idxRow _ _ _ 125 (p.1) rfl Tryz.underlying33 sz125 rfl rfl rfl rfl a86)) ?_)))))))
  refine Ch.s (.el 1 4 p.1 1) (.pure (.fldEl _ _ _ rfl fld125_1 rfl)) (Ch.s .junk (.storeEl (y' := (.agg [(.int .i64 ((k + 4 * p.1 : Nat) : Int)), (.int .i64 (((k + 4 * p.1 : Nat) : Int) + 1)), (.bool ((p.2.getD p.1 default).up)), (.int .i64 ((p.2.getD p.1 default).dst))])) _ _ _ rfl rfl rfl (.d _) rfl sz3 rfl (get_set a86) rfl rfl) (Ch.nil (T_seq (T_region hc (Ch.s (.d (.int .i64 (((k + 4 * p.1 : Nat) : Int) + 1))) pm (Ch.s (.d (.int .i64 ((((k + 4 * p.1 : Nat) : Int) + 1) + 1))) (iX rfl rfl intV_addA) (Ch.s (.d (.int .i64 ((((k + 4 * p.1 : Nat) : Int) + 1) + 1))) pa ?_)))))))
  refine Ch.nil (T_seq (T_region hc (Ch.s (.row 1) pm (Ch.s (.d (.int .i64 (p.1 : Int))) pm (Ch.s (.d (.int .i64 ((((k + 4 * p.1 : Nat) : Int) + 1) + 1))) pm ?_)))))
  refine Ch.step (v := (.d (.int .i64 ((((k + 4 * p.1 + 1) + 1) % 3 : Nat) : Int)))) rfl (iX rfl rfl (remN (n := ((k + 4 * p.1 + 1) + 1)) (d := 3) (by omega) rfl (by decide))) rfl rfl ?_
  refine Ch.s (.d (.bool (decide (((((k + 4 * p.1 + 1) + 1) % 3 : Nat) : Int) = 0)))) (iX rfl rfl rfl) (Ch.s (.el 1 4 p.1 0) (.pure (.idxRow _ _ _ 125 (p.1) rfl Tryz.underlying33 sz125 rfl rfl rfl rfl a86)) (Ch.s (.el 1 4 p.1 2) (.pure (.fldEl _ _ _ rfl fld125_2 rfl)) (Ch.s .junk (.storeEl (y' := (.agg [(.int .i64 ((k + 4 * p.1 : Nat) : Int)), (.int .i64 (((k + 4 * p.1 : Nat) : Int) + 1)), (.bool (decide (((((k + 4 * p.1 + 1) + 1) % 3 : Nat) : Int) = 0))), (.int .i64 ((p.2.getD p.1 default).dst))])) _ _ _ rfl rfl rfl (.d _) rfl sz4 rfl (get_set a86) rfl rfl) (Ch.nil (T_seq (T_region hc (Ch.s (.d (.int .i64 ((((k + 4 * p.1 : Nat) : Int) + 1) + 1))) pm ?_)))))))
  refine Ch.s (.d (.int .i64 (((((k + 4 * p.1 : Nat) : Int) + 1) + 1) + 1))) (iX rfl rfl intV_addA) (Ch.s (.d (.int .i64 (((((k + 4 * p.1 : Nat) : Int) + 1) + 1) + 1))) pa (Ch.nil (T_seq (T_region hc (Ch.s (.row 1) pm (Ch.s (.d (.int .i64 (p.1 : Int))) pm (Ch.s (.d (.int .i64 (((((k + 4 * p.1 : Nat) : Int) + 1) + 1) + 1))) pm ?_)))))))
  refine Ch.s (.el 1 4 p.1 0) (.pure (.idxRow _ _ _ 125 (p.1) rfl Tryz.underlying33 sz125 rfl rfl rfl rfl a86)) (Ch.s (.el 1 4 p.1 3) (.pure (.fldEl _ _ _ rfl fld125_3 rfl)) (Ch.s .junk (.storeEl (y' := (.agg [(.int .i64 ((k + 4 * p.1 : Nat) : Int)), (.int .i64 (((k + 4 * p.1 : Nat) : Int) + 1)), (.bool (decide (((((k + 4 * p.1 + 1) + 1) % 3 : Nat) : Int) = 0))), (.int .i64 (((((k + 4 * p.1 : Nat) : Int) + 1) + 1) + 1))])) _ _ _ rfl rfl rfl (.d _) rfl sz3 rfl (get_set a86) rfl rfl) (Ch.nil (T_region hc (Ch.s (.d (.int .i64 (((((k + 4 * p.1 : Nat) : Int) + 1) + 1) + 1))) pm (Ch.s (.d (.int .i64 ((((((k + 4 * p.1 : Nat) : Int) + 1) + 1) + 1) + 1))) (iX rfl rfl intV_addA) (Ch.s (.d (.int .i64 ((((((k + 4 * p.1 : Nat) : Int) + 1) + 1) + 1) + 1))) pa ?_)))))))
  refine Ch.nil (T_region hc (Ch.s (.d (.int .i64 (p.1 : Int))) pm (Ch.s (.d (.int .i64 ((p.1 : Int) + 1))) (iX rfl rfl intV_addA) (Ch.s (.d (.int .i64 ((p.1 : Int) + 1))) pa (Ch.nil ?_)))))
  exact nx (p.1 + 1, p.2.set p.1 (Arc.mk ((k + 4 * p.1 : Nat) : Int) ((k + 4 * p.1 + 1 : Nat) : Int) (decide ((((k + 4 * p.1 + 1 + 1) % 3 : Nat) : Int) = 0)) ((k + 4 * p.1 + 1 + 1 + 1 : Nat) : Int))) ⟨by dsimp only; omega, by dsimp only; rw [List.length_set]; exact hp0.2⟩ (Wk.of rfl rfl (ai rfl (ai (vI a114) (ai (vI a114) trivial))) (ai (oR a41) trivial))
 ·
  refine T_exit (T_seq (T_region hc (Ch.s (.d (.int .i64 ((k + 4 * p.1 : Nat) : Int))) pm (Ch.s (.d (.int .i64 ((k + 4 * p.1 : Nat) : Int))) pa (Ch.nil (T_ret ?_))))))
  exact endR [(.d (.int .i64 ((k + 4 * p.1 : Nat) : Int)))] [] [] (.cons (.tmp 4 rfl) .nil) (.cons (.any _) (.cons (.any _) .nil)) (Exp.of (congrArg (D.int .i64) (by omega)) (.d _)) rfl rfl

theorem sp_laws_markStateGraph (x : Sgr) (k : Nat) (hb : x.bulk ≤ 1048576) (hk : k ≤ 1) : Sp Tryz.prog 22 [(.agg [(.slice true 2 (x.sigs.map Sgn.d)), (.slice true 1 (x.codes.map D.str)), (.slice true 4 (x.arcs.map Arc.d))]), (.int .i64 (k : Int))] [.any, .any] (.int .i64 ((k + 2 * x.sigs.length + x.codes.length + 4 * x.arcs.length : Nat) : Int)) := by
 refine Sp_intro (lend := false) Tryz.func22 rfl rfl rfl (fun h => nomatch h) (fun c hc hX => ?_)
 obtain ⟨hp0, hp1, hp2⟩ := Sgr.parts hb
 have hn0 := bulkF_len hp0
 have hn1 := bulk_len hp1
 have hx1 := bulk_mem hp1
 have hn2 := bulkF_len hp2
 refine T_seq (T_region hc (Ch.s (.ptr 2000 0) (.box 2000 _ _ rfl (.agg _ rfl)) (Ch.s (.d (.int .i64 0)) pa (Ch.nil (T_seq (T_region hc (Ch.s (.ptr 2000 0) (.pure (.fldPtr _ _ _ rfl fld35_0 rfl)) ?_)))))))
 refine Ch.s (.row 1) (.pure (.loadPtr1 _ _ rfl ag32 rfl rfl rfl)) (Ch.s (.d (.int .i64 (k : Int))) pm (Ch.s (.d (.int .i64 ((k + 2 * x.sigs.length : Nat) : Int))) (.call 8000 76 _ _ _ en76 rfl (.inl rfl) (.cons (.row rfl) (.cons (.d _) .nil)) rfl rfl (sp_laws_markSignalS x.sigs k a39 a39) (.skip _ _ (.skip _ _ .nil)) rfl) (Ch.s (.d (.int .i64 ((k + 2 * x.sigs.length : Nat) : Int))) pa (Ch.nil (T_seq (T_region hc (Ch.s (.ptr 2000 1) (.pure (.fldPtr _ _ _ rfl fld35_1 rfl)) ?_)))))))
 refine Ch.s (.row 2) (.pure (.loadPtr1 _ _ rfl ag23 rfl rfl rfl)) (Ch.s (.d (.int .i64 ((k + 2 * x.sigs.length : Nat) : Int))) pm ?_)
 refine Ch.step (v := (.d (.int .i64 (((k + 2 * x.sigs.length) + x.codes.length : Nat) : Int)))) rfl (.call 12000 30 _ _ _ en30 rfl (.inl rfl) (.cons (.row rfl) (.cons (.d _) .nil)) rfl (sol rfl (solids_c (solid_row (fun _ => rfl) _) rfl)) (sp_laws_markStringS x.codes (k + 2 * x.sigs.length) a23 a23) (.row _ _ _ (.skip _ _ .nil)) rfl) rfl rfl ?_
 refine Ch.s (.d (.int .i64 (((k + 2 * x.sigs.length) + x.codes.length : Nat) : Int))) pa (Ch.nil (T_seq (T_region hc (Ch.s (.ptr 2000 2) (.pure (.fldPtr _ _ _ rfl fld35_2 rfl)) (Ch.s (.row 3) (.pure (.loadPtr1 _ _ rfl ag33 rfl rfl rfl)) (Ch.s (.d (.int .i64 (((k + 2 * x.sigs.length) + x.codes.length : Nat) : Int))) pm (Ch.s (.d (.int .i64 ((((k + 2 * x.sigs.length) + x.codes.length) + 4 * x.arcs.length : Nat) : Int))) (.call 16000 77 _ _ _ en77 rfl (.inl rfl) (.cons (.row rfl) (.cons (.d _) .nil)) rfl rfl (sp_laws_markArcS x.arcs ((k + 2 * x.sigs.length) + x.codes.length) a39 a39) (.skip _ _ (.skip _ _ .nil)) rfl) ?_)))))))
 refine Ch.s (.d (.int .i64 ((((k + 2 * x.sigs.length) + x.codes.length) + 4 * x.arcs.length : Nat) : Int))) pa (Ch.nil (T_seq (T_region hc (Ch.s (.d (.int .i64 ((((k + 2 * x.sigs.length) + x.codes.length) + 4 * x.arcs.length : Nat) : Int))) pm (Ch.s (.d (.int .i64 ((((k + 2 * x.sigs.length) + x.codes.length) + 4 * x.arcs.length : Nat) : Int))) pa (Ch.nil (T_ret ?_)))))))
 exact endR [(.d (.int .i64 ((((k + 2 * x.sigs.length) + x.codes.length) + 4 * x.arcs.length : Nat) : Int)))] [] [] (.cons (.tmp 4 rfl) .nil) (.cons (.any _) (.cons (.any _) .nil)) (Exp.of (congrArg (D.int .i64) (by omega)) (.d _)) rfl rfl

structure SgOk (x : Sgr) : Prop where
 sigs : sigsB x.sigs = true
 eight : 1 ≤ x.sigs.length ∧ x.sigs.length ≤ 8
 len : 1 ≤ x.codes.length ∧ x.codes.length ≤ 300
 few : x.arcs.length ≤ 4000
 codes : allOf x.codes (fun u => codeN u (x.sigs.length : Int)) = true
 arcs : allOf x.arcs (arcB x) = true
 ends : ends x.codes.length x.arcs

theorem sg_has {x : Sgr} (h : sgB x = true) : SgOk x := by
 unfold sgB at h
 simp only [Bool.and_eq_true] at h
 obtain ⟨h1, h2, h3, h4, h5, _⟩ := h
 have h6 := within_two h2
 have h7 := within_two (sigsB_len h1)
 have h8 : ¬ (4000 : Int) < (x.arcs.length : Int) := by simpa using h3
 exact ⟨h1, by omega, by omega, by omega, h4, h5, arc_ends h5⟩

theorem SgOk.sig {x : Sgr} (h : SgOk x) : ∀ a ∈ x.arcs, a.sig < (x.sigs.length : Int) ∧ (0 ≤ a.sig ∨ a.sig = -1) := by
  intro a ha
  obtain ⟨j, hj, rfl⟩ := List.mem_iff_getElem.1 ha
  have := allB_true.1 h.arcs j hj
  rw [show x.arcs.getD j default = x.arcs[j] by simp [hj]] at this
  unfold arcB at this
  simp only [Bool.and_eq_true] at this
  have h2 := this.2.2.1
  unfold edgeB at h2
  simp only [Bool.or_eq_true, Bool.and_eq_true, decide_eq_true_iff] at h2
  have h8 := h.eight
  rcases h2 with h2 | h2
  · have := within_two h2
    omega
  · have := h2.1
    omega

def isArc (k sig : Int) (a : Arc) : Bool := decide (a.src = k) && decide (a.sig = sig)

def excB (x : Sgr) (k sig : Int) : Bool := x.arcs.any (isArc k sig)

theorem sp_impl_isExcited_1 (a : Arc) (k sig : Int) : Sp Tryz.prog 208 [(.agg [(.int .i64 a.src), (.int .i64 a.sig), (.bool (a.up)), (.int .i64 a.dst)]), (.ref (.int .i64 k)), (.ref (.int .i64 sig))] [.any, .any, .any] (.bool (isArc k sig a)) := by
 refine Sp_intro (lend := true) Tryz.func208 rfl rfl rfl (fun _ => rfl) (fun c hc hX => ?_)
 refine T_seq (T_region hc (Ch.s (.ptr 3000 0) (.box 3000 _ _ rfl (.aggD _)) (Ch.s (.d (.bool false)) pa (Ch.nil (T_seq (T_region hc (Ch.s (.ptr 3000 0) (.pure (.fldPtr _ _ _ rfl fld125_0 rfl)) ?_)))))))
 refine Ch.s (.d (.int .i64 a.src)) (.pure (.loadPtr1 _ _ rfl ag3 rfl rfl rfl)) (Ch.s (.d (.int .i64 k)) (.pure (.loadRef1 _ _ rfl ag3 rfl rfl)) (Ch.s (.d (.bool (decide (a.src = k)))) (iX rfl rfl rfl) (Ch.s (.d (.bool (decide (a.src = k)))) pm ?_)))
 cases h1 : (decide (a.src = k)) with
 | true =>
  replace h1 := of_decide_eq_true h1
  refine Ch.s (.ptr 3000 1) (.pure (.fldPtr _ _ _ rfl fld125_1 rfl)) (Ch.s (.d (.int .i64 a.sig)) (.pure (.loadPtr1 _ _ rfl ag3 rfl rfl rfl)) (Ch.s (.d (.int .i64 sig)) (.pure (.loadRef1 _ _ rfl ag3 rfl rfl)) (Ch.s (.d (.bool (decide (a.sig = sig)))) (iX rfl rfl rfl) (Ch.s (.d (.bool (decide (a.sig = sig)))) (.pure (.pickT _ _ _ rfl rfl rfl)) (Ch.s (.d (.bool (decide (a.sig = sig)))) pa (Ch.nil (T_ret ?_)))))))
  exact endR [(.d (.bool (decide (a.sig = sig))))] [] [] (.cons (.tmp 4 rfl) .nil) (.cons (.any _) (.cons (.any _) (.cons (.any _) .nil))) (Exp.of (congrArg D.bool a18) (.d _)) rfl rfl
 | false =>
  replace h1 := of_decide_eq_false h1
  refine Ch.skip rfl rfl (Ch.skip rfl rfl (Ch.skip rfl rfl (Ch.skip rfl rfl (Ch.s (.d (.bool false)) (.pure (.pickF _ _ _ rfl rfl rfl)) (Ch.s (.d (.bool false)) pa (Ch.nil (T_ret ?_)))))))
  exact endR [(.d (.bool false))] [] [] (.cons (.tmp 4 rfl) .nil) (.cons (.any _) (.cons (.any _) (.cons (.any _) .nil))) (Exp.of (congrArg D.bool a18) (.d _)) rfl rfl

theorem sp_impl_isExcited (x : Sgr) (k sig : Int) (hb : x.bulk ≤ 1048576) : Sp Tryz.prog 141 [(.agg [(.slice false 2 (x.sigs.map Sgn.d)), (.slice false 1 (x.codes.map D.str)), (.slice false 4 (x.arcs.map Arc.d))]), (.int .i64 k), (.int .i64 sig)] [.any, .any, .any] (.bool (excB x k sig)) := by
 refine Sp_intro (lend := true) Tryz.func141 rfl rfl rfl (fun _ => rfl) (fun c hc hX => ?_)
 obtain ⟨hp0, hp1, hp2⟩ := Sgr.parts hb
 have hn0 := bulkF_len hp0
 have hn1 := bulk_len hp1
 have hx1 := bulk_mem hp1
 have hn2 := bulkF_len hp2
 refine T_seq (T_region hc (Ch.s (.ptr 3000 0) (.box 3000 _ _ rfl (.aggD _)) (Ch.s (.ptr 4000 0) (.box 4000 _ _ rfl (.one _ rfl)) (Ch.s (.ptr 5000 0) (.box 5000 _ _ rfl (.one _ rfl)) (Ch.s (.d (.bool false)) pa (Ch.nil (T_seq ?_)))))))
 refine T_region hc (Ch.s (.ptr 3000 2) (.pure (.fldPtr _ _ _ rfl fld35_2 rfl)) (Ch.s (.d (.slice false 4 (x.arcs.map Arc.d))) (.pure (.loadPtr1 _ _ rfl ag33 rfl rfl rfl)) (Ch.s (.fn 208 [(.ptr 4000 0), (.ptr 5000 0)]) (.pure (.func _ _ rfl rfl)) (Ch.s (.d (.bool (x.arcs.any (isArc k sig)))) (.call 10000 207 _ _ _ en207 rfl (.inl rfl) (.cons (.d _) (.cons (.lend (.fn (.cons (.ptr rfl (.one (.d _) rfl)) (.cons (.ptr rfl (.one (.d _) rfl)) .nil)))) .nil)) rfl rfl (sp_ContainsFunc_arc x.arcs 208 [(.ref (.int .i64 k)), (.ref (.int .i64 sig))] (isArc k sig) en208 (fun a ha => sp_impl_isExcited_1 a k sig) a23) (.skip _ _ (.skip _ _ .nil)) rfl) (Ch.s (.d (.bool (x.arcs.any (isArc k sig)))) pa (Ch.nil (T_ret ?_)))))))
 exact endR [(.d (.bool (x.arcs.any (isArc k sig))))] [] [] (.cons (.tmp 6 rfl) .nil) (.cons (.any _) (.cons (.any _) (.cons (.any _) .nil))) (Exp.of (congrArg D.bool (by rfl)) (.d _)) rfl rfl

theorem sp_spec_l5Excited (x : Sgr) (k sig : Int) (hb : x.bulk ≤ 1048576) : Sp Tryz.prog 158 [(.agg [(.slice false 2 (x.sigs.map Sgn.d)), (.slice false 1 (x.codes.map D.str)), (.slice false 4 (x.arcs.map Arc.d))]), (.int .i64 k), (.int .i64 sig)] [.any, .any, .any] (.bool (excB x k sig)) := by
 refine Sp_intro (lend := true) Tryz.func158 rfl rfl rfl (fun _ => rfl) (fun c hc hX => ?_)
 obtain ⟨hp0, hp1, hp2⟩ := Sgr.parts hb
 have hn0 := bulkF_len hp0
 have hn1 := bulk_len hp1
 have hx1 := bulk_mem hp1
 have hn2 := bulkF_len hp2
 refine T_seq (T_region hc (Ch.s (.ptr 3000 0) (.box 3000 _ _ rfl (.aggD _)) (Ch.s (.d (.bool false)) pa (Ch.nil (T_seq (T_seq (T_region hc ?_)))))))
 refine Ch.s (.ptr 3000 2) (.pure (.fldPtr _ _ _ rfl fld35_2 rfl)) (Ch.s (.d (.slice false 4 (x.arcs.map Arc.d))) (.pure (.loadPtr1 _ _ rfl ag33 rfl rfl rfl)) (Ch.s (.d (.int .i64 (x.arcs.length : Int))) (.pure (.len _ _ 125 rfl Tryz.underlying33 (.sh _ _) (by simp))) (Ch.s (.d (.int .i64 0)) pm (Ch.nil (T_block ?_)))))
 refine T_loop (ι := Nat) (fun m => { n := 27, sl := [(1, (.d (.int .i64 k))), (2, (.d (.int .i64 sig))), (10, (.d (.slice false 4 (x.arcs.map Arc.d)))), (11, (.d (.int .i64 (x.arcs.length : Int)))), (12, (.d (.int .i64 (m : Int))))], hp := [], pin := [] }) (fun m => m ≤ x.arcs.length ∧ ∀ j, j < m → isArc k sig (x.arcs.getD j default) = false) (fun m => x.arcs.length - m) ⟨0, ⟨by omega, fun j hj => by omega⟩, (Wk.of rfl rfl (ai rfl (ai rfl (ai rfl (ai rfl (ai (vI a114) trivial))))) trivial)⟩ (fun m hp0 => ?_)
 refine T_seq (T_region hc (Ch.s (.d (.bool (decide ((m : Int) < (x.arcs.length : Int))))) (iX rfl rfl rfl) (Ch.nil (T_seq ?_))))
 refine T_condD (p := ((m : Int) < (x.arcs.length : Int))) rfl (fun h1 => ?_) (fun h1 => ?_)
 ·
  refine T_skip (T_seq (T_block (T_seq (T_region hc (Ch.s (.d (.ref (.agg [(.int .i64 ((x.arcs.getD m default).src)), (.int .i64 ((x.arcs.getD m default).sig)), (.bool ((x.arcs.getD m default).up)), (.int .i64 ((x.arcs.getD m default).dst))]))) (.pure (.idx _ _ _ 125 (m) rfl Tryz.underlying33 sz125 rfl rfl rfl get_mapA)) (Ch.s (.d (.agg [(.int .i64 ((x.arcs.getD m default).src)), (.int .i64 ((x.arcs.getD m default).sig)), (.bool ((x.arcs.getD m default).up)), (.int .i64 ((x.arcs.getD m default).dst))])) (.pure (.loadRefA _ _ rfl ag125 sz125 rfl)) (Ch.s (.ptr 8000 0) (.alloc 8000 _ rfl zer125) ?_)))))))
  refine Ch.s .junk (.storePtr _ _ _ rfl rfl rfl (.aggD _) sz125 (lb rfl)) (Ch.nil (T_seq (T_region hc (Ch.s (.ptr 8000 0) (.pure (.fldPtr _ _ _ rfl fld125_0 rfl)) (Ch.s (.d (.int .i64 ((x.arcs.getD m default).src))) (.pure (.loadPtr1 _ _ rfl ag3 rfl rfl rfl)) (Ch.s (.d (.int .i64 k)) pm (Ch.s (.d (.bool (decide (((x.arcs.getD m default).src) = k)))) (iX rfl rfl rfl) ?_)))))))
  refine Ch.s (.d (.bool (decide (((x.arcs.getD m default).src) = k)))) pm ?_
  cases h2 : (decide (((x.arcs.getD m default).src) = k)) with
  | true =>
   replace h2 := of_decide_eq_true h2
   refine Ch.s (.ptr 8000 1) (.pure (.fldPtr _ _ _ rfl fld125_1 rfl)) (Ch.s (.d (.int .i64 ((x.arcs.getD m default).sig))) (.pure (.loadPtr1 _ _ rfl ag3 rfl rfl rfl)) (Ch.s (.d (.int .i64 sig)) pm (Ch.s (.d (.bool (decide (((x.arcs.getD m default).sig) = sig)))) (iX rfl rfl rfl) (Ch.s (.d (.bool (decide (((x.arcs.getD m default).sig) = sig)))) (.pure (.pickT _ _ _ rfl rfl rfl)) (Ch.nil ?_)))))
   refine T_condD (p := (((x.arcs.getD m default).sig) = sig)) rfl (fun h3 => ?_) (fun h3 => ?_)
   ·
    refine T_seq (T_region hc (Ch.s (.d (.bool true)) pa (Ch.nil (T_ret ?_))))
    exact endR [(.d (.bool true))] [] [] (.cons (.tmp 6 rfl) .nil) (.cons (.any _) (.cons (.any _) (.cons (.any _) .nil))) (Exp.of (congrArg D.bool (by exact any_yes default m (by omega) (by simp_all [isArc]))) (.d _)) rfl rfl
   ·
    refine T_skip (T_region hc (Ch.s (.d (.int .i64 ((m : Int) + 1))) (iX rfl rfl intV_addA) (Ch.s (.d (.int .i64 ((m : Int) + 1))) pm (Ch.nil ?_))))
    exact nx (m + 1) ⟨by omega, upto_succ hp0.2 (by simp_all [isArc])⟩ (Wk.of rfl rfl (ai rfl (ai rfl (ai rfl (ai rfl (ai (vI a114) trivial))))) trivial)
  | false =>
   replace h2 := of_decide_eq_false h2
   refine Ch.skip rfl rfl (Ch.skip rfl rfl (Ch.skip rfl rfl (Ch.skip rfl rfl (Ch.s (.d (.bool false)) (.pure (.pickF _ _ _ rfl rfl rfl)) (Ch.nil ?_)))))
   refine T_cond (b := false) rfl (fun h => nomatch h) (fun _ => ?_)
   refine T_skip (T_region hc (Ch.s (.d (.int .i64 ((m : Int) + 1))) (iX rfl rfl intV_addA) (Ch.s (.d (.int .i64 ((m : Int) + 1))) pm (Ch.nil ?_))))
   exact nx (m + 1) ⟨by omega, upto_succ hp0.2 (by simp_all [isArc])⟩ (Wk.of rfl rfl (ai rfl (ai rfl (ai rfl (ai rfl (ai (vI a114) trivial))))) trivial)
 ·
  refine T_exit (T_seq (T_region hc (Ch.s (.d (.bool false)) pa (Ch.nil (T_ret ?_)))))
  exact endR [(.d (.bool false))] [] [] (.cons (.tmp 6 rfl) .nil) (.cons (.any _) (.cons (.any _) (.cons (.any _) .nil))) (Exp.of (congrArg D.bool a113) (.d _)) rfl rfl

theorem en306 : Enters Tryz.prog 306 := ⟨_, Tryz.func306, by kernel_rfl, rfl⟩

theorem ofInt_nat (m : Nat) : (BitVec.ofInt 64 (m : Int)).toNat = m % 18446744073709551616 := by
 rw [BitVec.toNat_ofInt]; omega

theorem i64_or {a b : Nat} (ha : a < 4611686018427387904) (hb : b < 4611686018427387904) : intV .or .i64 (a : Int) (b : Int) = some (.int .i64 ((a ||| b : Nat) : Int)) := by
 have e : (BitVec.ofInt IntKind.i64.bits (a : Int) ||| BitVec.ofInt IntKind.i64.bits (b : Int)).toNat = a ||| b := by
  show (BitVec.ofInt 64 (a : Int) ||| BitVec.ofInt 64 (b : Int)).toNat = a ||| b
  rw [BitVec.toNat_or, ofInt_nat, ofInt_nat, Nat.mod_eq_of_lt (by omega), Nat.mod_eq_of_lt (by omega)]
 have hlt : a ||| b < 2 ^ 62 := Nat.or_lt_two_pow (by omega) (by omega)
 rw [intV, e, IntWalk.i64_in _ (by omega)]

theorem i64_and3 (m : Nat) : intV .and .i64 (m : Int) 3 = some (.int .i64 ((m &&& 3 : Nat) : Int)) := by
 have e : (BitVec.ofInt IntKind.i64.bits (m : Int) &&& BitVec.ofInt IntKind.i64.bits 3).toNat = m &&& 3 := by
  show (BitVec.ofInt 64 (m : Int) &&& BitVec.ofInt 64 ((3 : Nat) : Int)).toNat = m &&& 3
  rw [BitVec.toNat_and, ofInt_nat, ofInt_nat]
  rw [show 3 % 18446744073709551616 = 2 ^ 2 - 1 from rfl, Nat.and_two_pow_sub_one_eq_mod, show (3 : Nat) = 2 ^ 2 - 1 from rfl, Nat.and_two_pow_sub_one_eq_mod]
  omega
 have hle : m &&& 3 ≤ 3 := Nat.and_le_right
 rw [intV, e, IntWalk.i64_in _ (by omega)]

theorem i64_shr {m n : Nat} {y : Int} (h : y = (n : Int)) (hn : n ≤ 63) : shiftV .shr .i64 (m : Int) y = some (.int .i64 ((m >>> n : Nat) : Int)) := by
 subst h
 rw [shiftV, if_neg (by omega)]
 have h1 : min (n : Int).toNat IntKind.i64.bits = n := by
  have : IntKind.i64.bits = 64 := rfl
  rw [this, Int.toNat_natCast]; omega
 rw [h1, Nat.shiftRight_eq_div_pow, Int.fdiv_eq_ediv_of_nonneg _ (by exact Int.le_of_lt (Int.pow_pos (by decide)))]
 congr 2

theorem shl2 {b : Int} {n : Nat} (h : b = (n : Int)) (hn : n ≤ 61) : shiftV .shl .i64 2 b = some (.int .i64 ((2 * 2 ^ n : Nat) : Int)) := by
 subst h
 rw [shiftV, if_neg (by omega)]
 have h1 : min (n : Int).toNat IntKind.i64.bits = n := by
  have : IntKind.i64.bits = 64 := rfl
  rw [this, Int.toNat_natCast]; omega
 have h2 : 2 ^ n ≤ 2 ^ 61 := Nat.pow_le_pow_right (by omega) hn
 rw [h1, show (2 : Int) * (2 : Int) ^ n = ((2 * 2 ^ n : Nat) : Int) by simp]
 generalize 2 ^ n = m at h2
 rw [IntWalk.i64_in _ (by omega)]

def two (m s : Nat) : Nat := m >>> s &&& 3

theorem two_zero {m s : Nat} : two m s = 0 ↔ m.testBit s = false ∧ m.testBit (s + 1) = false := by
 have h : two m s = (m >>> s) % 4 := by
  unfold two
  rw [show (3 : Nat) = 2 ^ 2 - 1 from rfl, Nat.and_two_pow_sub_one_eq_mod]
 have h0 : m.testBit s = (m >>> s).testBit 0 := by rw [Nat.testBit_shiftRight, Nat.add_zero]
 have h1 : m.testBit (s + 1) = (m >>> s).testBit 1 := by rw [Nat.testBit_shiftRight]
 rw [h, h0, h1]
 generalize m >>> s = q
 rw [Nat.testBit_zero, Nat.testBit_succ, Nat.testBit_zero]
 simp only [decide_eq_false_iff_not]
 omega

def setL (n : Nat) (Q : Nat → Bool) : List Int := selTo n Q fun j => (j : Int)

theorem setL_le (n : Nat) (Q : Nat → Bool) : (setL n Q).length ≤ n := selTo_le _ _ _

theorem setL_mem {n : Nat} {Q : Nat → Bool} {a : Int} : a ∈ setL n Q ↔ (0 ≤ a ∧ a.toNat < n) ∧ Q a.toNat = true := by
  unfold setL selTo
  rw [List.mem_map]
  constructor
  · rintro ⟨j, hj, rfl⟩
    rw [List.mem_filter, List.mem_range] at hj
    exact ⟨⟨by omega, by simpa using hj.1⟩, by simpa using hj.2⟩
  · rintro ⟨⟨h0, h1⟩, h2⟩
    exact ⟨a.toNat, List.mem_filter.2 ⟨List.mem_range.2 h1, h2⟩, by omega⟩

def Rising (l : List Int) : Prop := l.Pairwise (· < ·)

theorem setL_rising (n : Nat) (Q : Nat → Bool) : Rising (setL n Q) := by
 unfold Rising setL selTo
 rw [List.pairwise_map]
 refine List.Pairwise.filter _ ?_
 exact List.pairwise_lt_range.imp (fun h => by omega)

theorem rising_ext : ∀ {l m : List Int}, Rising l → Rising m → (∀ a, a ∈ l ↔ a ∈ m) → l = m
  | [], [], _, _, _ => rfl
  | [], b :: m, _, _, h => absurd ((h b).2 List.mem_cons_self) List.not_mem_nil
  | a :: l, [], _, _, h => absurd ((h a).1 List.mem_cons_self) List.not_mem_nil
  | a :: l, b :: m, hl, hm, h => by
    unfold Rising at hl hm
    rw [List.pairwise_cons] at hl hm
    have e : a = b := by
      rcases List.mem_cons.1 ((h a).1 List.mem_cons_self) with h1 | h1
      · exact h1
      · rcases List.mem_cons.1 ((h b).2 List.mem_cons_self) with h2 | h2
        · exact h2.symm
        · have := hl.1 b h2
          have := hm.1 a h1
          omega
    subst e
    congr 1
    refine rising_ext hl.2 hm.2 fun x => ⟨fun hx => ?_, fun hx => ?_⟩
    · rcases List.mem_cons.1 ((h x).1 (List.mem_cons_of_mem _ hx)) with h1 | h1
      · have := hl.1 x hx; omega
      · exact h1
    · rcases List.mem_cons.1 ((h x).2 (List.mem_cons_of_mem _ hx)) with h1 | h1
      · have := hm.1 x hx; omega
      · exact h1

theorem setL_ext {n : Nat} {Q R : Nat → Bool} (h : ∀ j, j < n → Q j = R j) : setL n Q = setL n R :=
  rising_ext (setL_rising n Q) (setL_rising n R) fun a => by
    rw [setL_mem, setL_mem]
    constructor
    · rintro ⟨h1, h2⟩; exact ⟨h1, by rw [← h _ h1.2]; exact h2⟩
    · rintro ⟨h1, h2⟩; exact ⟨h1, by rw [h _ h1.2]; exact h2⟩

theorem hasI_set {n : Nat} {Q : Nat → Bool} {a : Int} (ha : 0 ≤ a ∧ a.toNat < n) : hasI (setL n Q) a = Q a.toNat := by
  unfold hasI
  rw [Bool.eq_iff_iff, List.any_eq_true]
  constructor
  · rintro ⟨b, hb, h⟩
    rw [decide_eq_true_iff] at h
    subst h
    exact (setL_mem.1 hb).2
  · intro h
    exact ⟨a, setL_mem.2 ⟨ha, h⟩, by simp⟩

theorem sp_spec_l1Has (xs : List Int) (v : Int) (hn : xs.length ≤ 1048576) : Sp Tryz.prog 157 [(.slice false 1 (xs.map (fun n : Int => D.int .i64 n))), (.int .i64 v)] [.any, .any] (.bool (hasI xs v)) := by
 refine Sp_intro (lend := true) Tryz.func157 rfl rfl rfl (fun _ => rfl) (fun c hc hX => ?_)
 refine T_seq (T_region hc (Ch.s (.d (.bool false)) pa (Ch.nil (T_seq (T_seq (T_region hc (Ch.s (.d (.slice false 1 (xs.map (fun n : Int => D.int .i64 n)))) pm ?_)))))))
 refine Ch.s (.d (.int .i64 (xs.length : Int))) (.pure (.len _ _ 3 rfl Tryz.underlying55 (.sh _ _) (by simp))) (Ch.s (.d (.int .i64 0)) pm (Ch.nil (T_block ?_)))
 refine T_loop (ι := Nat) (fun k => { n := 17, sl := [(1, (.d (.int .i64 v))), (7, (.d (.slice false 1 (xs.map (fun n : Int => D.int .i64 n))))), (8, (.d (.int .i64 (xs.length : Int)))), (9, (.d (.int .i64 (k : Int))))], hp := [], pin := [] }) (fun k => k ≤ xs.length ∧ ∀ j, j < k → decide (xs.getD j default = v) = false) (fun k => xs.length - k) ⟨0, ⟨by omega, fun j hj => by omega⟩, (Wk.of rfl rfl (ai rfl (ai rfl (ai rfl (ai (vI a114) trivial)))) trivial)⟩ (fun k hp0 => ?_)
 refine T_seq (T_region hc (Ch.s (.d (.bool (decide ((k : Int) < (xs.length : Int))))) (iX rfl rfl rfl) (Ch.nil (T_seq ?_))))
 refine T_condD (p := ((k : Int) < (xs.length : Int))) rfl (fun h1 => ?_) (fun h1 => ?_)
 ·
  refine T_skip (T_seq (T_block (T_seq (T_region hc (Ch.s (.d (.ref (.int .i64 (xs.getD k default)))) (.pure (.idx _ _ _ 3 (k) rfl Tryz.underlying55 sz3 rfl rfl rfl get_mapA)) (Ch.s (.d (.int .i64 (xs.getD k default))) (.pure (.loadRef1 _ _ rfl ag3 rfl rfl)) (Ch.s (.d (.int .i64 (xs.getD k default))) pa ?_)))))))
  refine Ch.nil (T_seq (T_region hc (Ch.s (.d (.int .i64 (xs.getD k default))) pm (Ch.s (.d (.int .i64 v)) pm (Ch.s (.d (.bool (decide ((xs.getD k default) = v)))) (iX rfl rfl rfl) (Ch.nil ?_))))))
  refine T_condD (p := ((xs.getD k default) = v)) rfl (fun h2 => ?_) (fun h2 => ?_)
  ·
   refine T_seq (T_region hc (Ch.s (.d (.bool true)) pa (Ch.nil (T_ret ?_))))
   exact endR [(.d (.bool true))] [] [] (.cons (.tmp 4 rfl) .nil) (.cons (.any _) (.cons (.any _) .nil)) (Exp.of (congrArg D.bool (by exact any_yes default k (by omega) (decide_eq_true (by assumption)))) (.d _)) rfl rfl
  ·
   refine T_skip (T_region hc (Ch.s (.d (.int .i64 ((k : Int) + 1))) (iX rfl rfl intV_addA) (Ch.s (.d (.int .i64 ((k : Int) + 1))) pm (Ch.nil ?_))))
   exact nx (k + 1) ⟨by omega, upto_succ hp0.2 (decide_eq_false (by assumption))⟩ (Wk.of rfl rfl (ai rfl (ai rfl (ai rfl (ai (vI a114) trivial)))) trivial)
 ·
  refine T_exit (T_seq (T_region hc (Ch.s (.d (.bool false)) pa (Ch.nil (T_ret ?_)))))
  exact endR [(.d (.bool false))] [] [] (.cons (.tmp 4 rfl) .nil) (.cons (.any _) (.cons (.any _) .nil)) (Exp.of (congrArg D.bool a113) (.d _)) rfl rfl

def lmask (l : Lab) : Nat := if l.up then 2 * 2 ^ (2 * l.sig).toNat else 2 ^ (2 * l.sig).toNat

def maskStep (ms : List Nat) (a : Arc) : List Nat := if 0 ≤ a.sig then ms.set a.src.toNat (ms.getD a.src.toNat default ||| lmask (Lab.mk a.sig a.up)) else ms

def masksTo (x : Sgr) (k : Nat) : List Nat := (x.arcs.take k).foldl maskStep (List.replicate x.codes.length 0)

def masksL (x : Sgr) : List Nat := masksTo x x.arcs.length

def isEd (s : Int) (up : Bool) (a : Arc) : Bool := decide (a.sig = s) && decide (a.up = up)

def isLab (k s : Int) (up : Bool) (a : Arc) : Bool := decide (a.src = k) && isEd s up a

def labB (x : Sgr) (k s : Int) (up : Bool) : Bool := x.arcs.any (isLab k s up)

theorem maskStep_len (ms : List Nat) (a : Arc) : (maskStep ms a).length = ms.length := by
  unfold maskStep; split
  · rw [List.length_set]
  · rfl

theorem masks_len : ∀ (l : List Arc) (ms : List Nat), (l.foldl maskStep ms).length = ms.length
 | [], _ => rfl
 | a :: l, ms => by rw [List.foldl_cons, masks_len l, maskStep_len]

theorem masksTo_len (x : Sgr) (k : Nat) : (masksTo x k).length = x.codes.length := by rw [masksTo, masks_len, List.length_replicate]

theorem masksTo_zero (x : Sgr) : masksTo x 0 = List.replicate x.codes.length 0 := rfl

theorem masksTo_succ {x : Sgr} {k : Nat} (h : k < x.arcs.length) : masksTo x (k + 1) = maskStep (masksTo x k) (x.arcs.getD k default) := by
 have hg : x.arcs.getD k default = x.arcs[k] := by simp [h]
 unfold masksTo
 rw [List.take_succ_eq_append_getElem h, List.foldl_append, hg]; rfl

theorem lmask_pow {l : Lab} : lmask l = 2 ^ ((2 * l.sig).toNat + if l.up then 1 else 0) := by
  unfold lmask
  cases l.up
  · rfl
  · rw [if_pos rfl, if_pos rfl, Nat.pow_succ, Nat.mul_comm]

theorem lmask_lt {l : Lab} (h : l.sig < 8) : lmask l < 65536 := by
  rw [lmask_pow]
  have h1 : (2 * l.sig).toNat + (if l.up then 1 else 0) ≤ 15 := by split <;> omega
  have h2 : 2 ^ ((2 * l.sig).toNat + (if l.up then 1 else 0)) ≤ 2 ^ 15 := Nat.pow_le_pow_right (by omega) h1
  omega

theorem maskStep_lt {ms : List Nat} {a : Arc} (ha : a.sig < 8) (h : ∀ j : Nat, ms.getD j default < 65536) : ∀ j : Nat, (maskStep ms a).getD j default < 65536 := by
  intro j
  unfold maskStep
  split
  · rw [getD_set]
    split
    · exact Nat.or_lt_two_pow (n := 16) (h _) (lmask_lt ha)
    · exact h j
  · exact h j

theorem masks_lt : ∀ (l : List Arc) (ms : List Nat), (∀ a ∈ l, a.sig < 8) → (∀ j : Nat, ms.getD j default < 65536) → ∀ j : Nat, (l.foldl maskStep ms).getD j default < 65536
 | [], _, _, h => h
 | a :: l, ms, ha, h => masks_lt l (maskStep ms a) (fun b hb => ha b (List.mem_cons_of_mem _ hb)) (maskStep_lt (ha a List.mem_cons_self) h)

theorem rep_getD (n j : Nat) : (List.replicate n (0 : Nat)).getD j default = 0 := by
  rw [List.getD_eq_getElem?_getD, List.getElem?_replicate]; split <;> rfl

theorem masksTo_lt {x : Sgr} (h : ∀ a ∈ x.arcs, a.sig < 8) (k j : Nat) : (masksTo x k).getD j default < 65536 :=
 masks_lt _ _ (fun a ha => h a (List.mem_of_mem_take ha)) (fun j => by rw [rep_getD]; decide) j

theorem lmask_bit {a : Arc} {s : Int} {up : Bool} (h0 : 0 ≤ a.sig) (h1 : 0 ≤ s) : (lmask (Lab.mk a.sig a.up)).testBit ((2 * s).toNat + if up then 1 else 0) = isEd s up a := by
  rw [lmask_pow, Nat.testBit_two_pow]
  unfold isEd
  rw [Bool.eq_iff_iff, Bool.and_eq_true, decide_eq_true_iff, decide_eq_true_iff, decide_eq_true_iff]
  dsimp only
  cases a.up <;> cases up <;> simp <;> omega

theorem masks_bit {s : Int} {up : Bool} (h1 : 0 ≤ s) (n : Nat) (j : Nat) (hj : j < n) : ∀ (l : List Arc) (ms : List Nat), ms.length = n → (∀ a ∈ l, 0 ≤ a.src) →
    ((l.foldl maskStep ms).getD j default).testBit ((2 * s).toNat + if up then 1 else 0) = ((ms.getD j default).testBit ((2 * s).toNat + if up then 1 else 0) || l.any (isLab (j : Int) s up))
  | [], ms, _, _ => by simp
  | a :: l, ms, hm, hl => by
    have h0 := hl a List.mem_cons_self
    rw [List.foldl_cons, masks_bit h1 n j hj l _ (by rw [maskStep_len]; exact hm) (fun b hb => hl b (List.mem_cons_of_mem _ hb)), List.any_cons, ← Bool.or_assoc]
    congr 1
    unfold maskStep
    split
    · rename_i h2
      rw [getD_set]
      split
      · rename_i h3
        rw [Nat.testBit_or, lmask_bit h2 h1, h3.1]
        unfold isLab
        rw [decide_eq_true (by omega : a.src = (j : Int)), Bool.true_and]
      · rename_i h3
        unfold isLab
        rw [decide_eq_false (fun e => h3 ⟨by omega, by omega⟩), Bool.false_and, Bool.or_false]
    · rename_i h2
      unfold isLab isEd
      rw [decide_eq_false (fun e : a.sig = s => h2 (by omega)), Bool.false_and, Bool.and_false, Bool.or_false]

theorem masksL_bit {x : Sgr} {s k : Int} {up : Bool} (hx : SgOk x) (h1 : 0 ≤ s) (hk : 0 ≤ k ∧ k.toNat < x.codes.length) : ((masksL x).getD k.toNat default).testBit ((2 * s).toNat + if up then 1 else 0) = labB x k s up := by
 unfold masksL masksTo labB
 rw [List.take_length, masks_bit h1 x.codes.length k.toNat hk.2 _ _ (by simp) (fun a ha => (hx.ends a ha).1.1), rep_getD, Nat.zero_testBit, Bool.false_or, show (k.toNat : Int) = k by omega]

theorem exc_lab (x : Sgr) (k s : Int) : excB x k s = (labB x k s false || labB x k s true) := by
  unfold excB labB
  induction x.arcs with
  | nil => rfl
  | cons a l ih =>
    rw [List.any_cons, List.any_cons, List.any_cons, ih]
    have : isArc k s a = (isLab k s false a || isLab k s true a) := by
      unfold isArc isLab isEd
      cases a.up <;> simp
    rw [this]
    cases isLab k s false a <;> cases isLab k s true a <;> cases l.any (isLab k s false) <;> rfl

theorem two_exc {x : Sgr} {s k : Int} (hx : SgOk x) (h1 : 0 ≤ s) (hk : 0 ≤ k ∧ k.toNat < x.codes.length) : decide (((two ((masksL x).getD k.toNat default) (2 * s).toNat : Nat) : Int) = 0) = !excB x k s := by
 have b0 := masksL_bit (up := false) hx h1 hk
 have b1 := masksL_bit (up := true) hx h1 hk
 rw [if_neg (by decide), Nat.add_zero] at b0
 rw [if_pos rfl] at b1
 rw [exc_lab, Bool.eq_iff_iff, decide_eq_true_iff, ← b0, ← b1]
 have := two_zero (m := (masksL x).getD k.toNat default) (s := (2 * s).toNat)
 simp only [Bool.not_eq_true', Bool.or_eq_false_iff]
 rw [← this]; omega

def excTo (x : Sgr) (sig : Int) (up : Bool) (m : Nat) : List Int := setL x.codes.length fun j => (x.arcs.take m).any (isLab (j : Int) sig up)

def excS (x : Sgr) (sig : Int) (up : Bool) : List Int := excTo x sig up x.arcs.length

theorem excTo_le (x : Sgr) (sig : Int) (up : Bool) (m : Nat) : (excTo x sig up m).length ≤ x.codes.length := setL_le _ _

theorem excTo_rising (x : Sgr) (sig : Int) (up : Bool) (m : Nat) : Rising (excTo x sig up m) := setL_rising _ _

theorem exc_has {x : Sgr} {sig k : Int} {up : Bool} (hk : 0 ≤ k ∧ k.toNat < x.codes.length) : hasI (excS x sig up) k = labB x k sig up := by
 unfold excS excTo
 rw [hasI_set hk, List.take_length, show (k.toNat : Int) = k by omega]; rfl

theorem outs_in {sg : List Sgn} : ∀ s ∈ outsL sg, 0 ≤ s ∧ s.toNat < sg.length := by
 intro s hs
 obtain ⟨j, hj, rfl⟩ := List.mem_map.1 hs
 have := List.mem_range.1 (List.mem_filter.1 hj).1
 omega

theorem outs_len (sg : List Sgn) : (outsL sg).length ≤ sg.length := outK_le sg _

theorem sp_impl_labelMask (l : Lab) (h0 : 0 ≤ l.sig) (h8 : l.sig < 8) : Sp Tryz.prog 306 [(.agg [(.int .i64 l.sig), (.bool (l.up))])] [.any] (.int .i64 (lmask l : Int)) := by
 refine Sp_intro (lend := true) Tryz.func306 rfl rfl rfl (fun _ => rfl) (fun c hc hX => ?_)
 refine T_seq (T_region hc (Ch.s (.ptr 1000 0) (.box 1000 _ _ rfl (.aggD _)) (Ch.s (.d (.int .i64 0)) pa (Ch.nil (T_seq (T_seq (T_region hc ?_)))))))
 refine Ch.s (.ptr 1000 1) (.pure (.fldPtr _ _ _ rfl fld107_1 rfl)) (Ch.s (.d (.bool (l.up))) (.pure (.loadPtr1 _ _ rfl ag4 rfl rfl rfl)) (Ch.nil ?_))
 refine T_cond (b := (l.up)) rfl (fun h1 => ?_) (fun h1 => ?_)
 ·
  refine T_seq (T_region hc (Ch.s (.ptr 1000 0) (.pure (.fldPtr _ _ _ rfl fld107_0 rfl)) (Ch.s (.d (.int .i64 l.sig)) (.pure (.loadPtr1 _ _ rfl ag3 rfl rfl rfl)) (Ch.s (.d (.int .i64 (2 * l.sig))) (iX rfl rfl (intV_mul a43 a43)) (Ch.s (.d (.int .i64 ((2 * 2 ^ (((2 * l.sig)).toNat) : Nat) : Int))) (.pure (.shift _ _ _ _ _ rfl rfl rfl (shl2 (n := ((2 * l.sig)).toNat) (by omega) a43))) (Ch.s (.d (.int .i64 ((2 * 2 ^ (((2 * l.sig)).toNat) : Nat) : Int))) pa (Ch.nil ?_)))))))
  refine T_ret ?_
  exact endR [(.d (.int .i64 ((2 * 2 ^ (((2 * l.sig)).toNat) : Nat) : Int)))] [] [] (.cons (.tmp 2 rfl) .nil) (.cons (.any _) .nil) (Exp.of (congrArg (D.int .i64) a78) (.d _)) rfl rfl
 ·
  refine T_skip (T_seq (T_region hc (Ch.s (.ptr 1000 0) (.pure (.fldPtr _ _ _ rfl fld107_0 rfl)) (Ch.s (.d (.int .i64 l.sig)) (.pure (.loadPtr1 _ _ rfl ag3 rfl rfl rfl)) (Ch.s (.d (.int .i64 (2 * l.sig))) (iX rfl rfl (intV_mul a43 a43)) (Ch.s (.d (.int .i64 ((2 ^ (((2 * l.sig)).toNat) : Nat) : Int))) (.pure (.shift _ _ _ _ _ rfl rfl rfl (shl1 (n := ((2 * l.sig)).toNat) (by omega) a43))) (Ch.s (.d (.int .i64 ((2 ^ (((2 * l.sig)).toNat) : Nat) : Int))) pa ?_)))))))
  refine Ch.nil (T_ret ?_)
  exact endR [(.d (.int .i64 ((2 ^ (((2 * l.sig)).toNat) : Nat) : Int)))] [] [] (.cons (.tmp 2 rfl) .nil) (.cons (.any _) .nil) (Exp.of (congrArg (D.int .i64) a78) (.d _)) rfl rfl

set_option maxHeartbeats 1000000 in
theorem sp_impl_labelMasks (x : Sgr) (hb : x.bulk ≤ 1048576) (hx : SgOk x) : Sp Tryz.prog 296 [(.agg [(.slice false 2 (x.sigs.map Sgn.d)), (.slice false 1 (x.codes.map D.str)), (.slice false 4 (x.arcs.map Arc.d))])] [.any] (.slice true 1 ((masksL x).map (fun n : Nat => D.int .i64 (n : Int)))) := by
 refine Sp_intro (lend := true) Tryz.func296 rfl rfl rfl (fun _ => rfl) (fun c hc hX => ?_)
 obtain ⟨hp0, hp1, hp2⟩ := Sgr.parts hb
 have hn0 := bulkF_len hp0
 have hn1 := bulk_len hp1
 have hx1 := bulk_mem hp1
 have hn2 := bulkF_len hp2; have hx8 := hx.eight; have hxl := hx.len; have hxf := hx.few; have hs8 : ∀ a ∈ x.arcs, a.sig < 8 := fun a ha => (by have := hx.sig a ha; omega)
 refine T_seq (T_region hc (Ch.s (.ptr 1000 0) (.box 1000 _ _ rfl (.aggD _)) (Ch.s (.c (.slice none 0 0)) pa (Ch.nil (T_seq (T_region hc (Ch.s (.ptr 1000 1) (.pure (.fldPtr _ _ _ rfl fld35_1 rfl)) ?_)))))))
 refine Ch.s (.d (.slice false 1 (x.codes.map D.str))) (.pure (.loadPtr1 _ _ rfl ag23 rfl rfl rfl)) (Ch.s (.d (.int .i64 (x.codes.length : Int))) (.pure (.len _ _ 9 rfl Tryz.underlying23 (.sh _ _) (by simp))) (Ch.s (.row 9000) (.make 9000 _ 3 _ _ (x.codes.length) (x.codes.length) rfl sty55 rfl rfl rfl rfl a43 a43 a43 (zeroD_mk (zd := (.int .i64 0)) zr3 a120 rfl)) (Ch.s (.row 9000) pa (Ch.nil (T_seq (T_seq (T_region hc ?_)))))))
 refine Ch.s (.ptr 1000 2) (.pure (.fldPtr _ _ _ rfl fld35_2 rfl)) (Ch.s (.d (.slice false 4 (x.arcs.map Arc.d))) (.pure (.loadPtr1 _ _ rfl ag33 rfl rfl rfl)) (Ch.s (.d (.int .i64 (x.arcs.length : Int))) (.pure (.len _ _ 125 rfl Tryz.underlying33 (.sh _ _) (by simp))) (Ch.s (.d (.int .i64 0)) pm (Ch.nil (T_block ?_)))))
 refine T_loop (ι := Nat) (fun k => { n := 35, sl := [(3, (.row 3)), (11, (.d (.slice false 4 (x.arcs.map Arc.d)))), (12, (.d (.int .i64 (x.arcs.length : Int)))), (13, (.d (.int .i64 (k : Int))))], hp := [(3, (some (.row 1 ((masksTo x k).map (fun n : Nat => D.int .i64 (n : Int))))))], pin := [] }) (fun k => k ≤ x.arcs.length) (fun k => x.arcs.length - k) ⟨0, (by omega), (Wk.ren [(3, 9000)] rfl rfl rfl rfl (ai rfl (ai rfl (ai rfl (ai (vI a114) trivial)))) (ai (oR a33) trivial))⟩ (fun k hp0 => ?_)
 have hq := masksTo_len x k; have hm6 := masksTo_lt hs8 k
 refine T_seq (T_region hc (Ch.s (.d (.bool (decide ((k : Int) < (x.arcs.length : Int))))) (iX rfl rfl rfl) (Ch.nil (T_seq ?_))))
 refine T_condD (p := ((k : Int) < (x.arcs.length : Int))) rfl (fun h1 => ?_) (fun h1 => ?_)
 ·
  try have hek := hx.ends _ (getD_mem (l := x.arcs) (j := k) (d := default) (by omega))
  try have hsk := hs8 _ (getD_mem (l := x.arcs) (j := k) (d := default) (by omega))
  refine T_skip (T_seq (T_block (T_seq (T_region hc (Ch.s (.d (.ref (.agg [(.int .i64 ((x.arcs.getD k default).src)), (.int .i64 ((x.arcs.getD k default).sig)), (.bool ((x.arcs.getD k default).up)), (.int .i64 ((x.arcs.getD k default).dst))]))) (.pure (.idx _ _ _ 125 (k) rfl Tryz.underlying33 sz125 rfl rfl rfl get_mapA)) (Ch.s (.d (.agg [(.int .i64 ((x.arcs.getD k default).src)), (.int .i64 ((x.arcs.getD k default).sig)), (.bool ((x.arcs.getD k default).up)), (.int .i64 ((x.arcs.getD k default).dst))])) (.pure (.loadRefA _ _ rfl ag125 sz125 rfl)) (Ch.s (.ptr 5000 0) (.alloc 5000 _ rfl zer125) ?_)))))))
  refine Ch.s .junk (.storePtr _ _ _ rfl rfl rfl (.aggD _) sz125 (lb rfl)) (Ch.nil (T_seq (T_region hc (Ch.s (.ptr 5000 1) (.pure (.fldPtr _ _ _ rfl fld125_1 rfl)) (Ch.s (.d (.int .i64 ((x.arcs.getD k default).sig))) (.pure (.loadPtr1 _ _ rfl ag3 rfl rfl rfl)) (Ch.s (.d (.bool (decide (0 ≤ ((x.arcs.getD k default).sig))))) (iX rfl rfl rfl) (Ch.nil ?_)))))))
  refine T_condD (p := (0 ≤ ((x.arcs.getD k default).sig))) rfl (fun h2 => ?_) (fun h2 => ?_)
  ·
   try have hlm := lmask_lt (l := Lab.mk (x.arcs.getD k default).sig (x.arcs.getD k default).up) hsk
   try have hmk := hm6 (x.arcs.getD k default).src.toNat
   refine T_regionD hc (by kernel_rfl) ?_
   refine ChD.s (.row 3) [] pm (ChD.s (.ptr 5000 0) [] (.pure (.fldPtr _ _ _ rfl fld125_0 rfl)) (ChD.s (.d (.int .i64 ((x.arcs.getD k default).src))) [5000] (.pure (.loadPtr1 _ _ rfl ag3 rfl rfl rfl)) (ChD.s (.el 3 1 ((((x.arcs.getD k default).src)).toNat) 0) [3] (.pure (.idxRow _ _ _ 3 ((((x.arcs.getD k default).src)).toNat) rfl Tryz.underlying55 sz3 rfl rfl rfl (by omega) a86)) (ChD.s (.d (.int .i64 (((masksTo x k).getD ((((x.arcs.getD k default).src)).toNat) default) : Int))) [3] (.pure (.loadEl1 _ _ rfl ag3 rfl rfl get_mapA rfl rfl rfl)) (ChD.s (.ptr 5000 1) [] (.pure (.fldPtr _ _ _ rfl fld125_1 rfl)) (ChD.s (.d (.int .i64 ((x.arcs.getD k default).sig))) [5000] (.pure (.loadPtr1 _ _ rfl ag3 rfl rfl rfl)) (ChD.s (.ptr 5000 2) [] (.pure (.fldPtr _ _ _ rfl fld125_2 rfl)) ?_)))))))
   refine ChD.s (.d (.bool ((x.arcs.getD k default).up))) [5000] (.pure (.loadPtr1 _ _ rfl ag4 rfl rfl rfl)) (ChD.s (.agg [(.d (.int .i64 ((x.arcs.getD k default).sig))), (.d (.bool ((x.arcs.getD k default).up)))]) [] (.build _ _ rfl stru107 (.cons (.one _ rfl) (.cons (.one _ rfl) .nil)) rfl) (ChD.s (.d (.int .i64 (lmask (Lab.mk ((x.arcs.getD k default).sig) ((x.arcs.getD k default).up)) : Int))) [] (.call 30000 306 _ _ _ en306 rfl (.inl rfl) (.cons (.lend (.agg (.cons (.d _) (.cons (.d _) .nil)) rfl)) .nil) rfl rfl (sp_impl_labelMask (Lab.mk ((x.arcs.getD k default).sig) ((x.arcs.getD k default).up)) a39 a39) (.skip _ _ .nil) rfl) (ChD.s (.d (.int .i64 ((((masksTo x k).getD ((((x.arcs.getD k default).src)).toNat) default) ||| (lmask (Lab.mk ((x.arcs.getD k default).sig) ((x.arcs.getD k default).up))) : Nat) : Int))) [] (iX rfl rfl (i64_or (a := ((masksTo x k).getD ((((x.arcs.getD k default).src)).toNat) default)) (b := lmask (Lab.mk ((x.arcs.getD k default).sig) ((x.arcs.getD k default).up))) a43 a43)) (ChD.s (.el 3 1 ((((x.arcs.getD k default).src)).toNat) 0) [3] (.pure (.idxRow _ _ _ 3 ((((x.arcs.getD k default).src)).toNat) rfl Tryz.underlying55 sz3 rfl rfl rfl (by omega) a86)) (ChD.s .junk [3] (.storeEl (y' := (.int .i64 ((((masksTo x k).getD ((((x.arcs.getD k default).src)).toNat) default) ||| (lmask (Lab.mk ((x.arcs.getD k default).sig) ((x.arcs.getD k default).up))) : Nat) : Int))) _ _ _ rfl rfl rfl (.d _) rfl sz3 rfl get_mapA rfl rfl) ?_)))))
   refine ChD.nil (And.intro ?_ (by kernel_rfl))
   refine T_region hc (Ch.s (.d (.int .i64 ((k : Int) + 1))) (iX rfl rfl intV_addA) (Ch.s (.d (.int .i64 ((k : Int) + 1))) pm (Ch.nil ?_)))
   exact nx (k + 1) (by omega) (Wk.of rfl rfl (ai rfl (ai rfl (ai rfl (ai (vI a114) trivial)))) (ai (oR a33) trivial))
  ·
   try have hlm := lmask_lt (l := Lab.mk (x.arcs.getD k default).sig (x.arcs.getD k default).up) hsk
   try have hmk := hm6 (x.arcs.getD k default).src.toNat
   refine T_skip (T_region hc (Ch.s (.d (.int .i64 ((k : Int) + 1))) (iX rfl rfl intV_addA) (Ch.s (.d (.int .i64 ((k : Int) + 1))) pm (Ch.nil ?_))))
   exact nx (k + 1) (by omega) (Wk.of rfl rfl (ai rfl (ai rfl (ai rfl (ai (vI a114) trivial)))) (ai (oR a33) trivial))
 ·
  try have hek := hx.ends _ (getD_mem (l := x.arcs) (j := k) (d := default) (by omega))
  try have hsk := hs8 _ (getD_mem (l := x.arcs) (j := k) (d := default) (by omega))
  refine T_exit (T_seq (T_region hc (Ch.s (.row 3) pm (Ch.s (.row 3) pa (Ch.nil (T_ret ?_))))))
  exact endR [(.row 3)] [] [3] (.cons (.tmp 2 rfl) .nil) (.cons (.any _) .nil) (Exp.of (congrArg (D.slice true 1) (by rw [masksL, show x.arcs.length = k by omega])) (.row rfl)) rfl rfl

theorem en257 : Enters Tryz.prog 257 := ⟨_, Tryz.func257, by kernel_rfl, rfl⟩

theorem en307 : Enters Tryz.prog 307 := ⟨_, Tryz.func307, by kernel_rfl, rfl⟩

theorem en303 : Enters Tryz.prog 303 := ⟨_, Tryz.func303, by kernel_rfl, rfl⟩

theorem en302 : Enters Tryz.prog 302 := ⟨_, Tryz.func302, by kernel_rfl, rfl⟩

theorem en296 : Enters Tryz.prog 296 := ⟨_, Tryz.func296, by kernel_rfl, rfl⟩

theorem en173 : Enters Tryz.prog 173 := ⟨_, Tryz.func173, by kernel_rfl, rfl⟩

theorem en300 : Enters Tryz.prog 300 := ⟨_, Tryz.func300, by kernel_rfl, rfl⟩

theorem en301 : Enters Tryz.prog 301 := ⟨_, Tryz.func301, by kernel_rfl, rfl⟩

theorem en299 : Enters Tryz.prog 299 := ⟨_, Tryz.func299, by kernel_rfl, rfl⟩

theorem sp_IndexFunc_int (xs : List (Int)) (f : FuncId) (caps : List D) (p : Int → Bool) (hf : Enters Tryz.prog f) (hp : ∀ x ∈ xs, Sp Tryz.prog f ((fun n : Int => D.int .i64 n) x :: caps) (.any :: anys caps) (.bool (p x))) (hn : xs.length ≤ 1048576) : Sp Tryz.prog 257 [(.slice false 1 (xs.map (fun n : Int => D.int .i64 n))), (.fn f caps)] [.any, .any] (.int .i64 (ixF p xs)) := by
 refine Sp_intro (lend := true) Tryz.func257 rfl rfl rfl (fun _ => rfl) (fun c hc hX => ?_)
 refine T_seq (T_region hc (Ch.s (.d (.int .i64 0)) pa (Ch.nil (T_seq (T_seq (T_region hc (Ch.s (.d (.slice false 1 (xs.map (fun n : Int => D.int .i64 n)))) pm ?_)))))))
 refine Ch.s (.d (.int .i64 (xs.length : Int))) (.pure (.len _ _ 3 rfl Tryz.underlying55 (.sh _ _) (by simp))) (Ch.s (.d (.int .i64 0)) pm (Ch.nil (T_block ?_)))
 refine T_loop (ι := Nat) (fun k => { n := 19, sl := [(0, (.d (.slice false 1 (xs.map (fun n : Int => D.int .i64 n))))), (1, (.d (.fn f caps))), (7, (.d (.int .i64 (xs.length : Int)))), (8, (.d (.int .i64 (k : Int))))], hp := [], pin := [] }) (fun k => k ≤ xs.length ∧ ∀ j, j < k → p (xs.getD j default) = false) (fun k => xs.length - k) ⟨0, ⟨by omega, fun j hj => by omega⟩, (Wk.of rfl rfl (ai rfl (ai rfl (ai rfl (ai (vI a114) trivial)))) trivial)⟩ (fun k hp0 => ?_)
 refine T_seq (T_region hc (Ch.s (.d (.bool (decide ((k : Int) < (xs.length : Int))))) (iX rfl rfl rfl) (Ch.nil (T_seq ?_))))
 refine T_condD (p := ((k : Int) < (xs.length : Int))) rfl (fun h1 => ?_) (fun h1 => ?_)
 ·
  refine T_skip (T_seq (T_block (T_seq (T_region hc (Ch.s (.d (.int .i64 (k : Int))) pm (Ch.s (.d (.int .i64 (k : Int))) pa (Ch.nil ?_)))))))
  refine T_seq (T_region hc (Ch.s (.d (.fn f caps)) pm (Ch.s (.d (.slice false 1 (xs.map (fun n : Int => D.int .i64 n)))) pm (Ch.s (.d (.int .i64 (k : Int))) pm (Ch.s (.d (.ref (.int .i64 (xs.getD k default)))) (.pure (.idx _ _ _ 3 (k) rfl Tryz.underlying55 sz3 rfl rfl rfl get_mapA)) (Ch.s (.d (.int .i64 (xs.getD k default))) (.pure (.loadRef1 _ _ rfl ag3 rfl rfl)) ?_))))))
  refine Ch.step (v := (.d (.bool (p (xs.getD k default))))) rfl (.callS 16000 f _ #[.tmp 15] _ hf rfl (.inr ⟨caps, rfl, rfl⟩) (.cons (.d _) (exps_ds caps)) rfl (hp _ (getD_mem (by omega))) (.skip _ _ (back_anys caps)) rfl) rfl rfl ?_
  refine Ch.nil ?_
  refine T_cond (b := (p (xs.getD k default))) rfl (fun h2 => ?_) (fun h2 => ?_)
  ·
   refine T_seq (T_region hc (Ch.s (.d (.int .i64 (k : Int))) pm (Ch.s (.d (.int .i64 (k : Int))) pa (Ch.nil (T_ret ?_)))))
   exact endR [(.d (.int .i64 (k : Int)))] [] [] (.cons (.tmp 4 rfl) .nil) (.cons (.any _) (.cons (.any _) .nil)) (Exp.of (congrArg (D.int .i64) a96) (.d _)) rfl rfl
  ·
   refine T_skip (T_region hc (Ch.s (.d (.int .i64 ((k : Int) + 1))) (iX rfl rfl intV_addA) (Ch.s (.d (.int .i64 ((k : Int) + 1))) pm (Ch.nil ?_))))
   exact nx (k + 1) ⟨by omega, upto_succ hp0.2 (by assumption)⟩ (Wk.of rfl rfl (ai rfl (ai rfl (ai rfl (ai (vI a114) trivial)))) trivial)
 ·
  refine T_exit (T_seq (T_region hc (Ch.s (.d (.int .i64 (-1))) pa (Ch.nil (T_ret ?_)))))
  exact endR [(.d (.int .i64 (-1)))] [] [] (.cons (.tmp 4 rfl) .nil) (.cons (.any _) (.cons (.any _) .nil)) (Exp.of (congrArg (D.int .i64) a97) (.d _)) rfl rfl

theorem sp_ContainsFunc_int (xs : List (Int)) (f : FuncId) (caps : List D) (p : Int → Bool) (hf : Enters Tryz.prog f) (hp : ∀ x ∈ xs, Sp Tryz.prog f ((fun n : Int => D.int .i64 n) x :: caps) (.any :: anys caps) (.bool (p x))) (hn : xs.length ≤ 1048576) : Sp Tryz.prog 302 [(.slice false 1 (xs.map (fun n : Int => D.int .i64 n))), (.fn f caps)] [.any, .any] (.bool (xs.any p)) := by
 refine Sp_intro (lend := true) Tryz.func302 rfl rfl rfl (fun _ => rfl) (fun c hc hX => ?_)
 refine T_seq (T_region hc (Ch.s (.d (.bool false)) pa (Ch.nil (T_seq (T_region hc (Ch.s (.d (.slice false 1 (xs.map (fun n : Int => D.int .i64 n)))) pm (Ch.s (.d (.fn f caps)) pm ?_)))))))
 refine Ch.s (.d (.int .i64 (ixF p xs))) (.call 7000 257 _ _ _ en257 rfl (.inl rfl) (.cons (.d _) (.cons (.d _) .nil)) rfl rfl (sp_IndexFunc_int xs f caps p hf hp a39) (.skip _ _ (.skip _ _ .nil)) rfl) (Ch.s (.d (.bool (decide (0 ≤ (ixF p xs))))) (iX rfl rfl rfl) (Ch.s (.d (.bool (decide (0 ≤ (ixF p xs))))) pa (Ch.nil (T_ret ?_))))
 exact endR [(.d (.bool (decide (0 ≤ (ixF p xs)))))] [] [] (.cons (.tmp 4 rfl) .nil) (.cons (.any _) (.cons (.any _) .nil)) (Exp.of (congrArg D.bool (by exact ixF_nonneg p xs)) (.d _)) rfl rfl

theorem sp_IndexFunc_ints (xs : List (List Int)) (f : FuncId) (caps : List D) (p : List Int → Bool) (hf : Enters Tryz.prog f) (hp : ∀ x ∈ xs, Sp Tryz.prog f (intsD x :: caps) (.any :: anys caps) (.bool (p x))) (hn : xs.length ≤ 1048576) : Sp Tryz.prog 307 [(.slice false 1 (xs.map intsD)), (.fn f caps)] [.any, .any] (.int .i64 (ixF p xs)) := by
 refine Sp_intro (lend := true) Tryz.func307 rfl rfl rfl (fun _ => rfl) (fun c hc hX => ?_)
 refine T_seq (T_region hc (Ch.s (.d (.int .i64 0)) pa (Ch.nil (T_seq (T_seq (T_region hc (Ch.s (.d (.slice false 1 (xs.map intsD))) pm ?_)))))))
 refine Ch.s (.d (.int .i64 (xs.length : Int))) (.pure (.len _ _ 55 rfl Tryz.underlying49 (.sh _ _) (by simp))) (Ch.s (.d (.int .i64 0)) pm (Ch.nil (T_block ?_)))
 refine T_loop (ι := Nat) (fun k => { n := 19, sl := [(0, (.d (.slice false 1 (xs.map intsD)))), (1, (.d (.fn f caps))), (7, (.d (.int .i64 (xs.length : Int)))), (8, (.d (.int .i64 (k : Int))))], hp := [], pin := [] }) (fun k => k ≤ xs.length ∧ ∀ j, j < k → p (xs.getD j default) = false) (fun k => xs.length - k) ⟨0, ⟨by omega, fun j hj => by omega⟩, (Wk.of rfl rfl (ai rfl (ai rfl (ai rfl (ai (vI a114) trivial)))) trivial)⟩ (fun k hp0 => ?_)
 refine T_seq (T_region hc (Ch.s (.d (.bool (decide ((k : Int) < (xs.length : Int))))) (iX rfl rfl rfl) (Ch.nil (T_seq ?_))))
 refine T_condD (p := ((k : Int) < (xs.length : Int))) rfl (fun h1 => ?_) (fun h1 => ?_)
 ·
  refine T_skip (T_seq (T_block (T_seq (T_region hc (Ch.s (.d (.int .i64 (k : Int))) pm (Ch.s (.d (.int .i64 (k : Int))) pa (Ch.nil ?_)))))))
  refine T_seq (T_region hc (Ch.s (.d (.fn f caps)) pm (Ch.s (.d (.slice false 1 (xs.map intsD))) pm (Ch.s (.d (.int .i64 (k : Int))) pm (Ch.s (.d (.ref (.slice false 1 ((xs.getD k default).map (fun n : Int => D.int .i64 n))))) (.pure (.idx _ _ _ 55 (k) rfl Tryz.underlying49 sz55 rfl rfl rfl get_mapA)) (Ch.s (.d (.slice false 1 ((xs.getD k default).map (fun n : Int => D.int .i64 n)))) (.pure (.loadRef1 _ _ rfl ag55 rfl rfl)) ?_))))))
  refine Ch.step (v := (.d (.bool (p (xs.getD k default))))) rfl (.callS 16000 f _ #[.tmp 15] _ hf rfl (.inr ⟨caps, rfl, rfl⟩) (.cons (.d _) (exps_ds caps)) rfl (hp _ (getD_mem (by omega))) (.skip _ _ (back_anys caps)) rfl) rfl rfl ?_
  refine Ch.nil ?_
  refine T_cond (b := (p (xs.getD k default))) rfl (fun h2 => ?_) (fun h2 => ?_)
  ·
   refine T_seq (T_region hc (Ch.s (.d (.int .i64 (k : Int))) pm (Ch.s (.d (.int .i64 (k : Int))) pa (Ch.nil (T_ret ?_)))))
   exact endR [(.d (.int .i64 (k : Int)))] [] [] (.cons (.tmp 4 rfl) .nil) (.cons (.any _) (.cons (.any _) .nil)) (Exp.of (congrArg (D.int .i64) a96) (.d _)) rfl rfl
  ·
   refine T_skip (T_region hc (Ch.s (.d (.int .i64 ((k : Int) + 1))) (iX rfl rfl intV_addA) (Ch.s (.d (.int .i64 ((k : Int) + 1))) pm (Ch.nil ?_))))
   exact nx (k + 1) ⟨by omega, upto_succ hp0.2 (by assumption)⟩ (Wk.of rfl rfl (ai rfl (ai rfl (ai rfl (ai (vI a114) trivial)))) trivial)
 ·
  refine T_exit (T_seq (T_region hc (Ch.s (.d (.int .i64 (-1))) pa (Ch.nil (T_ret ?_)))))
  exact endR [(.d (.int .i64 (-1)))] [] [] (.cons (.tmp 4 rfl) .nil) (.cons (.any _) (.cons (.any _) .nil)) (Exp.of (congrArg (D.int .i64) a97) (.d _)) rfl rfl

theorem anys_sol : ∀ ds : List D, solids (anys ds) = true
 | [] => rfl
 | _ :: ds => anys_sol ds

theorem anys_one {ds : List D} (h : solids ds = true) : solids (D.any :: ds) = true := h

def dlRow (p : List Int → Bool) (xs : List (List Int)) (j : Nat) (us : List Value) : List D := (keepTo p xs j).map intsU ++ us.map D.hole ++ (xs.drop j).map intsU

structure DlInv (p : List Int → Bool) (xs : List (List Int)) (j : Nat) (us : List Value) : Prop where
 le : j ≤ xs.length
 len : (keepTo p xs j).length + us.length = j
 pos : 0 < us.length

theorem dl_len {p : List Int → Bool} {xs : List (List Int)} {j : Nat} {us : List Value} (h : DlInv p xs j us) : (dlRow p xs j us).length = xs.length := by
 have h1 := h.len
 have h2 := h.le
 unfold dlRow
 simp only [List.length_append, List.length_map, List.length_drop]
 omega

theorem dl_at {p : List Int → Bool} {xs : List (List Int)} {j : Nat} {us : List Value} (h : DlInv p xs j us) (hj : j < xs.length) : (dlRow p xs j us)[j]? = some (intsU (xs.getD j default)) := by
 have h1 := h.len
 unfold dlRow
 rw [List.getElem?_append_right (by simp only [List.length_append, List.length_map]; omega)]
 simp only [List.length_append, List.length_map]
 rw [show j - ((keepTo p xs j).length + us.length) = 0 by omega, List.getElem?_map, List.getElem?_drop, Nat.add_zero]
 simp [hj]

theorem dl_set {p : List Int → Bool} {xs : List (List Int)} {j : Nat} {us : List Value} (h : DlInv p xs j us) (hj : j < xs.length) (d : D) : (dlRow p xs j us).set j d = (keepTo p xs j).map intsU ++ (us.map D.hole ++ d :: (xs.drop (j + 1)).map intsU) := by
 have h1 := h.len
 unfold dlRow
 rw [List.append_assoc, List.set_append_right (h := by simp only [List.length_map]; omega)]
 rw [List.set_append_right (h := by simp only [List.length_map]; omega)]
 simp only [List.length_map]
 rw [show j - (keepTo p xs j).length - us.length = 0 by omega, List.drop_eq_getElem_cons hj, List.map_cons, List.set_cons_zero]

theorem dl_hole {p : List Int → Bool} {xs : List (List Int)} {j : Nat} {us : List Value} {u : Value} (h : DlInv p xs j us) (hj : j < xs.length) : ((dlRow p xs j us).set j (.hole u))[(keepTo p xs j).length]? = some (.hole (us.getD 0 default)) := by
 have h3 := h.pos
 rw [dl_set h hj, List.getElem?_append_right (by simp)]
 simp only [List.length_map, Nat.sub_self]
 cases us with
 | nil => exact absurd h3 (Nat.not_lt_zero _)
 | cons v us => rfl

theorem dl_skip {p : List Int → Bool} {xs : List (List Int)} {j : Nat} {us : List Value} {u : Value} (h : DlInv p xs j us) (hj : j < xs.length) (hp : p (xs.getD j default) = true) :
  (dlRow p xs j us).set j (.hole u) = dlRow p xs (j + 1) (us ++ [u]) ∧ DlInv p xs (j + 1) (us ++ [u]) := by
 have hk := keepTo_no hj hp
 have h1 := h.len
 refine ⟨?_, by omega, by rw [hk, List.length_append, List.length_singleton]; omega, by simp⟩
 rw [dl_set h hj]
 unfold dlRow
 rw [hk, List.map_append]
 simp

theorem dl_keep {p : List Int → Bool} {xs : List (List Int)} {j : Nat} {us : List Value} {u : Value} (h : DlInv p xs j us) (hj : j < xs.length) (hp : p (xs.getD j default) = false) :
  ((dlRow p xs j us).set j (.hole u)).set (keepTo p xs j).length (intsU (xs.getD j default)) = dlRow p xs (j + 1) (us.tail ++ [u]) ∧ DlInv p xs (j + 1) (us.tail ++ [u]) := by
 have hk := keepTo_yes hj hp
 have h1 := h.len
 have h3 := h.pos
 refine ⟨?_, by omega, by rw [hk]; simp only [List.length_append, List.length_singleton, List.length_tail]; omega, by simp⟩
 rw [dl_set h hj, List.set_append_right (h := by simp)]
 simp only [List.length_map, Nat.sub_self]
 unfold dlRow
 rw [hk]
 cases us with
 | nil => exact absurd h3 (Nat.not_lt_zero _)
 | cons v us => simp

theorem dl_start {p : List Int → Bool} {xs : List (List Int)} {u : Value} (h : ¬ ixF p xs = -1) : (xs.map intsU).set (ixF p xs).toNat (.hole u) = dlRow p xs ((ixF p xs).toNat + 1) [u] ∧ DlInv p xs ((ixF p xs).toNat + 1) [u] ∧ (keepTo p xs ((ixF p xs).toNat + 1)).length = (ixF p xs).toNat ∧ (ixF p xs).toNat < xs.length := by
  obtain ⟨k, hk, hk1, hk2⟩ := ixF_first h
  have e : (ixF p xs).toNat = k := by omega
  rw [e]
  have hl : (keepTo p xs (k + 1)).length = k := by rw [hk2, List.length_take]; omega
  refine ⟨?_, ⟨by omega, by rw [hl]; rfl, by simp⟩, hl, hk⟩
  unfold dlRow
  rw [hk2]
  apply List.ext_getElem?
  intro q
  have ht : (xs.take k).length = k := by rw [List.length_take]; omega
  rw [List.append_assoc, List.getElem?_append, List.getElem?_set, List.length_map, List.length_map, ht]
  by_cases h1 : k = q
  · subst h1
    rw [if_pos rfl, if_pos hk, if_neg (by omega), Nat.sub_self]; rfl
  · rw [if_neg h1]
    by_cases h2 : q < k
    · rw [if_pos h2, List.getElem?_map, List.getElem?_map, List.getElem?_take, if_pos h2]
    · rw [if_neg h2, show q - k = (q - k - 1) + 1 by omega]
      simp only [List.map_cons, List.map_nil, List.singleton_append, List.getElem?_cons_succ, List.getElem?_map, List.getElem?_drop]
      rw [show k + 1 + (q - k - 1) = q by omega]

theorem dl_clear {p : List Int → Bool} {xs : List (List Int)} {j : Nat} {us : List Value} (h : DlInv p xs j us) (hj : ¬ j < xs.length) : noUs (((dlRow p xs j us).take (dlRow p xs j us).length).drop (keepTo p xs j).length) = true := by
 have h2 := h.le
 rw [List.take_length]
 unfold dlRow
 rw [List.drop_of_length_le (i := j) (by omega), List.map_nil, List.append_nil, List.drop_append]
 rw [List.drop_of_length_le (by simp), List.nil_append]
 exact noUs_iff.2 fun y hy => by
  obtain ⟨v, _, rfl⟩ := List.mem_map.1 (List.mem_of_mem_drop hy)
  rfl

theorem dl_end {p : List Int → Bool} {xs : List (List Int)} {j : Nat} {us : List Value} {Z B : List D} (h : DlInv p xs j us) (hj : ¬ j < xs.length) : (((dlRow p xs j us).take (keepTo p xs j).length ++ Z ++ B).take (keepTo p xs j).length) = (xs.filter fun u => !p u).map intsU := by
 have h2 := h.le
 have h3 : keepTo p xs j = xs.filter fun u => !p u := by rw [keepTo, List.take_of_length_le (by omega)]
 rw [take_cut (by rw [dl_len h]; have := h.len; omega), ← h3]
 unfold dlRow
 rw [List.append_assoc, List.take_append_of_le_length (by simp), List.take_of_length_le (by simp)]

theorem intsU_sol (l : List Int) : (intsU l).solid = true := solid_row (fun _ => rfl) l

theorem sp_DeleteFunc_ints (xs : List (List Int)) (f : FuncId) (caps : List D) (p : List Int → Bool) (hf : Enters Tryz.prog f) (hp : ∀ x ∈ xs, Sp Tryz.prog f (intsD x :: caps) (.any :: anys caps) (.bool (p x))) (hn : xs.length ≤ 1048576) : Sp Tryz.prog 299 [(.slice true 1 (xs.map intsU)), (.fn f caps)] [.any, .any] (.slice true 1 ((xs.filter (fun u => !p u)).map intsU)) := by
 refine Sp_intro (lend := false) Tryz.func299 rfl rfl rfl (fun h => nomatch h) (fun c hc hX => ?_)
 have hixb := ixF_bounds p xs
 refine T_seq (T_region hc (Ch.s (.c (.slice none 0 0)) pa (Ch.nil (T_seq (T_region hc (Ch.s (.row 1) pm (Ch.s (.d (.fn f caps)) pm ?_)))))))
 refine Ch.s (.d (.int .i64 (ixF p xs))) (.call 10000 307 _ _ _ en307 rfl (.inl rfl) (.cons (.lend (.row rfl (frozs_to intsU_fz _))) (.cons (.d _) .nil)) rfl rfl (sp_IndexFunc_ints xs f caps p hf hp a39) (.skip _ _ (.skip _ _ .nil)) rfl) (Ch.s (.d (.int .i64 (ixF p xs))) pa (Ch.nil (T_seq (T_seq (T_region hc (Ch.s (.d (.int .i64 (ixF p xs))) pm (Ch.s (.d (.bool (decide ((ixF p xs) = (-1))))) (iX rfl rfl rfl) ?_)))))))
 refine Ch.nil ?_
 refine T_condD (p := ((ixF p xs) = (-1))) rfl (fun h1 => ?_) (fun h1 => ?_)
 ·
  refine T_seq (T_region hc (Ch.s (.row 1) pm (Ch.s (.row 1) pa (Ch.nil (T_ret ?_)))))
  exact endR [(.row 1)] [] [1] (.cons (.tmp 4 rfl) .nil) (.cons (.any _) (.cons (.any _) .nil)) (Exp.of (congrArg (D.slice true 1) a103) (.row rfl)) rfl rfl
 ·
  refine T_skip (T_seq (T_seq (T_region hc (Ch.s (.d (.int .i64 (ixF p xs))) pm (Ch.s (.d (.int .i64 ((ixF p xs) + 1))) (iX rfl rfl intV_addA) (Ch.s (.d (.int .i64 ((ixF p xs) + 1))) pa (Ch.nil ?_)))))))
  refine T_block ?_
  refine T_take 1 (ixF p xs).toNat 7900000 7900001 rfl (get_map intsU (dl_start (u := default) h1).2.2.2) rfl rfl (fun u0 => ?_)
  refine T_loop (ι := Nat × List Value) (fun q => { n := 42, sl := [(0, (.row 1)), (1, (.d (.fn f caps))), (5, (.d (.int .i64 ((keepTo p xs q.1).length : Int)))), (6, (.d (.int .i64 (q.1 : Int))))], hp := [(1, (some (.row 1 (dlRow p xs q.1 q.2))))], pin := [1] }) (fun q => DlInv p xs q.1 q.2) (fun q => xs.length - q.1) ⟨((ixF p xs).toNat + 1, [u0]), ((dl_start h1).2.1), (Wk.of rfl rfl (ai rfl (ai rfl (ai (vI a17) (ai (vI a114) trivial)))) (ai (oR a60) trivial))⟩ (fun q hp0 => ?_)
  have hq1 := dl_len hp0; have hq2 := hp0.len; have hq3 := hp0.le; have hq4 := hp0.pos
  refine T_seq (T_seq (T_region hc (Ch.s (.d (.int .i64 (q.1 : Int))) pm (Ch.s (.row 1) pm (Ch.s (.d (.int .i64 ((dlRow p xs q.1 q.2).length : Int))) (.pure (.len _ _ 55 rfl Tryz.underlying49 (.row rfl) rfl)) (Ch.s (.d (.bool (decide ((q.1 : Int) < ((dlRow p xs q.1 q.2).length : Int))))) (iX rfl rfl rfl) (Ch.nil ?_)))))))
  refine T_condD (p := ((q.1 : Int) < ((dlRow p xs q.1 q.2).length : Int))) rfl (fun h2 => ?_) (fun h2 => ?_)
  ·
   refine T_skip (T_seq (T_block (T_seq ?_)))
   refine T_take 1 q.1 7000002 7000003 rfl (dl_at hp0 (by omega)) rfl rfl (fun u1 => ?_)
   refine T_region hc (Ch.s (.row 1) pm (Ch.s (.d (.int .i64 (q.1 : Int))) pm (Ch.s (.el 1 1 q.1 0) (.pure (.idxRow _ _ _ 55 (q.1) rfl Tryz.underlying49 sz55 rfl rfl rfl rfl a86)) (Ch.s (.row 7000002) (.pure (.loadHole (n := 7000002) (m := 7000003) (u := u1) _ _ rfl ag55 rfl rfl (get_set a86) rfl rfl)) (Ch.s (.row 7000002) pa (Ch.nil (T_seq ?_)))))))
   refine T_region hc (Ch.s (.d (.fn f caps)) pm (Ch.s (.row 7000002) pm ?_))
   refine Ch.step (v := (.d (.bool (p (xs.getD q.1 default))))) rfl (.call 28000 f _ #[.tmp 27] _ hf rfl (.inr ⟨caps, rfl, rfl⟩) (.cons (.lend (.row rfl (frozs_map (fun _ => rfl) _))) (exps_ds caps)) rfl (sol rfl (anys_one (anys_sol caps))) (hp _ (getD_mem (by omega))) (.skip _ _ (back_anys caps)) rfl) rfl rfl ?_
   refine Ch.s (.d (.bool (!(p (xs.getD q.1 default))))) (.pure (.not _ _ rfl rfl)) (Ch.nil ?_)
   refine T_condN (b := (p (xs.getD q.1 default))) rfl (fun h3 => ?_) (fun h3 => ?_)
   ·
    refine T_seq (T_region hc (Ch.s (.row 1) pm (Ch.s (.d (.int .i64 ((keepTo p xs q.1).length : Int))) pm (Ch.s (.row 7000002) pm (Ch.s (.el 1 1 ((keepTo p xs q.1).length) 0) (.pure (.idxRow _ _ _ 55 ((keepTo p xs q.1).length) rfl Tryz.underlying49 sz55 rfl rfl rfl rfl a86)) (Ch.s .junk (.storeElK (y' := (.slice true 1 ((xs.getD q.1 default).map (fun n : Int => D.int .i64 n)))) _ _ _ rfl rfl rfl (.row rfl) rfl rfl rfl sz55 rfl (dl_hole hp0 (by omega)) rfl rfl) (Ch.nil ?_)))))))
    refine T_region hc (Ch.s (.d (.int .i64 ((keepTo p xs q.1).length : Int))) pm (Ch.s (.d (.int .i64 (((keepTo p xs q.1).length : Int) + 1))) (iX rfl rfl intV_addA) (Ch.s (.d (.int .i64 (((keepTo p xs q.1).length : Int) + 1))) pa (Ch.nil (T_region hc (Ch.s (.d (.int .i64 (q.1 : Int))) pm (Ch.s (.d (.int .i64 ((q.1 : Int) + 1))) (iX rfl rfl intV_addA) ?_)))))))
    refine Ch.s (.d (.int .i64 ((q.1 : Int) + 1))) pa (Ch.nil ?_)
    exact nx (q.1 + 1, q.2.tail ++ [u1]) a27 (Wk.of rfl rfl (ai rfl (ai rfl (ai (vI a17) (ai (vI a114) trivial)))) (ai (oR a60) trivial))
   ·
    refine T_skip (T_region hc (Ch.s (.d (.int .i64 (q.1 : Int))) pm (Ch.s (.d (.int .i64 ((q.1 : Int) + 1))) (iX rfl rfl intV_addA) (Ch.s (.d (.int .i64 ((q.1 : Int) + 1))) pa (Ch.nil ?_)))))
    exact nx (q.1 + 1, q.2 ++ [u1]) a27 (Wk.of rfl rfl (ai rfl (ai rfl (ai (vI a17) (ai (vI a114) trivial)))) (ai (oR a60) trivial))
  ·
   refine T_exit (T_seq (T_region hc (Ch.s (.row 1) pm (Ch.s (.d (.int .i64 ((keepTo p xs q.1).length : Int))) pm (Ch.s (.sub 1 1 ((keepTo p xs q.1).length) ((dlRow p xs q.1 q.2).length)) (.pure (.subRow _ _ _ _ 55 ((keepTo p xs q.1).length) ((dlRow p xs q.1 q.2).length) rfl Tryz.underlying49 sz55 rfl rfl (bndS rfl rfl) (bndN rfl) a43 a43)) (Ch.s .junk (.clearK _ _ 55 rfl sty49 rfl rfl a43 (dl_clear hp0 (by omega)) (zeroD_mk (zd := (.slice true 1 [])) zr55 a121 rfl)) (Ch.nil ?_)))))))
   refine T_seq (T_region hc (Ch.s (.row 1) pm (Ch.s (.d (.int .i64 ((keepTo p xs q.1).length : Int))) pm (Ch.s (.row 41000) (.cut 41000 _ _ _ 55 ((keepTo p xs q.1).length) rfl Tryz.underlying49 sz55 rfl rfl (bndS rfl rfl) a43 rfl) (Ch.s (.row 41000) pa (Ch.nil (T_ret ?_)))))))
   exact endR [(.row 41000)] [] [41000] (.cons (.tmp 4 rfl) .nil) (.cons (.any _) (.cons (.any _) .nil)) (Exp.of (congrArg (D.slice true 1) a103) (.row rfl)) rfl rfl

def prIn (P : Nat → Nat → Bool) (i m : Nat) : List (List Int) := selTo m (fun k => decide (i < k) && P i k) fun k => [(i : Int), (k : Int)]

def prTo (P : Nat → Nat → Bool) (n k : Nat) : List (List Int) := (List.range k).flatMap fun i => prIn P i n

def prM (P : Nat → Nat → Bool) (n k m : Nat) : List (List Int) := prTo P n k ++ prIn P k m

theorem prIn_none (P : Nat → Nat → Bool) (i : Nat) {m : Nat} (h : m ≤ i + 1) : prIn P i m = [] := by
 unfold prIn selTo
 rw [List.map_eq_nil_iff, List.filter_eq_nil_iff]
 intro k hk
 have := List.mem_range.1 hk
 rw [decide_eq_false (by omega)]
 simp

theorem prM_start (P : Nat → Nat → Bool) (n k : Nat) : prTo P n k = prM P n k (k + 1) := by rw [prM, prIn_none P k (Nat.le_refl _), List.append_nil]

theorem prIn_all {P : Nat → Nat → Bool} {i n m : Nat} (h : n ≤ m) (h2 : m = n ∨ m ≤ i + 1) : prIn P i m = prIn P i n := by
  rcases h2 with rfl | h2
  · rfl
  · rw [prIn_none P i h2, prIn_none P i (by omega)]

theorem prM_end {P : Nat → Nat → Bool} {n k m : Nat} (h : n ≤ m) (h2 : m = n ∨ m ≤ k + 1) : prM P n k m = prTo P n (k + 1) := by
 rw [prM, prIn_all h h2]
 unfold prTo
 rw [List.range_succ, List.flatMap_append]
 simp

theorem prM_yes {P : Nat → Nat → Bool} {n k m : Nat} (hk : k < m) (h : P k m = true) : prM P n k m ++ [[(k : Int), (m : Int)]] = prM P n k (m + 1) := by
 have : prIn P k m ++ [[(k : Int), (m : Int)]] = prIn P k (m + 1) := selTo_yes (by rw [h, decide_eq_true hk]; rfl)
 rw [prM, List.append_assoc, this]; rfl

theorem prM_no {P : Nat → Nat → Bool} {n k m : Nat} (h : P k m = false) : prM P n k m = prM P n k (m + 1) := by
 have : prIn P k m = prIn P k (m + 1) := selTo_no (by rw [h, Bool.and_false])
 rw [prM, this]; rfl

theorem prIn_le (P : Nat → Nat → Bool) (i m : Nat) : (prIn P i m).length ≤ m := selTo_le _ _ _

theorem prTo_le (P : Nat → Nat → Bool) {n : Nat} (hn : n ≤ 300) : ∀ k, (prTo P n k).length ≤ k * 300
 | 0 => Nat.le_refl 0
 | k + 1 => by
  have h1 := prTo_le P hn k
  have h2 := prIn_le P k n
  have e : (prTo P n (k + 1)).length = (prTo P n k).length + (prIn P k n).length := by
   unfold prTo
   rw [List.range_succ, List.flatMap_append, List.length_append]; simp
  omega

theorem prM_le (P : Nat → Nat → Bool) {n k m : Nat} (hn : n ≤ 300) (hk : k ≤ 300) (hm : m ≤ 301) : (prM P n k m).length ≤ 100000 := by
 have h1 := prTo_le P hn k
 have h2 := prIn_le P k m
 rw [prM, List.length_append]
 omega

theorem prTo_in {P : Nat → Nat → Bool} {n k : Nat} (hk : k ≤ n) : ∀ pr ∈ prTo P n k, pr.length = 2 ∧ (0 ≤ pr.getD 0 default ∧ (pr.getD 0 default).toNat < n) ∧ (0 ≤ pr.getD 1 default ∧ (pr.getD 1 default).toNat < n) := by
  intro pr hpr
  obtain ⟨i, hi, hp⟩ := List.mem_flatMap.1 hpr
  obtain ⟨j, hj, rfl⟩ := List.mem_map.1 hp
  have h1 := List.mem_range.1 hi
  have h2 := List.mem_range.1 (List.mem_filter.1 hj).1
  refine ⟨rfl, ?_, ?_⟩
  · show (0 : Int) ≤ (i : Int) ∧ ((i : Int)).toNat < n
    omega
  · show (0 : Int) ≤ (j : Int) ∧ ((j : Int)).toNat < n
    omega

theorem selTo_filter {τ : Type} (n : Nat) (p : Nat → Bool) (f : Nat → τ) (q : τ → Bool) : (selTo n p f).filter q = selTo n (fun j => p j && q (f j)) f := by
 unfold selTo
 rw [List.filter_map, List.filter_filter]
 congr 1
 apply List.filter_congr
 intro j _
 simp [Bool.and_comm]

theorem prTo_filter (P : Nat → Nat → Bool) (Q : List Int → Bool) (n k : Nat) : (prTo P n k).filter Q = prTo (fun i j => P i j && Q [(i : Int), (j : Int)]) n k := by
 unfold prTo
 rw [List.filter_flatMap]
 congr 1
 funext i
 unfold prIn
 rw [selTo_filter]
 congr 1
 funext j
 rw [Bool.and_assoc]

theorem flatMap_cong {σ τ : Type} {f g : σ → List τ} : ∀ {l : List σ}, (∀ a ∈ l, f a = g a) → l.flatMap f = l.flatMap g
 | [], _ => rfl
 | a :: l, h => by rw [List.flatMap_cons, List.flatMap_cons, h a List.mem_cons_self, flatMap_cong fun b hb => h b (List.mem_cons_of_mem _ hb)]

theorem prTo_congr {P Q : Nat → Nat → Bool} {n k : Nat} (hk : k ≤ n) (h : ∀ i j, i < n → j < n → P i j = Q i j) : prTo P n k = prTo Q n k := by
 unfold prTo
 apply flatMap_cong
 intro i hi
 have h1 := List.mem_range.1 hi
 unfold prIn selTo
 congr 1
 apply List.filter_congr
 intro j hj
 have h2 := List.mem_range.1 hj
 rw [h i j (by omega) h2]

def eqP (x : Sgr) (i k : Nat) : Bool := decide (x.codes.getD i default = x.codes.getD k default)

def cfS (x : Sgr) (pr : List Int) (s : Int) : Bool := !decide ((!excB x (pr.getD 0 default) s) = (!excB x (pr.getD 1 default) s))

def cfD (x : Sgr) (i k : Nat) : Bool := (outsL x.sigs).any fun s => excB x (i : Int) s != excB x (k : Int) s

def cfP (x : Sgr) (i k : Nat) : Bool := eqP x i k && cfD x i k

def cfL (x : Sgr) : List (List Int) := prTo (cfP x) x.codes.length x.codes.length

theorem cf_filter (x : Sgr) : (prTo (eqP x) x.codes.length x.codes.length).filter (fun u => !(fun pr => !(outsL x.sigs).any (cfS x pr)) u) = cfL x := by
  rw [prTo_filter]
  unfold cfL
  apply prTo_congr (Nat.le_refl _)
  intro i j _ _
  unfold cfP cfD
  rw [Bool.not_not]
  congr 1
  congr 1
  funext s
  unfold cfS
  show (!decide ((!excB x (i : Int) s) = (!excB x (j : Int) s))) = _
  cases excB x (i : Int) s <;> cases excB x (j : Int) s <;> rfl

theorem cfS_eq {x : Sgr} {pr : List Int} {s : Int} (hx : SgOk x) (h0 : 0 ≤ pr.getD 0 default ∧ (pr.getD 0 default).toNat < x.codes.length) (h1 : 0 ≤ pr.getD 1 default ∧ (pr.getD 1 default).toNat < x.codes.length) (hs : 0 ≤ s) :
  (!decide (decide (((two ((masksL x).getD (pr.getD 0 default).toNat default) (2 * s).toNat : Nat) : Int) = 0) = decide (((two ((masksL x).getD (pr.getD 1 default).toNat default) (2 * s).toNat : Nat) : Int) = 0))) = cfS x pr s := by
 rw [two_exc hx hs h0, two_exc hx hs h1]; rfl

set_option maxHeartbeats 1000000 in
theorem sp_impl_equalCodes (x : Sgr) (hb : x.bulk ≤ 1048576) (hx : SgOk x) : Sp Tryz.prog 300 [(.agg [(.slice false 2 (x.sigs.map Sgn.d)), (.slice false 1 (x.codes.map D.str)), (.slice false 4 (x.arcs.map Arc.d))])] [.any] (.slice true 1 ((prTo (eqP x) x.codes.length x.codes.length).map intsU)) := by
 refine Sp_intro (lend := true) Tryz.func300 rfl rfl rfl (fun _ => rfl) (fun c hc hX => ?_)
 obtain ⟨hp0, hp1, hp2⟩ := Sgr.parts hb
 have hn0 := bulkF_len hp0
 have hn1 := bulk_len hp1
 have hx1 := bulk_mem hp1
 have hn2 := bulkF_len hp2; have hx8 := hx.eight; have hxl := hx.len; have hxf := hx.few
 refine T_seq (T_region hc (Ch.s (.ptr 1000 0) (.box 1000 _ _ rfl (.aggD _)) (Ch.s (.c (.slice none 0 0)) pa (Ch.nil (T_seq (T_region hc (Ch.s (.row 7000) (.slice 7000 _ 55 _ rfl sty49 (xs := []) rfl rfl .nil rfl rfl (by decide)) ?_)))))))
 refine Ch.s (.row 7000) pa (Ch.nil (T_seq (T_seq (T_region hc (Ch.s (.ptr 1000 1) (.pure (.fldPtr _ _ _ rfl fld35_1 rfl)) (Ch.s (.d (.slice false 1 (x.codes.map D.str))) (.pure (.loadPtr1 _ _ rfl ag23 rfl rfl rfl)) (Ch.s (.d (.int .i64 (x.codes.length : Int))) (.pure (.len _ _ 9 rfl Tryz.underlying23 (.sh _ _) (by simp))) ?_)))))))
 refine Ch.s (.d (.int .i64 0)) pm (Ch.nil (T_block ?_))
 refine T_loop (ι := Nat) (fun k => { n := 40, sl := [(1, (.ptr 1000 0)), (3, (.row 3)), (9, (.d (.slice false 1 (x.codes.map D.str)))), (10, (.d (.int .i64 (x.codes.length : Int)))), (11, (.d (.int .i64 (k : Int))))], hp := [(3, (some (.row 1 ((prTo (eqP x) x.codes.length k).map intsU)))), (1000, (some (.box (vX x))))], pin := [] }) (fun k => k ≤ x.codes.length) (fun k => x.codes.length - k) ⟨0, (by omega), (Wk.ren [(3, 7000)] rfl rfl rfl rfl (ai rfl (ai rfl (ai rfl (ai rfl (ai (vI a114) trivial))))) (ai (oR a109) (ai rfl trivial)))⟩ (fun k hp0 => ?_)
 refine T_seq (T_region hc (Ch.s (.d (.bool (decide ((k : Int) < (x.codes.length : Int))))) (iX rfl rfl rfl) (Ch.nil (T_seq ?_))))
 refine T_condD (p := ((k : Int) < (x.codes.length : Int))) rfl (fun h1 => ?_) (fun h1 => ?_)
 ·
  refine T_skip (T_seq (T_block (T_seq (T_region hc (Ch.s (.d (.int .i64 (k : Int))) pm (Ch.s (.d (.ref (.str (x.codes.getD k default)))) (.pure (.idx _ _ _ 9 (k) rfl Tryz.underlying23 sz9 rfl rfl rfl get_mapA)) (Ch.s (.d (.str (x.codes.getD k default))) (.pure (.loadRef1 _ _ rfl ag9 rfl rfl)) ?_)))))))
  refine Ch.s (.d (.int .i64 (k : Int))) pa (Ch.s (.d (.str (x.codes.getD k default))) pa (Ch.nil (T_seq (T_region hc (Ch.s (.d (.int .i64 (k : Int))) pm (Ch.s (.d (.int .i64 ((k : Int) + 1))) (iX rfl rfl intV_addA) (Ch.s (.d (.int .i64 ((k : Int) + 1))) pa ?_)))))))
  refine Ch.nil (T_block ?_)
  refine T_loop (ι := Nat) (fun m => { n := 40, sl := [(1, (.ptr 1000 0)), (3, (.row 3)), (4, (.d (.int .i64 (k : Int)))), (5, (.d (.str (x.codes.getD k default)))), (6, (.d (.int .i64 (m : Int)))), (9, (.d (.slice false 1 (x.codes.map D.str)))), (10, (.d (.int .i64 (x.codes.length : Int)))), (11, (.d (.int .i64 (k : Int))))], hp := [(3, (some (.row 1 ((prM (eqP x) x.codes.length k m).map intsU)))), (1000, (some (.box (vX x))))], pin := [] }) (fun m => k < m ∧ m ≤ x.codes.length) (fun m => x.codes.length - m) ⟨k + 1, ⟨by omega, by omega⟩, (Wk.of rfl rfl (ai rfl (ai rfl (ai rfl (ai rfl (ai (vI a114) (ai rfl (ai rfl (ai rfl trivial)))))))) (ai (oR a14) (ai rfl trivial)))⟩ (fun m hp1 => ?_)
  have hq := prM_le (eqP x) (n := x.codes.length) (k := k) (m := m) (by omega) (by omega) (by omega)
  refine T_seq (T_seq (T_region hc (Ch.s (.d (.int .i64 (m : Int))) pm (Ch.s (.ptr 1000 1) (.pure (.fldPtr _ _ _ rfl fld35_1 rfl)) (Ch.s (.d (.slice false 1 (x.codes.map D.str))) (.pure (.loadPtr1 _ _ rfl ag23 rfl rfl rfl)) (Ch.s (.d (.int .i64 (x.codes.length : Int))) (.pure (.len _ _ 9 rfl Tryz.underlying23 (.sh _ _) (by simp))) (Ch.s (.d (.bool (decide ((m : Int) < (x.codes.length : Int))))) (iX rfl rfl rfl) ?_)))))))
  refine Ch.nil ?_
  refine T_condD (p := ((m : Int) < (x.codes.length : Int))) rfl (fun h2 => ?_) (fun h2 => ?_)
  ·
   refine T_skip (T_seq (T_block (T_seq (T_region hc (Ch.s (.ptr 1000 1) (.pure (.fldPtr _ _ _ rfl fld35_1 rfl)) (Ch.s (.d (.slice false 1 (x.codes.map D.str))) (.pure (.loadPtr1 _ _ rfl ag23 rfl rfl rfl)) (Ch.s (.d (.int .i64 (m : Int))) pm ?_)))))))
   refine Ch.s (.d (.ref (.str (x.codes.getD m default)))) (.pure (.idx _ _ _ 9 (m) rfl Tryz.underlying23 sz9 rfl rfl rfl get_mapA)) (Ch.s (.d (.str (x.codes.getD m default))) (.pure (.loadRef1 _ _ rfl ag9 rfl rfl)) (Ch.s (.d (.str (x.codes.getD k default))) pm (Ch.s (.d (.bool (decide ((x.codes.getD m default) = (x.codes.getD k default))))) (.pure (.str _ _ _ _ _ rfl rfl rfl rfl)) (Ch.nil ?_))))
   refine T_condD (p := ((x.codes.getD m default) = (x.codes.getD k default))) rfl (fun h3 => ?_) (fun h3 => ?_)
   ·
    refine T_region hc (Ch.s (.row 3) pm (Ch.s (.d (.int .i64 (k : Int))) pm (Ch.s (.d (.int .i64 (m : Int))) pm (Ch.s (.row 35000) (.slice 35000 _ 3 _ rfl sty55 (xs := [.tmp 33, .tmp 34]) rfl rfl (.cons (.d _) (.cons (.d _) .nil)) rfl rfl (by decide)) (Ch.s (.row 36000) (.slice 36000 _ 55 _ rfl sty49 (xs := [.tmp 35]) rfl rfl (.cons (.row rfl) .nil) rfl rfl (by decide)) ?_)))))
    refine Ch.step (v := (.row 37000)) rfl (.append 37000 _ _ _ 55 rfl sty49 (by decide) (.rowK rfl) (.inr ⟨_, rfl, rfl⟩) (.rowK rfl) rfl a56) rfl rfl ?_
    refine Ch.s (.row 37000) pa (Ch.nil (T_region hc (Ch.s (.d (.int .i64 (m : Int))) pm (Ch.s (.d (.int .i64 ((m : Int) + 1))) (iX rfl rfl intV_addA) (Ch.s (.d (.int .i64 ((m : Int) + 1))) pa (Ch.nil ?_))))))
    exact nx (m + 1) ⟨by omega, by omega⟩ (Wk.ren [(3, 37000)] rfl rfl rfl rfl (ai rfl (ai rfl (ai rfl (ai rfl (ai (vI a114) (ai rfl (ai rfl (ai rfl trivial)))))))) (ai (oR a14) (ai rfl trivial)))
   ·
    refine T_skip (T_region hc (Ch.s (.d (.int .i64 (m : Int))) pm (Ch.s (.d (.int .i64 ((m : Int) + 1))) (iX rfl rfl intV_addA) (Ch.s (.d (.int .i64 ((m : Int) + 1))) pa (Ch.nil ?_)))))
    exact nx (m + 1) ⟨by omega, by omega⟩ (Wk.of rfl rfl (ai rfl (ai rfl (ai rfl (ai rfl (ai (vI a114) (ai rfl (ai rfl (ai rfl trivial)))))))) (ai (oR a14) (ai rfl trivial)))
  ·
   refine T_exit (T_region hc (Ch.s (.d (.int .i64 ((k : Int) + 1))) (iX rfl rfl intV_addA) (Ch.s (.d (.int .i64 ((k : Int) + 1))) pm (Ch.nil ?_))))
   exact nx (k + 1) (by omega) (Wk.of rfl rfl (ai rfl (ai rfl (ai rfl (ai rfl (ai (vI a114) trivial))))) (ai (oR a109) (ai rfl trivial)))
 ·
  refine T_exit (T_seq (T_region hc (Ch.s (.row 3) pm (Ch.s (.row 3) pa (Ch.nil (T_ret ?_))))))
  exact endR [(.row 3)] [] [3] (.cons (.tmp 2 rfl) .nil) (.cons (.any _) .nil) (Exp.of (congrArg (D.slice true 1) (by rw [show x.codes.length = k by omega])) (.row rfl)) rfl rfl

set_option maxHeartbeats 1000000 in
theorem sp_spec_l6Pairs (x : Sgr) (hb : x.bulk ≤ 1048576) (hx : SgOk x) : Sp Tryz.prog 221 [(.agg [(.slice false 2 (x.sigs.map Sgn.d)), (.slice false 1 (x.codes.map D.str)), (.slice false 4 (x.arcs.map Arc.d))])] [.any] (.slice true 1 ((prTo (eqP x) x.codes.length x.codes.length).map intsU)) := by
 refine Sp_intro (lend := true) Tryz.func221 rfl rfl rfl (fun _ => rfl) (fun c hc hX => ?_)
 obtain ⟨hp0, hp1, hp2⟩ := Sgr.parts hb
 have hn0 := bulkF_len hp0
 have hn1 := bulk_len hp1
 have hx1 := bulk_mem hp1
 have hn2 := bulkF_len hp2; have hx8 := hx.eight; have hxl := hx.len; have hxf := hx.few
 refine T_seq (T_region hc (Ch.s (.ptr 1000 0) (.box 1000 _ _ rfl (.aggD _)) (Ch.s (.c (.slice none 0 0)) pa (Ch.nil (T_seq (T_region hc (Ch.s (.c (.slice none 0 0)) pa ?_)))))))
 refine Ch.nil (T_seq (T_seq (T_region hc (Ch.s (.ptr 1000 1) (.pure (.fldPtr _ _ _ rfl fld35_1 rfl)) (Ch.s (.d (.slice false 1 (x.codes.map D.str))) (.pure (.loadPtr1 _ _ rfl ag23 rfl rfl rfl)) (Ch.s (.d (.int .i64 (x.codes.length : Int))) (.pure (.len _ _ 9 rfl Tryz.underlying23 (.sh _ _) (by simp))) (Ch.s (.d (.int .i64 0)) pm ?_)))))))
 refine Ch.nil (T_block ?_)
 refine T_loop (ι := Nat) (fun k => { n := 40, sl := [(1, (.ptr 1000 0)), (3, (.row 3)), (8, (.d (.int .i64 (x.codes.length : Int)))), (9, (.d (.int .i64 (k : Int))))], hp := [(3, (some (.row 1 ((prTo (eqP x) x.codes.length k).map intsU)))), (1000, (some (.box (vX x))))], pin := [] }) (fun k => k ≤ x.codes.length) (fun k => x.codes.length - k) ⟨0, (by omega), (Wk.trans (Wk.nilrow 3 900003 1 rfl rfl rfl) (Wk.ren [(3, 900003)] rfl rfl rfl rfl (ai rfl (ai rfl (ai rfl (ai (vI a114) trivial)))) (ai (oR a109) (ai rfl trivial))))⟩ (fun k hp0 => ?_)
 refine T_seq (T_region hc (Ch.s (.d (.bool (decide ((k : Int) < (x.codes.length : Int))))) (iX rfl rfl rfl) (Ch.nil (T_seq ?_))))
 refine T_condD (p := ((k : Int) < (x.codes.length : Int))) rfl (fun h1 => ?_) (fun h1 => ?_)
 ·
  refine T_skip (T_seq (T_block (T_seq (T_region hc (Ch.s (.d (.int .i64 (k : Int))) pm (Ch.s (.d (.int .i64 (k : Int))) pa (Ch.nil ?_)))))))
  refine T_seq (T_region hc (Ch.s (.d (.int .i64 (k : Int))) pm (Ch.s (.d (.int .i64 ((k : Int) + 1))) (iX rfl rfl intV_addA) (Ch.s (.d (.int .i64 ((k : Int) + 1))) pa (Ch.nil (T_block ?_))))))
  refine T_loop (ι := Nat) (fun m => { n := 40, sl := [(1, (.ptr 1000 0)), (3, (.row 3)), (4, (.d (.int .i64 (k : Int)))), (5, (.d (.int .i64 (m : Int)))), (8, (.d (.int .i64 (x.codes.length : Int)))), (9, (.d (.int .i64 (k : Int))))], hp := [(3, (some (.row 1 ((prM (eqP x) x.codes.length k m).map intsU)))), (1000, (some (.box (vX x))))], pin := [] }) (fun m => k < m ∧ m ≤ x.codes.length) (fun m => x.codes.length - m) ⟨k + 1, ⟨by omega, by omega⟩, (Wk.of rfl rfl (ai rfl (ai rfl (ai rfl (ai (vI a114) (ai rfl (ai rfl trivial)))))) (ai (oR a14) (ai rfl trivial)))⟩ (fun m hp1 => ?_)
  have hq := prM_le (eqP x) (n := x.codes.length) (k := k) (m := m) (by omega) (by omega) (by omega)
  refine T_seq (T_seq (T_region hc (Ch.s (.d (.int .i64 (m : Int))) pm (Ch.s (.ptr 1000 1) (.pure (.fldPtr _ _ _ rfl fld35_1 rfl)) (Ch.s (.d (.slice false 1 (x.codes.map D.str))) (.pure (.loadPtr1 _ _ rfl ag23 rfl rfl rfl)) (Ch.s (.d (.int .i64 (x.codes.length : Int))) (.pure (.len _ _ 9 rfl Tryz.underlying23 (.sh _ _) (by simp))) (Ch.s (.d (.bool (decide ((m : Int) < (x.codes.length : Int))))) (iX rfl rfl rfl) ?_)))))))
  refine Ch.nil ?_
  refine T_condD (p := ((m : Int) < (x.codes.length : Int))) rfl (fun h2 => ?_) (fun h2 => ?_)
  ·
   refine T_skip (T_seq (T_block (T_seq ?_)))
   refine T_regionD hc (by kernel_rfl) ?_
   refine ChD.s (.ptr 1000 1) [] (.pure (.fldPtr _ _ _ rfl fld35_1 rfl)) (ChD.s (.d (.slice false 1 (x.codes.map D.str))) [1000] (.pure (.loadPtr1 _ _ rfl ag23 rfl rfl rfl)) (ChD.s (.d (.int .i64 (k : Int))) [] pm (ChD.s (.d (.ref (.str (x.codes.getD k default)))) [] (.pure (.idx _ _ _ 9 (k) rfl Tryz.underlying23 sz9 rfl rfl rfl get_mapA)) (ChD.s (.d (.str (x.codes.getD k default))) [] (.pure (.loadRef1 _ _ rfl ag9 rfl rfl)) (ChD.s (.ptr 1000 1) [] (.pure (.fldPtr _ _ _ rfl fld35_1 rfl)) (ChD.s (.d (.slice false 1 (x.codes.map D.str))) [1000] (.pure (.loadPtr1 _ _ rfl ag23 rfl rfl rfl)) (ChD.s (.d (.int .i64 (m : Int))) [] pm ?_)))))))
   refine ChD.s (.d (.ref (.str (x.codes.getD m default)))) [] (.pure (.idx _ _ _ 9 (m) rfl Tryz.underlying23 sz9 rfl rfl rfl get_mapA)) (ChD.s (.d (.str (x.codes.getD m default))) [] (.pure (.loadRef1 _ _ rfl ag9 rfl rfl)) (ChD.s (.d (.bool (decide ((x.codes.getD k default) = (x.codes.getD m default))))) [] (.pure (.str _ _ _ _ _ rfl rfl rfl rfl)) ?_))
   refine ChD.nil (And.intro ?_ (by kernel_rfl))
   refine T_condD (p := ((x.codes.getD k default) = (x.codes.getD m default))) rfl (fun h3 => ?_) (fun h3 => ?_)
   ·
    refine T_region hc (Ch.s (.row 3) pm (Ch.s (.d (.int .i64 (k : Int))) pm (Ch.s (.d (.int .i64 (m : Int))) pm (Ch.s (.row 35000) (.slice 35000 _ 3 _ rfl sty55 (xs := [.tmp 33, .tmp 34]) rfl rfl (.cons (.d _) (.cons (.d _) .nil)) rfl rfl (by decide)) (Ch.s (.row 36000) (.slice 36000 _ 55 _ rfl sty49 (xs := [.tmp 35]) rfl rfl (.cons (.row rfl) .nil) rfl rfl (by decide)) ?_)))))
    refine Ch.step (v := (.row 37000)) rfl (.append 37000 _ _ _ 55 rfl sty49 (by decide) (.rowK rfl) (.inr ⟨_, rfl, rfl⟩) (.rowK rfl) rfl a56) rfl rfl ?_
    refine Ch.s (.row 37000) pa (Ch.nil (T_region hc (Ch.s (.d (.int .i64 (m : Int))) pm (Ch.s (.d (.int .i64 ((m : Int) + 1))) (iX rfl rfl intV_addA) (Ch.s (.d (.int .i64 ((m : Int) + 1))) pa (Ch.nil ?_))))))
    exact nx (m + 1) ⟨by omega, by omega⟩ (Wk.ren [(3, 37000)] rfl rfl rfl rfl (ai rfl (ai rfl (ai rfl (ai (vI a114) (ai rfl (ai rfl trivial)))))) (ai (oR a14) (ai rfl trivial)))
   ·
    refine T_skip (T_region hc (Ch.s (.d (.int .i64 (m : Int))) pm (Ch.s (.d (.int .i64 ((m : Int) + 1))) (iX rfl rfl intV_addA) (Ch.s (.d (.int .i64 ((m : Int) + 1))) pa (Ch.nil ?_)))))
    exact nx (m + 1) ⟨by omega, by omega⟩ (Wk.of rfl rfl (ai rfl (ai rfl (ai rfl (ai (vI a114) (ai rfl (ai rfl trivial)))))) (ai (oR a14) (ai rfl trivial)))
  ·
   refine T_exit (T_region hc (Ch.s (.d (.int .i64 ((k : Int) + 1))) (iX rfl rfl intV_addA) (Ch.s (.d (.int .i64 ((k : Int) + 1))) pm (Ch.nil ?_))))
   exact nx (k + 1) (by omega) (Wk.of rfl rfl (ai rfl (ai rfl (ai rfl (ai (vI a114) trivial)))) (ai (oR a109) (ai rfl trivial)))
 ·
  refine T_exit (T_seq (T_region hc (Ch.s (.row 3) pm (Ch.s (.row 3) pa (Ch.nil (T_ret ?_))))))
  exact endR [(.row 3)] [] [3] (.cons (.tmp 2 rfl) .nil) (.cons (.any _) .nil) (Exp.of (congrArg (D.slice true 1) (by rw [show x.codes.length = k by omega])) (.row rfl)) rfl rfl

theorem sp_conflicts_in (s : Int) (x : Sgr) (pr : List Int) (hs : 0 ≤ s ∧ s.toNat < x.sigs.length) (hx : SgOk x) (hpr : pr.length = 2 ∧ (0 ≤ pr.getD 0 default ∧ (pr.getD 0 default).toNat < x.codes.length) ∧ (0 ≤ pr.getD 1 default ∧ (pr.getD 1 default).toNat < x.codes.length)) : Sp Tryz.prog 303 [(.int .i64 s), (.ref (.slice false 1 ((masksL x).map (fun n : Nat => D.int .i64 (n : Int))))), (.ref (.slice false 1 (pr.map (fun n : Int => D.int .i64 n))))] [.any, .any, .any] (.bool (cfS x pr s)) := by
 refine Sp_intro (lend := true) Tryz.func303 rfl rfl rfl (fun _ => rfl) (fun c hc hX => ?_)
 have hx8 := hx.eight; have hml : (masksL x).length = x.codes.length := masksTo_len x _
 refine T_seq (T_region hc (Ch.s (.d (.bool false)) pa (Ch.nil (T_seq ?_))))
 refine T_regionD hc (by kernel_rfl) ?_
 refine ChD.s (.d (.slice false 1 ((masksL x).map (fun n : Nat => D.int .i64 (n : Int))))) [] (.pure (.loadRef1 _ _ rfl ag55 rfl rfl)) (ChD.s (.d (.slice false 1 (pr.map (fun n : Int => D.int .i64 n)))) [] (.pure (.loadRef1 _ _ rfl ag55 rfl rfl)) (ChD.s (.d (.ref (.int .i64 (pr.getD 0 default)))) [] (.pure (.idx _ _ _ 3 (0) rfl Tryz.underlying55 sz3 rfl rfl rfl get_mapA)) (ChD.s (.d (.int .i64 (pr.getD 0 default))) [] (.pure (.loadRef1 _ _ rfl ag3 rfl rfl)) (ChD.s (.d (.ref (.int .i64 (((masksL x).getD (((pr.getD 0 default)).toNat) default) : Int)))) [] (.pure (.idx _ _ _ 3 (((pr.getD 0 default)).toNat) rfl Tryz.underlying55 sz3 rfl rfl (by omega) get_mapA)) (ChD.s (.d (.int .i64 (((masksL x).getD (((pr.getD 0 default)).toNat) default) : Int))) [] (.pure (.loadRef1 _ _ rfl ag3 rfl rfl)) (ChD.s (.d (.int .i64 s)) [] pm (ChD.s (.d (.int .i64 (2 * s))) [] (iX rfl rfl (intV_mul a43 a43)) ?_)))))))
 refine ChD.s (.d (.int .i64 ((((masksL x).getD (((pr.getD 0 default)).toNat) default) >>> (((2 * s)).toNat) : Nat) : Int))) [] (.pure (.shift _ _ _ _ _ rfl rfl rfl (i64_shr (m := ((masksL x).getD (((pr.getD 0 default)).toNat) default)) (n := ((2 * s)).toNat) (by omega) a43))) (ChD.s (.d (.int .i64 ((two ((masksL x).getD (((pr.getD 0 default)).toNat) default) (((2 * s)).toNat) : Nat) : Int))) [] (iX rfl rfl (i64_and3 (((masksL x).getD (((pr.getD 0 default)).toNat) default) >>> (((2 * s)).toNat)))) (ChD.s (.d (.bool (decide (((two ((masksL x).getD (((pr.getD 0 default)).toNat) default) (((2 * s)).toNat) : Nat) : Int) = 0)))) [] (iX rfl rfl rfl) (ChD.s (.d (.slice false 1 ((masksL x).map (fun n : Nat => D.int .i64 (n : Int))))) [] (.pure (.loadRef1 _ _ rfl ag55 rfl rfl)) (ChD.s (.d (.slice false 1 (pr.map (fun n : Int => D.int .i64 n)))) [] (.pure (.loadRef1 _ _ rfl ag55 rfl rfl)) (ChD.s (.d (.ref (.int .i64 (pr.getD 1 default)))) [] (.pure (.idx _ _ _ 3 (1) rfl Tryz.underlying55 sz3 rfl rfl rfl get_mapA)) (ChD.s (.d (.int .i64 (pr.getD 1 default))) [] (.pure (.loadRef1 _ _ rfl ag3 rfl rfl)) (ChD.s (.d (.ref (.int .i64 (((masksL x).getD (((pr.getD 1 default)).toNat) default) : Int)))) [] (.pure (.idx _ _ _ 3 (((pr.getD 1 default)).toNat) rfl Tryz.underlying55 sz3 rfl rfl (by omega) get_mapA)) ?_)))))))
 refine ChD.s (.d (.int .i64 (((masksL x).getD (((pr.getD 1 default)).toNat) default) : Int))) [] (.pure (.loadRef1 _ _ rfl ag3 rfl rfl)) (ChD.s (.d (.int .i64 s)) [] pm (ChD.s (.d (.int .i64 (2 * s))) [] (iX rfl rfl (intV_mul a43 a43)) (ChD.s (.d (.int .i64 ((((masksL x).getD (((pr.getD 1 default)).toNat) default) >>> (((2 * s)).toNat) : Nat) : Int))) [] (.pure (.shift _ _ _ _ _ rfl rfl rfl (i64_shr (m := ((masksL x).getD (((pr.getD 1 default)).toNat) default)) (n := ((2 * s)).toNat) (by omega) a43))) (ChD.s (.d (.int .i64 ((two ((masksL x).getD (((pr.getD 1 default)).toNat) default) (((2 * s)).toNat) : Nat) : Int))) [] (iX rfl rfl (i64_and3 (((masksL x).getD (((pr.getD 1 default)).toNat) default) >>> (((2 * s)).toNat)))) (ChD.s (.d (.bool (decide (((two ((masksL x).getD (((pr.getD 1 default)).toNat) default) (((2 * s)).toNat) : Nat) : Int) = 0)))) [] (iX rfl rfl rfl) (ChD.s (.d (.bool (!(decide ((decide (((two ((masksL x).getD (((pr.getD 0 default)).toNat) default) (((2 * s)).toNat) : Nat) : Int) = 0)) = (decide (((two ((masksL x).getD (((pr.getD 1 default)).toNat) default) (((2 * s)).toNat) : Nat) : Int) = 0))))))) [] (.pure (.neB _ _ _ _ rfl Tryz.underlying4 rfl rfl)) (ChD.s (.d (.bool (!(decide ((decide (((two ((masksL x).getD (((pr.getD 0 default)).toNat) default) (((2 * s)).toNat) : Nat) : Int) = 0)) = (decide (((two ((masksL x).getD (((pr.getD 1 default)).toNat) default) (((2 * s)).toNat) : Nat) : Int) = 0))))))) [] pa ?_)))))))
 refine ChD.nil (And.intro ?_ (by kernel_rfl))
 refine T_ret ?_
 exact endR [(.d (.bool (!(decide ((decide (((two ((masksL x).getD (((pr.getD 0 default)).toNat) default) (((2 * s)).toNat) : Nat) : Int) = 0)) = (decide (((two ((masksL x).getD (((pr.getD 1 default)).toNat) default) (((2 * s)).toNat) : Nat) : Int) = 0)))))))] [] [] (.cons (.tmp 4 rfl) .nil) (.cons (.any _) (.cons (.any _) (.cons (.any _) .nil))) (Exp.of (congrArg D.bool (by exact cfS_eq hx hpr.2.1 hpr.2.2 hs.1)) (.d _)) rfl rfl

theorem sp_conflicts_1 (x : Sgr) (pr : List Int) (hx : SgOk x) (hpr : pr.length = 2 ∧ (0 ≤ pr.getD 0 default ∧ (pr.getD 0 default).toNat < x.codes.length) ∧ (0 ≤ pr.getD 1 default ∧ (pr.getD 1 default).toNat < x.codes.length)) : Sp Tryz.prog 301 [(.slice false 1 (pr.map (fun n : Int => D.int .i64 n))), (.ref (.slice false 1 ((outsL x.sigs).map (fun n : Int => D.int .i64 n)))), (.ref (.slice false 1 ((masksL x).map (fun n : Nat => D.int .i64 (n : Int)))))] [.any, .any, .any] (.bool (!(outsL x.sigs).any (cfS x pr))) := by
 refine Sp_intro (lend := true) Tryz.func301 rfl rfl rfl (fun _ => rfl) (fun c hc hX => ?_)
 have hx8 := hx.eight; have hml : (masksL x).length = x.codes.length := masksTo_len x _; have hol := outs_len x.sigs
 refine T_seq (T_region hc (Ch.s (.ptr 3000 0) (.box 3000 _ _ rfl (.one _ rfl)) (Ch.s (.d (.bool false)) pa (Ch.nil (T_seq (T_region hc (Ch.s (.d (.slice false 1 ((outsL x.sigs).map (fun n : Int => D.int .i64 n)))) (.pure (.loadRef1 _ _ rfl ag55 rfl rfl)) ?_)))))))
 refine Ch.s (.fn 303 [(.d (.ref (.slice false 1 ((masksL x).map (fun n : Nat => D.int .i64 (n : Int)))))), (.ptr 3000 0)]) (.pure (.func _ _ rfl rfl)) (Ch.s (.d (.bool ((outsL x.sigs).any (cfS x pr)))) (.call 7000 302 _ _ _ en302 rfl (.inl rfl) (.cons (.d _) (.cons (.lend (.fn (.cons (.d _) (.cons (.ptr rfl (.one (.d _) rfl)) .nil)))) .nil)) rfl rfl (sp_ContainsFunc_int (outsL x.sigs) 303 [(.ref (.slice false 1 ((masksL x).map (fun n : Nat => D.int .i64 (n : Int))))), (.ref (.slice false 1 (pr.map (fun n : Int => D.int .i64 n))))] (cfS x pr) en303 (fun s hs => sp_conflicts_in s x pr (outs_in s hs) hx hpr) a39) (.skip _ _ (.skip _ _ .nil)) rfl) (Ch.s (.d (.bool (!((outsL x.sigs).any (cfS x pr))))) (.pure (.not _ _ rfl rfl)) (Ch.s (.d (.bool (!((outsL x.sigs).any (cfS x pr))))) pa (Ch.nil (T_ret ?_)))))
 exact endR [(.d (.bool (!((outsL x.sigs).any (cfS x pr)))))] [] [] (.cons (.tmp 4 rfl) .nil) (.cons (.any _) (.cons (.any _) (.cons (.any _) .nil))) (Exp.of (congrArg D.bool (by rfl)) (.d _)) rfl rfl

theorem sp_impl_conflicts (x : Sgr) (hb : x.bulk ≤ 1048576) (hx : SgOk x) : Sp Tryz.prog 284 [(.agg [(.slice false 2 (x.sigs.map Sgn.d)), (.slice false 1 (x.codes.map D.str)), (.slice false 4 (x.arcs.map Arc.d))])] [.any] (.slice true 1 ((cfL x).map intsU)) := by
 refine Sp_intro (lend := true) Tryz.func284 rfl rfl rfl (fun _ => rfl) (fun c hc hX => ?_)
 obtain ⟨hp0, hp1, hp2⟩ := Sgr.parts hb
 have hn0 := bulkF_len hp0
 have hn1 := bulk_len hp1
 have hx1 := bulk_mem hp1
 have hn2 := bulkF_len hp2; have hx8 := hx.eight; have hxl := hx.len; have hxf := hx.few; have hpl := prTo_le (eqP x) (n := x.codes.length) (by omega) x.codes.length
 refine T_seq (T_region hc (Ch.s (.ptr 1000 0) (.box 1000 _ _ rfl (.aggD _)) (Ch.s (.c (.slice none 0 0)) pa (Ch.nil (T_seq ?_)))))
 refine T_regionD hc (by kernel_rfl) ?_
 refine ChD.s (.agg (vX x)) [1000] (.pure (.loadPtrA _ _ rfl ag35 sz35 rfl rfl (lb rfl) rfl)) (ChD.s (.row 6000) [] (.call 6000 296 _ _ _ en296 rfl (.inl rfl) (.cons lX .nil) rfl (sol (solid_row (fun _ => rfl) _) rfl) (sp_impl_labelMasks x a39 (by assumption)) (.skip _ _ .nil) rfl) (ChD.s (.agg (vX x)) [1000] (.pure (.loadPtrA _ _ rfl ag35 sz35 rfl rfl (lb rfl) rfl)) (ChD.s (.row 8000) [] (.call 8000 173 _ _ _ en173 rfl (.inl rfl) (.cons lX .nil) rfl (sol (solid_row (fun _ => rfl) _) rfl) (sp_impl_outputs x a42) (.skip _ _ .nil) rfl) (ChD.s (.ptr 3000 0) [] (.alloc 3000 _ rfl zer55) (ChD.s (.ptr 4000 0) [] (.alloc 4000 _ rfl zer55) (ChD.s .junk [3000, 6000] (.storePtr _ _ _ rfl rfl rfl (.one _ rfl) sz55 (lb rfl)) (ChD.s .junk [4000, 8000] (.storePtr _ _ _ rfl rfl rfl (.one _ rfl) sz55 (lb rfl)) ?_)))))))
 refine ChD.nil (And.intro ?_ (by kernel_rfl))
 refine T_seq (T_region hc (Ch.s (.agg (vX x)) (.pure (.loadPtrA _ _ rfl ag35 sz35 rfl rfl (lb rfl) rfl)) ?_))
 refine Ch.step (v := (.row 10000)) rfl (.call 10000 300 _ _ _ en300 rfl (.inl rfl) (.cons lX .nil) rfl (sol (solid_row intsU_sol _) rfl) (sp_impl_equalCodes x a39 (by assumption)) (.skip _ _ .nil) rfl) rfl rfl ?_
 refine Ch.s (.fn 301 [(.ptr 4000 0), (.ptr 3000 0)]) (.pure (.func _ _ rfl rfl)) ?_
 refine Ch.step (v := (.row 12000)) rfl (.call 12000 299 _ _ _ en299 rfl (.inl rfl) (.cons (.row rfl) (.cons (.lend (.fn (.cons (.ptr rfl (.one (.row rfl (frozs_map (fun _ => rfl) _)) rfl)) (.cons (.ptr rfl (.one (.row rfl (frozs_map (fun _ => rfl) _)) rfl)) .nil)))) .nil)) rfl (sol (solid_row intsU_sol _) rfl) (sp_DeleteFunc_ints (prTo (eqP x) x.codes.length x.codes.length) 301 [(.ref (.slice false 1 ((outsL x.sigs).map (fun n : Int => D.int .i64 n)))), (.ref (.slice false 1 ((masksL x).map (fun n : Nat => D.int .i64 (n : Int)))))] (fun pr => !(outsL x.sigs).any (cfS x pr)) en301 (fun pr hpr => sp_conflicts_1 x pr hx (prTo_in (Nat.le_refl _) pr hpr)) a39) (.skip _ _ (.skip _ _ .nil)) rfl) rfl rfl ?_
 refine Ch.s (.row 12000) pa (Ch.nil (T_ret ?_))
 exact endR [(.row 12000)] [] [12000] (.cons (.tmp 2 rfl) .nil) (.cons (.any _) .nil) (Exp.of (congrArg (D.slice true 1) (by first | (rw [cf_filter]; done) | (exact congrArg (List.map _) (cf_filter x)))) (.row rfl)) rfl rfl

theorem mg_at {τ : Type} [Inhabited τ] {f : τ → D} {P : List D} {xs : List τ} {m : Nat} (h : P.length = m) (hm : m < xs.length) : (P ++ (xs.drop m).map f)[m]? = some (f (xs.getD m default)) := by
 rw [List.getElem?_append_right (by omega), h, Nat.sub_self, List.getElem?_map, List.getElem?_drop, Nat.add_zero]
 simp [hm]

theorem mg_set {τ : Type} {f : τ → D} {P : List D} {xs : List τ} {m : Nat} {y : D} (h : P.length = m) (hm : m < xs.length) : (P ++ (xs.drop m).map f).set m y = (P ++ [y]) ++ (xs.drop (m + 1)).map f := by
 rw [List.set_append_right (h := by omega), h, Nat.sub_self, List.drop_eq_getElem_cons hm, List.map_cons, List.set_cons_zero, List.append_assoc]
 rfl

theorem mg_len {τ : Type} {f : τ → D} {P : List D} {xs : List τ} {m : Nat} (h : P.length = m) (hm : m ≤ xs.length) : (P ++ (xs.drop m).map f).length = xs.length := by
 rw [List.length_append, List.length_map, List.length_drop]; omega

theorem en193 : Enters Tryz.prog 193 := ⟨_, Tryz.func193, by kernel_rfl, rfl⟩

theorem en194 : Enters Tryz.prog 194 := ⟨_, Tryz.func194, by kernel_rfl, rfl⟩

theorem zr107 : (Tryz.prog.info? 107).bind (·.zero) = some (.agg #[.int .i64 0, .bool false]) := by kernel_rfl

theorem zer107 : ∃ i z, Tryz.prog.info? 107 = some i ∧ i.zero = some z ∧ z.cells = List.toArray [.int .i64 0, .bool false] := zero_mk zr107 rfl

theorem en161 : Enters Tryz.prog 161 := ⟨_, Tryz.func161, by kernel_rfl, rfl⟩

theorem en123 : Enters Tryz.prog 123 := ⟨_, Tryz.func123, by kernel_rfl, rfl⟩

structure Lin {α : Type} (le : α → α → Bool) : Prop where
 trans : ∀ a b c : α, le a b = true → le b c = true → le a c = true
 total : ∀ a b : α, (le a b || le b a) = true
 anti : ∀ a b : α, le a b = true → le b a = true → a = b

def Rise {α : Type} (le : α → α → Bool) (l : List α) : Prop := l.Pairwise fun a b => le a b = true ∧ a ≠ b

theorem upTo_rise {α : Type} [Inhabited α] [DecidableEq α] {le : α → α → Bool} (h : Lin le) {zs : List α} (hz : zs.Pairwise fun a b => le a b = true) : ∀ m, m ≤ zs.length →
    Rise le (Lib.compactUpTo zs.toArray m) ∧ (∀ a, a ∈ Lib.compactUpTo zs.toArray m ↔ a ∈ zs.take m) ∧ ∀ a ∈ Lib.compactUpTo zs.toArray m, 0 < m ∧ le a (zs.getD (m - 1) default) = true
  | 0, _ => ⟨List.Pairwise.nil, fun a => by simp [Lib.compactUpTo], fun a ha => by simp [Lib.compactUpTo] at ha⟩
  | m + 1, hm => by
    obtain ⟨h1, h2, h3⟩ := upTo_rise h hz m (by omega)
    have hg : ∀ j, j < zs.length → zs.toArray[j]! = zs.getD j default := by intro j hj; simp [hj]
    have hml : zs.getD m default = zs[m] := by simp [show m < zs.length by omega]
    have hrefl : ∀ a : α, le a a = true := fun a => by have := h.total a a; rwa [Bool.or_self] at this
    have hstep : 0 < m → le (zs.getD (m - 1) default) (zs.getD m default) = true := by
      intro h0
      have := List.pairwise_iff_getElem.1 hz (m - 1) m (by omega) (by omega) (by omega)
      rw [hml, show zs.getD (m - 1) default = zs[m - 1] by simp [show m - 1 < zs.length by omega]]; exact this
    rw [Lib.compactUpTo_succ, List.take_succ_eq_append_getElem (by omega), ← hml]
    cases hk : Lib.keeps zs.toArray m with
    | false =>
      have h4 : ¬ (m = 0 ∨ zs.toArray[m]! ≠ zs.toArray[m - 1]!) := by
        unfold Lib.keeps at hk
        exact of_decide_eq_false hk
      have h0 : 0 < m := Nat.pos_of_ne_zero fun e => h4 (.inl e)
      have h5 : zs.getD m default = zs.getD (m - 1) default := by
        rw [← hg m (by omega), ← hg (m - 1) (by omega)]
        exact Classical.byContradiction fun e => h4 (.inr e)
      rw [if_neg (by decide), List.append_nil]
      refine ⟨h1, fun a => ?_, fun a ha => ⟨by omega, ?_⟩⟩
      · rw [h2, List.mem_append, List.mem_singleton]
        refine ⟨.inl, fun hh => hh.elim id fun e => ?_⟩
        rw [e, h5, show zs.getD (m - 1) default = zs[m - 1] by simp [show m - 1 < zs.length by omega]]
        exact List.mem_take_iff_getElem.2 ⟨m - 1, by omega, rfl⟩
      · show le a (zs.getD m default) = true
        rw [h5]; exact (h3 a ha).2
    | true =>
      have h4 : m = 0 ∨ zs.toArray[m]! ≠ zs.toArray[m - 1]! := by
        unfold Lib.keeps at hk
        exact of_decide_eq_true hk
      rw [if_pos rfl, hg m (by omega)]
      refine ⟨?_, fun a => ?_, fun a ha => ⟨by omega, ?_⟩⟩
      · unfold Rise at h1 ⊢
        rw [List.pairwise_append]
        refine ⟨h1, List.pairwise_singleton _ _, fun a ha b hb => ?_⟩
        rw [List.mem_singleton] at hb
        subst hb
        obtain ⟨h0, h5⟩ := h3 a ha
        refine ⟨h.trans _ _ _ h5 (hstep h0), fun e => ?_⟩
        rcases h4 with h4 | h4
        · omega
        · rw [hg m (by omega), hg (m - 1) (by omega)] at h4
          subst e
          exact h4 (h.anti _ _ h5 (hstep h0))
      · rw [List.mem_append, List.mem_append, h2]
      · show le a (zs.getD m default) = true
        rcases List.mem_append.1 ha with ha | ha
        · exact h.trans _ _ _ (h3 a ha).2 (hstep (h3 a ha).1)
        · rw [List.mem_singleton] at ha; subst ha; exact hrefl _

def tid {α : Type} [Inhabited α] [DecidableEq α] (le : α → α → Bool) (l : List α) : List α := Lib.compact (l.mergeSort le)

theorem tid_rise {α : Type} [Inhabited α] [DecidableEq α] {le : α → α → Bool} (h : Lin le) (l : List α) : Rise le (tid le l) :=
 (upTo_rise h (List.pairwise_mergeSort (fun a b c h1 h2 => h.trans a b c h1 h2) (fun a b => h.total a b) l) _ (Nat.le_refl _)).1

theorem tid_mem {α : Type} [Inhabited α] [DecidableEq α] {le : α → α → Bool} (h : Lin le) {l : List α} {a : α} : a ∈ tid le l ↔ a ∈ l := by
 have := (upTo_rise h (List.pairwise_mergeSort (fun a b c h1 h2 => h.trans a b c h1 h2) (fun a b => h.total a b) l) _ (Nat.le_refl _)).2.1 a
 rw [List.take_length, List.mem_mergeSort] at this
 exact this

theorem upTo_len {α : Type} [Inhabited α] [DecidableEq α] (d : Array α) (m : Nat) : (Lib.compactUpTo d m).length ≤ m := by
 unfold Lib.compactUpTo
 rw [List.length_map]
 have := List.length_filter_le (Lib.keeps d) (List.range m)
 rwa [List.length_range] at this

theorem compact_len {α : Type} [Inhabited α] [DecidableEq α] (l : List α) : (Lib.compact l).length ≤ l.length := upTo_len _ _

theorem tid_len {α : Type} [Inhabited α] [DecidableEq α] (le : α → α → Bool) (l : List α) : (tid le l).length ≤ l.length := by
 have := compact_len (l.mergeSort le)
 rwa [List.length_mergeSort] at this

def leI (x y : Int) : Bool := decide (x ≤ y)

theorem linI : Lin leI := by
  refine ⟨fun a b c h1 h2 => ?_, fun a b => ?_, fun a b h1 h2 => ?_⟩
  · unfold leI at *; rw [decide_eq_true_iff] at *; omega
  · unfold leI; rw [Bool.or_eq_true, decide_eq_true_iff, decide_eq_true_iff]; omega
  · unfold leI at *; rw [decide_eq_true_iff] at *; omega

def tidI (l : List Int) : List Int := tid leI l

theorem rise_int {l : List Int} : Rise leI l ↔ Rising l := by
  unfold Rise Rising
  constructor
  · intro h
    exact h.imp fun {a b} hh => by
      have h1 := of_decide_eq_true hh.1
      have h2 := hh.2
      omega
  · intro h
    exact h.imp fun {a b} hh => ⟨decide_eq_true (by omega), by omega⟩

theorem tidI_set {n : Nat} {l : List Int} (h : ∀ a ∈ l, 0 ≤ a ∧ a.toNat < n) : tidI l = setL n fun j => hasI l (j : Int) := by
  refine rising_ext (rise_int.1 (tid_rise linI l)) (setL_rising n _) fun a => ?_
  rw [tidI, tid_mem linI, setL_mem, hasI, List.any_eq_true]
  constructor
  · intro ha
    have := h a ha
    exact ⟨this, a, ha, decide_eq_true (by omega)⟩
  · rintro ⟨h1, b, hb, e⟩
    have := of_decide_eq_true e
    rw [show a = b by omega]; exact hb

theorem sp_Sort_int (xs : List (Int)) (hn : xs.length ≤ 1048576) : Sp Tryz.prog 193 [.slice true 1 (xs.map (fun n : Int => D.int .i64 n))] [.slice true 1 ((xs.mergeSort leI).map (fun n : Int => D.int .i64 n))] (.tup []) :=
 sp_turnRow encIntD (srt := fun l => l.mergeSort leI) (fun l => List.length_mergeSort l) List.mergeSort_nil Tryz.slices_Sort_int_none Tryz.slices_Sort_int xs hn

theorem sp_Compact_int (xs : List (Int)) (hn : xs.length ≤ 1048576) : Sp Tryz.prog 194 [.slice true 1 (xs.map (fun n : Int => D.int .i64 n))] [.any] (.slice true 1 ((Lib.compact xs).map (fun n : Int => D.int .i64 n))) := by
 have h := sp_cutRow (P := Tryz.prog) (fn := 194) encIntD (more := []) (mvs := []) (fun S w vs F hd => by rw [DRs] at hd; exact hd) (fun S w => by rw [List.map_nil, DRs]; exact ⟨rfl, rfl⟩) xs (Lib.compact xs ++ List.replicate (xs.length - (Lib.compact xs).length) 0) (Lib.compact xs).length
  (by have := compact_len xs; rw [List.length_append, List.length_replicate]; omega) (by rw [List.length_append]; omega) (fun _ p cap w => Tryz.slices_Compact_int_empty p cap w) (fun blk cap w hH hc hm => Tryz.slices_Compact_int blk 0 cap xs w hH (by omega) hc)
 rw [List.take_left] at h
 exact h

theorem sp_impl_tidy (xs : List Int) (hn : xs.length ≤ 1048576) : Sp Tryz.prog 123 [(.slice true 1 (xs.map (fun n : Int => D.int .i64 n)))] [.any] (.slice true 1 ((tidI xs).map (fun n : Int => D.int .i64 n))) := by
 refine Sp_intro (lend := false) Tryz.func123 rfl rfl rfl (fun h => nomatch h) (fun c hc hX => ?_)
 refine T_seq (T_region hc (Ch.s (.c (.slice none 0 0)) pa (Ch.nil (T_seq (T_region hc (Ch.s (.row 1) pm ?_))))))
 refine Ch.step (v := (.tup [])) rfl (.call 4000 193 _ _ _ en193 rfl (.inl rfl) (.cons (.row rfl) .nil) rfl (sol rfl (solids_c (solid_row (fun _ => rfl) _) rfl)) (sp_Sort_int xs a39) (.row _ _ _ .nil) rfl) rfl rfl ?_
 refine Ch.nil (T_seq (T_region hc (Ch.s (.row 1) pm ?_)))
 refine Ch.step (v := (.row 6000)) rfl (.call 6000 194 _ _ _ en194 rfl (.inl rfl) (.cons (.row rfl) .nil) rfl (sol (solid_row (fun _ => rfl) _) rfl) (sp_Compact_int (xs.mergeSort leI) (by first | assumption | omega | (rw [List.length_mergeSort]; assumption) | (rw [List.length_mergeSort]; omega))) (.skip _ _ .nil) rfl) rfl rfl ?_
 refine Ch.s (.row 6000) pa (Ch.nil (T_ret ?_))
 exact endR [(.row 6000)] [] [6000] (.cons (.tmp 2 rfl) .nil) (.cons (.any _) .nil) (Exp.of (congrArg (D.slice true 1) (by rfl)) (.row rfl)) rfl rfl

theorem rising_len {n : Nat} {s : List Int} (h : Rising s) (hin : ∀ a ∈ s, 0 ≤ a ∧ a.toNat < n) : s = setL n (fun j => hasI s (j : Int)) ∧ s.length ≤ n := by
  have e : s = setL n (fun j => hasI s (j : Int)) := rising_ext h (setL_rising n _) fun a => by
    rw [setL_mem, hasI, List.any_eq_true]
    constructor
    · intro ha
      have := hin a ha
      exact ⟨this, a, ha, decide_eq_true (by omega)⟩
    · rintro ⟨h1, b, hb, e⟩
      have := of_decide_eq_true e
      rw [show a = b by omega]; exact hb
  exact ⟨e, by rw [e]; exact setL_le _ _⟩

theorem hasI_mem {l : List Int} {a : Int} : hasI l a = true ↔ a ∈ l := by
  rw [hasI, List.any_eq_true]
  constructor
  · rintro ⟨b, hb, e⟩
    have := of_decide_eq_true e
    subst this; exact hb
  · intro h
    exact ⟨a, h, decide_eq_true rfl⟩

structure Wl (n : Nat) (E : Int → Int → Prop) (S : Int → Prop) (out : List Int) : Prop where
 inn : ∀ a ∈ out, 0 ≤ a ∧ a.toNat < n
 nod : out.Nodup
 snd : ∀ a ∈ out, Rch E S a
 base : ∀ a, S a → a ∈ out

theorem nodup_len {n : Nat} {l : List Int} (h : l.Nodup) (hin : ∀ a ∈ l, 0 ≤ a ∧ a.toNat < n) : l.length ≤ n := by
 have h1 : (l.mergeSort leI).Pairwise (fun a b => leI a b = true) := List.pairwise_mergeSort (fun a b c h1 h2 => linI.trans a b c h1 h2) (fun a b => linI.total a b) l
 have h2 : (l.mergeSort leI).Nodup := (List.mergeSort_perm l leI).nodup_iff.2 h
 have h3 : Rising (l.mergeSort leI) := by
  rw [← rise_int]
  unfold Rise
  exact List.Pairwise.and h1 h2
 have := (rising_len (n := n) h3 (fun a ha => hin a (List.mem_mergeSort.1 ha))).2
 rwa [List.length_mergeSort] at this

theorem Wl.len {n : Nat} {E : Int → Int → Prop} {S : Int → Prop} {out : List Int} (h : Wl n E S out) : out.length ≤ n := nodup_len h.nod h.inn

theorem Wl.add {n : Nat} {E : Int → Int → Prop} {S : Int → Prop} {out : List Int} (h : Wl n E S out) {a b : Int} (ha : a ∈ out) (he : E a b) (hb : ¬ b ∈ out) (hn : 0 ≤ b ∧ b.toNat < n) : Wl n E S (out ++ [b]) := by
  refine ⟨fun c hc => ?_, ?_, fun c hc => ?_, fun c hc => List.mem_append_left _ (h.base c hc)⟩
  · rcases List.mem_append.1 hc with hc | hc
    · exact h.inn c hc
    · rw [List.mem_singleton] at hc; subst hc; exact hn
  · rw [List.nodup_append]
    refine ⟨h.nod, by simp, fun c hc d hd => ?_⟩
    rw [List.mem_singleton] at hd
    subst hd
    exact fun e => hb (e ▸ hc)
  · rcases List.mem_append.1 hc with hc | hc
    · exact h.snd c hc
    · rw [List.mem_singleton] at hc; subst hc; exact .step (h.snd a ha) he

theorem Wl.done {n : Nat} {E : Int → Int → Prop} {S : Int → Prop} {out : List Int} (h : Wl n E S out) (hd : ∀ a ∈ out, ∀ b, E a b → b ∈ out) (a : Int) : a ∈ out ↔ Rch E S a :=
 ⟨h.snd a, fun hr => Rch.ind (fun a => a ∈ out) h.base (fun a b ha he => hd a ha b he) hr⟩

def edK (f : Arc → Int) (x : Sgr) (l : Lab) (k : Nat) : List Int := ((x.arcs.take k).filter (isEd l.sig l.up)).map f

theorem edK_yes {f : Arc → Int} {x : Sgr} {l : Lab} {k : Nat} (hk : k < x.arcs.length) (h : isEd l.sig l.up (x.arcs.getD k default) = true) : edK f x l k ++ [f (x.arcs.getD k default)] = edK f x l (k + 1) := by
 have hg : x.arcs.getD k default = x.arcs[k] := by simp [hk]
 rw [hg] at h ⊢
 unfold edK
 rw [List.take_succ_eq_append_getElem hk, List.filter_append, List.map_append]; simp [h]

theorem edK_no {f : Arc → Int} {x : Sgr} {l : Lab} {k : Nat} (hk : k < x.arcs.length) (h : isEd l.sig l.up (x.arcs.getD k default) = false) : edK f x l k = edK f x l (k + 1) := by
 have hg : x.arcs.getD k default = x.arcs[k] := by simp [hk]
 rw [hg] at h
 unfold edK
 rw [List.take_succ_eq_append_getElem hk, List.filter_append, List.map_append]; simp [h]

theorem edK_le (f : Arc → Int) (x : Sgr) (l : Lab) (k : Nat) : (edK f x l k).length ≤ k := by
 unfold edK
 rw [List.length_map]
 have h1 := List.length_filter_le (isEd l.sig l.up) (x.arcs.take k)
 rw [List.length_take] at h1
 omega

theorem lab_is {a : Arc} {l : Lab} : decide (Lab.mk a.sig a.up = l) = isEd l.sig l.up a := by
 unfold isEd
 cases l
 simp

theorem lab_is2 {a : Arc} {l : Lab} : decide (l = Lab.mk a.sig a.up) = isEd l.sig l.up a := by
 rw [← lab_is]
 exact decide_eq_decide.2 eq_comm

theorem ed_src {x : Sgr} (hen : ends x.codes.length x.arcs) (l : Lab) : tidI (edK Arc.src x l x.arcs.length) = excS x l.sig l.up := by
  rw [tidI_set (n := x.codes.length)]
  · unfold excS excTo
    refine setL_ext fun j hj => ?_
    unfold edK hasI
    rw [List.take_length, List.any_map, List.any_filter]
    congr 1
    funext a
    unfold isLab
    simp [Bool.and_comm]
  · intro a ha
    obtain ⟨b, hb, rfl⟩ := List.mem_map.1 ha
    exact (hen b (List.mem_of_mem_take (List.mem_filter.1 hb).1)).1

def nxTo (x : Sgr) : Nat → List (List Int)
 | 0 => List.replicate x.codes.length []
 | k + 1 => (nxTo x k).set (x.arcs.getD k default).src.toNat ((nxTo x k).getD (x.arcs.getD k default).src.toNat default ++ [(k : Int)])

theorem nxTo_len (x : Sgr) : ∀ k, (nxTo x k).length = x.codes.length
 | 0 => by simp [nxTo]
 | k + 1 => by rw [nxTo, List.length_set, nxTo_len x k]

theorem nx_mem {x : Sgr} (hen : ends x.codes.length x.arcs) {j : Nat} {i : Int} : ∀ k, k ≤ x.arcs.length → (i ∈ (nxTo x k).getD j default ↔ (0 ≤ i ∧ i.toNat < k) ∧ (x.arcs.getD i.toNat default).src.toNat = j)
  | 0, _ => by
    constructor
    · intro h
      exfalso
      unfold nxTo at h
      by_cases hj : j < x.codes.length
      · simp [hj] at h
      · simp [hj] at h
        cases h
    · rintro ⟨⟨_, h⟩, _⟩
      omega
  | k + 1, hk => by
    have he := hen _ (getD_mem (l := x.arcs) (j := k) (d := default) (by omega))
    rw [nxTo, getD_set, nxTo_len]
    split
    · rename_i h
      rw [List.mem_append, List.mem_singleton, h.1, nx_mem hen k (by omega)]
      constructor
      · rintro (⟨⟨h1, h2⟩, h3⟩ | h1)
        · exact ⟨⟨h1, by omega⟩, h3⟩
        · subst h1
          exact ⟨⟨by omega, by omega⟩, h.1⟩
      · rintro ⟨⟨h1, h2⟩, h3⟩
        by_cases e : i = (k : Int)
        · exact .inr e
        · exact .inl ⟨⟨h1, by omega⟩, h3⟩
    · rename_i h
      rw [nx_mem hen k (by omega)]
      constructor
      · rintro ⟨⟨h1, h2⟩, h3⟩
        exact ⟨⟨h1, by omega⟩, h3⟩
      · rintro ⟨⟨h1, h2⟩, h3⟩
        refine ⟨⟨h1, ?_⟩, h3⟩
        apply Classical.byContradiction
        intro hc
        have e : i.toNat = k := by omega
        rw [e] at h3
        exact h ⟨h3, he.1.2⟩

theorem nx_le (x : Sgr) : ∀ k, k ≤ x.arcs.length → ∀ j, ((nxTo x k).getD j default).length ≤ k
  | 0, _, j => by
    unfold nxTo
    by_cases hj : j < x.codes.length
    · simp [hj]
    · simp [hj]; rfl
  | k + 1, hk, j => by
    have h1 := nx_le x k (by omega)
    rw [nxTo, getD_set]
    split
    · rename_i h
      have := h1 (x.arcs.getD k default).src.toNat
      rw [List.length_append, List.length_singleton]; omega
    · have := h1 j; omega

end Go.AM
