/-
  The contracts that the law FnExactAreMonotonous needs.
-/
import Derived.Test.YtnmlcebejnlikaaGreatZAreMonotonous3
import Derived.Test.YtnmlcebejnlikaaGreatSh
namespace Go.AM
open Go.Proofs
set_option linter.unusedVariables false
set_option linter.unusedSimpArgs false

theorem sp_DeleteFunc_int (xs : List (Int)) (f : FuncId) (caps : List D) (p : Int → Bool) (hf : Enters Tryz.prog f) (hp : ∀ x ∈ xs, Sp Tryz.prog f ((fun n : Int => D.int .i64 n) x :: caps) (.any :: anys caps) (.bool (p x))) (hn : xs.length ≤ 1048576) : Sp Tryz.prog 215 [(.slice true 1 (xs.map (fun n : Int => D.int .i64 n))), (.fn f caps)] [.any, .any] (.slice true 1 ((xs.filter (fun u => !p u)).map (fun n : Int => D.int .i64 n))) := by
 refine Sp_intro (lend := false) Tryz.func215 rfl rfl rfl (fun h => nomatch h) (fun c hc hX => ?_)
 have hixb := ixF_bounds p xs
 refine T_seq (T_region hc (Ch.s (.c (.slice none 0 0)) pa (Ch.nil (T_seq (T_region hc (Ch.s (.row 1) pm (Ch.s (.d (.fn f caps)) pm ?_)))))))
 refine Ch.s (.d (.int .i64 (ixF p xs))) (.call 10000 257 _ _ _ en257 rfl (.inl rfl) (.cons (.lend (.row rfl (frozs_map (fun _ => rfl) _))) (.cons (.d _) .nil)) rfl rfl (sp_IndexFunc_int xs f caps p hf hp a39) (.skip _ _ (.skip _ _ .nil)) rfl) (Ch.s (.d (.int .i64 (ixF p xs))) pa (Ch.nil (T_seq (T_seq (T_region hc (Ch.s (.d (.int .i64 (ixF p xs))) pm (Ch.s (.d (.bool (decide ((ixF p xs) = (-1))))) (iX rfl rfl rfl) ?_)))))))
 refine Ch.nil ?_
 refine T_condD (p := ((ixF p xs) = (-1))) rfl (fun h1 => ?_) (fun h1 => ?_)
 ·
  refine T_seq (T_region hc (Ch.s (.row 1) pm (Ch.s (.row 1) pa (Ch.nil (T_ret ?_)))))
  exact endR [(.row 1)] [] [1] (.cons (.tmp 4 rfl) .nil) (.cons (.any _) (.cons (.any _) .nil)) (Exp.of (congrArg (D.slice true 1) a69) (.row rfl)) rfl rfl
 ·
  refine T_skip (T_seq (T_seq (T_region hc (Ch.s (.d (.int .i64 (ixF p xs))) pm (Ch.s (.d (.int .i64 ((ixF p xs) + 1))) (iX rfl rfl intV_addA) (Ch.s (.d (.int .i64 ((ixF p xs) + 1))) pa (Ch.nil ?_)))))))
  refine T_block ?_
  refine T_loop (ι := Nat × List (Int)) (fun q => { n := 42, sl := [(0, (.row 1)), (1, (.d (.fn f caps))), (5, (.d (.int .i64 ((keepTo p xs q.1).length : Int)))), (6, (.d (.int .i64 (q.1 : Int))))], hp := [(1, (some (.row 1 (q.2.map (fun n : Int => D.int .i64 n)))))], pin := [1] }) (fun q => DelInv p xs q.1 q.2) (fun q => xs.length - q.1) ⟨((ixF p xs).toNat + 1, xs), (by obtain ⟨k0, hk0, hk1, hk2⟩ := ixF_first h1; have e : (ixF p xs).toNat = k0 := (by omega); rw [e]; exact DelInv.start hk0 hk2), (Wk.of rfl rfl (ai rfl (ai rfl (ai (vI a20) (ai (vI a105) trivial)))) (ai (oR a107) trivial))⟩ (fun q hp0 => ?_)
  have hq1 := hp0.len; have hq2 := hp0.lt; have hq3 := hp0.le
  refine T_seq (T_seq (T_region hc (Ch.s (.d (.int .i64 (q.1 : Int))) pm (Ch.s (.row 1) pm (Ch.s (.d (.int .i64 (q.2.length : Int))) (.pure (.len _ _ 3 rfl Tryz.underlying55 (.row rfl) (by simp))) (Ch.s (.d (.bool (decide ((q.1 : Int) < (q.2.length : Int))))) (iX rfl rfl rfl) (Ch.nil ?_)))))))
  refine T_condD (p := ((q.1 : Int) < (q.2.length : Int))) rfl (fun h2 => ?_) (fun h2 => ?_)
  ·
   refine T_skip (T_seq (T_block (T_seq (T_region hc (Ch.s (.row 1) pm (Ch.s (.d (.int .i64 (q.1 : Int))) pm (Ch.s (.el 1 1 q.1 0) (.pure (.idxRow _ _ _ 3 (q.1) rfl Tryz.underlying55 sz3 rfl rfl rfl rfl a81)) ?_)))))))
   refine Ch.s (.d (.int .i64 (q.2.getD q.1 default))) (.pure (.loadEl1 _ _ rfl ag3 rfl rfl get_mapA rfl rfl rfl)) (Ch.s (.d (.int .i64 (q.2.getD q.1 default))) pa (Ch.nil (T_seq (T_region hc (Ch.s (.d (.fn f caps)) pm (Ch.s (.d (.int .i64 (q.2.getD q.1 default))) pm ?_))))))
   refine Ch.step (v := (.d (.bool (p (q.2.getD q.1 default))))) rfl (.callS 28000 f _ #[.tmp 27] _ hf rfl (.inr ⟨caps, rfl, rfl⟩) (.cons (.d _) (exps_ds caps)) rfl ((by first | exact hp _ (getD_mem (by omega)) | exact hp _ (hp0.mem (by omega)))) (.skip _ _ (back_anys caps)) rfl) rfl rfl ?_
   refine Ch.s (.d (.bool (!(p (q.2.getD q.1 default))))) (.pure (.not _ _ rfl rfl)) (Ch.nil ?_)
   refine T_condN (b := (p (q.2.getD q.1 default))) rfl (fun h3 => ?_) (fun h3 => ?_)
   ·
    refine T_seq (T_region hc (Ch.s (.row 1) pm (Ch.s (.d (.int .i64 ((keepTo p xs q.1).length : Int))) pm (Ch.s (.d (.int .i64 (q.2.getD q.1 default))) pm (Ch.s (.el 1 1 ((keepTo p xs q.1).length) 0) (.pure (.idxRow _ _ _ 3 ((keepTo p xs q.1).length) rfl Tryz.underlying55 sz3 rfl rfl rfl rfl a81)) (Ch.s .junk (.storeEl (y' := (.int .i64 (q.2.getD q.1 default))) _ _ _ rfl rfl rfl (.d _) rfl sz3 rfl get_mapA rfl rfl) (Ch.nil ?_)))))))
    refine T_region hc (Ch.s (.d (.int .i64 ((keepTo p xs q.1).length : Int))) pm (Ch.s (.d (.int .i64 (((keepTo p xs q.1).length : Int) + 1))) (iX rfl rfl intV_addA) (Ch.s (.d (.int .i64 (((keepTo p xs q.1).length : Int) + 1))) pa (Ch.nil (T_region hc (Ch.s (.d (.int .i64 (q.1 : Int))) pm (Ch.s (.d (.int .i64 ((q.1 : Int) + 1))) (iX rfl rfl intV_addA) ?_)))))))
    refine Ch.s (.d (.int .i64 ((q.1 : Int) + 1))) pa (Ch.nil ?_)
    exact nx (q.1 + 1, q.2.set (keepTo p xs q.1).length (q.2.getD q.1 default)) a72 (Wk.of rfl rfl (ai rfl (ai rfl (ai (vI a20) (ai (vI a105) trivial)))) (ai (oR a107) trivial))
   ·
    refine T_skip (T_region hc (Ch.s (.d (.int .i64 (q.1 : Int))) pm (Ch.s (.d (.int .i64 ((q.1 : Int) + 1))) (iX rfl rfl intV_addA) (Ch.s (.d (.int .i64 ((q.1 : Int) + 1))) pa (Ch.nil ?_)))))
    exact nx (q.1 + 1, q.2) a72 (Wk.of rfl rfl (ai rfl (ai rfl (ai (vI a20) (ai (vI a105) trivial)))) (ai (oR a107) trivial))
  ·
   refine T_exit (T_seq (T_region hc (Ch.s (.row 1) pm (Ch.s (.d (.int .i64 ((keepTo p xs q.1).length : Int))) pm (Ch.s (.sub 1 1 ((keepTo p xs q.1).length) q.2.length) (.pure (.subRow _ _ _ _ 3 ((keepTo p xs q.1).length) (q.2.length) rfl Tryz.underlying55 sz3 rfl rfl (bndS rfl rfl) (bndN (by simp)) a42 a42)) (Ch.s .junk (.clear _ _ 3 rfl sty55 rfl rfl a42 (noUs_map (fun _ => rfl) _) (zeroD_mk (zd := (.int .i64 0)) zr3 a110 rfl)) (Ch.nil ?_)))))))
   refine T_seq (T_region hc (Ch.s (.row 1) pm (Ch.s (.d (.int .i64 ((keepTo p xs q.1).length : Int))) pm (Ch.s (.row 41000) (.cut 41000 _ _ _ 3 ((keepTo p xs q.1).length) rfl Tryz.underlying55 sz3 rfl rfl (bndS rfl rfl) a42 rfl) (Ch.s (.row 41000) pa (Ch.nil (T_ret ?_)))))))
   exact endR [(.row 41000)] [] [41000] (.cons (.tmp 4 rfl) .nil) (.cons (.any _) (.cons (.any _) .nil)) (Exp.of (congrArg (D.slice true 1) a69) (.row rfl)) rfl rfl

theorem sp_Clone_int (xs : List Int) (hn : xs.length ≤ 1048576) : Sp Tryz.prog 192 [(.slice false 1 (xs.map (fun n : Int => D.int .i64 n)))] [.any] (.slice true 1 (xs.map (fun n : Int => D.int .i64 n))) := by
 refine Sp_intro (lend := true) Tryz.func192 rfl rfl rfl (fun _ => rfl) (fun c hc hX => ?_)
 refine T_seq (T_region hc (Ch.s (.c (.slice none 0 0)) pa (Ch.nil (T_seq (T_seq (T_region hc (Ch.s (.d (.slice false 1 (xs.map (fun n : Int => D.int .i64 n)))) pm ?_)))))))
 refine Ch.nilq (sz := 1) (xs := (xs.map (fun n : Int => D.int .i64 n))) _ _ _ _ 3 rfl rfl Tryz.underlying55 (.sh _ _) rfl rfl (fun q1 hzq1 => ?_)
 refine Ch.nil ?_
 refine T_cond (b := (q1)) rfl (fun h1 => ?_) (fun h1 => ?_)
 ·
  try have hz := hzq1 h1
  refine T_seq (T_region hc (Ch.s (.c (.slice none 0 0)) pa (Ch.nil (T_ret ?_))))
  exact endR [(.c (.slice none 0 0))] [] [] (.cons (.tmp 2 rfl) .nil) (.cons (.any _) .nil) (Exp.of (congrArg (D.slice true 1) (by first | rfl | (rw [hz]; done))) (.nil true 1)) rfl rfl
 ·
  try have hz := hzq1 h1
  refine T_skip (T_seq (T_region hc (Ch.s (.row 5000) (.slice 5000 _ 3 _ rfl sty55 (xs := []) rfl rfl .nil rfl rfl (by decide)) (Ch.s (.d (.slice false 1 (xs.map (fun n : Int => D.int .i64 n)))) pm ?_))))
  refine Ch.step (v := (.row 7000)) rfl (.append 7000 _ _ _ 3 rfl sty55 (by decide) (.rowK rfl) (.inr ⟨_, rfl, rfl⟩) (.sh _ _) rfl a55) rfl rfl ?_
  refine Ch.s (.row 7000) pa (Ch.nil (T_ret ?_))
  exact endR [(.row 7000)] [] [7000] (.cons (.tmp 2 rfl) .nil) (.cons (.any _) .nil) (.row rfl) rfl rfl

theorem sp_Compact_intU (u : Value) (xs : List Int) (hn : xs.length ≤ 1048576) (hc : Lib.compact xs = xs) : SpQ (fun _ _ vs => vs.head? = some u) Tryz.prog 194 [.slice true 1 (xs.map (fun n : Int => D.int .i64 n))] [.slice true 1 (xs.map (fun n : Int => D.int .i64 n))] (.hole u) :=
 sp_keepRow encIntD xs (fun p cap w => Tryz.slices_Compact_int_empty p cap w) (fun blk cap w hH hc1 hm => by
  have h := Tryz.slices_Compact_int blk 0 cap xs w hH (by omega) hc1
  rw [hc, Nat.sub_self, List.replicate_zero, List.append_nil] at h
  exact h)

theorem sp_tidyU (u : Value) (xs : List Int) (hn : xs.length ≤ 1048576) (hnd : xs.Nodup) : SpQ (fun _ _ vs => vs.head? = some u) Tryz.prog 123 [(.slice true 1 (xs.map (fun n : Int => D.int .i64 n)))] [(.slice true 1 ((tidI xs).map (fun n : Int => D.int .i64 n)))] (.hole u) := by
 refine SpU_intro Tryz.func123 rfl 900001 rfl rfl rfl (fun c hc => ?_)
 refine T_seq (T_region hc (Ch.s (.c (.slice none 0 0)) pa (Ch.nil (T_seq (T_region hc (Ch.s (.row 1) pm ?_))))))
 refine Ch.step (v := (.tup [])) rfl (.call 4000 193 _ _ _ en193 rfl (.inl rfl) (.cons (.row rfl) .nil) rfl (sol rfl (solids_c (solid_row (fun _ => rfl) _) rfl)) (sp_Sort_int xs a39) (.row _ _ _ .nil) rfl) rfl rfl ?_
 refine Ch.nil (T_seq (T_region hc (Ch.s (.row 1) pm ?_)))
 refine Ch.step (v := (.d (.hole u))) rfl (.callU (m := 900001) 6000 194 _ _ _ en194 rfl (.inl rfl) (.cons (.row rfl) .nil) rfl (sol rfl (solids_c (solid_row (fun _ => rfl) _) rfl)) (sp_Compact_intU u (xs.mergeSort leI) (by rw [List.length_mergeSort]; assumption) (by first | assumption | exact nodup_mem_compact hnd)) rfl rfl (.row _ _ _ .nil) rfl) rfl rfl ?_
 refine Ch.s (.d (.hole u)) pa (Ch.nil (T_ret ?_))
 exact endR [(.d (.hole u))] [1] [] (.cons (.tmp 2 rfl) .nil) (.cons (Exp.of (congrArg (D.slice true 1) (by rw [nodup_mem_compact hnd])) (.row rfl)) .nil) (.d _) rfl rfl

theorem sp_impl_components_1 (k : Int) (l : List Int) (hn : l.length ≤ 1048576) : Sp Tryz.prog 216 [(.int .i64 k), (.ref (.slice false 1 (l.map (fun n : Int => D.int .i64 n))))] [.any, .any] (.bool (hasI l k)) := by
 refine Sp_intro (lend := true) Tryz.func216 rfl rfl rfl (fun _ => rfl) (fun c hc hX => ?_)
 refine T_seq (T_region hc (Ch.s (.d (.bool false)) pa (Ch.nil (T_seq (T_region hc (Ch.s (.d (.slice false 1 (l.map (fun n : Int => D.int .i64 n)))) (.pure (.loadRef1 _ _ rfl ag55 rfl rfl)) (Ch.s (.d (.int .i64 k)) pm ?_)))))))
 refine Ch.s (.d (.bool (hasI l k))) (.call 6000 160 _ _ _ en160 rfl (.inl rfl) (.cons (.d _) (.cons (.d _) .nil)) rfl rfl (sp_Contains_int l k a39) (.skip _ _ (.skip _ _ .nil)) rfl) (Ch.s (.d (.bool (hasI l k))) pa (Ch.nil (T_ret ?_)))
 exact endR [(.d (.bool (hasI l k)))] [] [] (.cons (.tmp 3 rfl) .nil) (.cons (.any _) (.cons (.any _) .nil)) (.d _) rfl rfl

set_option maxHeartbeats 4000000 in
theorem sp_impl_components (x : Sgr) (S : List Int) (hb : x.bulk ≤ 1048576) (hx : SgOk x) (hso : SetOk S x.arcs x.codes.length) (hsl : S.length ≤ 1048576) : Sp Tryz.prog 155 [(.agg [(.slice false 2 (x.sigs.map Sgn.d)), (.slice false 1 (x.codes.map D.str)), (.slice false 4 (x.arcs.map Arc.d))]), (.slice false 1 (S.map (fun n : Int => D.int .i64 n)))] [.any, .any] (.slice true 1 ((regL S x.arcs x.codes.length).map intsU)) := by
 refine Sp_intro (lend := true) Tryz.func155 rfl rfl rfl (fun _ => rfl) (fun c hc hX => ?_)
 obtain ⟨hp0, hp1, hp2⟩ := Sgr.parts hb
 have hn0 := bulkF_len hp0
 have hn1 := bulk_len hp1
 have hx1 := bulk_mem hp1
 have hn2 := bulkF_len hp2; have hxl := hx.len; have hxf := hx.few; have hen := hx.ends
 refine T_seq (T_region hc (Ch.s (.ptr 2000 0) (.box 2000 _ _ rfl (.aggD _)) (Ch.s (.c (.slice none 0 0)) pa (Ch.nil (T_seq (T_region hc (Ch.s (.row 13000) (.slice 13000 _ 55 _ rfl sty49 (xs := []) rfl rfl .nil rfl rfl (by decide)) ?_)))))))
 refine Ch.s (.d (.slice false 1 (S.map (fun n : Int => D.int .i64 n)))) pm ?_
 refine Ch.step (v := (.row 15000)) rfl (.call 15000 192 _ _ _ en192 rfl (.inl rfl) (.cons (.d _) .nil) rfl (sol (solid_row (fun _ => rfl) _) rfl) (sp_Clone_int S a39) (.skip _ _ .nil) rfl) rfl rfl ?_
 refine Ch.s (.row 13000) pa (Ch.s (.row 15000) pa (Ch.nil (T_seq (T_block ?_))))
 refine T_loop (ι := Nat) (fun B => { n := 88, sl := [(1, (.d (.slice false 1 (S.map (fun n : Int => D.int .i64 n))))), (2, (.ptr 2000 0)), (5, (.row 5)), (6, (.row 6))], hp := [(5, (some (.row 1 ((regTo S x.arcs x.codes.length B).map intsU)))), (6, (some (.row 1 ((leftF S x.arcs x.codes.length B).map (fun n : Int => D.int .i64 n))))), (2000, (some (.box (vX x))))], pin := [] }) (fun B => B ≤ x.codes.length) (fun B => x.codes.length - B) ⟨0, (by omega), (Wk.ren [(5, 13000), (6, 15000)] rfl rfl rfl rfl (ai rfl (ai rfl (ai rfl (ai rfl trivial)))) (ai (oR a99) (ai (oR a65) (ai rfl trivial))))⟩ (fun B hp0 => ?_)
 have hll := leftF_le S x.arcs x.codes.length B; have hrl := regTo_le S x.arcs x.codes.length B
 refine T_seq (T_seq (T_region hc (Ch.s (.row 6) pm (Ch.s (.d (.int .i64 ((leftF S x.arcs x.codes.length B).length : Int))) (.pure (.len _ _ 3 rfl Tryz.underlying55 (.row rfl) (by simp))) (Ch.s (.d (.bool (decide (0 < ((leftF S x.arcs x.codes.length B).length : Int))))) (iX rfl rfl rfl) (Ch.nil ?_))))))
 refine T_condD (p := (0 < ((leftF S x.arcs x.codes.length B).length : Int))) rfl (fun h1 => ?_) (fun h1 => ?_)
 ·
  try have hlh := left_head hso (B := B) (by omega)
  try have hla := hlh.2.2.1
  refine T_skip (T_block (T_seq (T_region hc (Ch.s (.row 6) pm (Ch.s (.el 6 1 0 0) (.pure (.idxRow _ _ _ 3 (0) rfl Tryz.underlying55 sz3 rfl rfl rfl rfl a81)) (Ch.s (.d (.int .i64 ((leftF S x.arcs x.codes.length B).getD 0 default))) (.pure (.loadEl1 _ _ rfl ag3 rfl rfl get_mapA rfl rfl rfl)) (Ch.s (.row 22000) (.slice 22000 _ 3 _ rfl sty55 (xs := [.tmp 21]) rfl rfl (.cons (.d _) .nil) rfl rfl (by decide)) ?_)))))))
  refine Ch.s (.ptr 7000 0) (.alloc 7000 _ rfl zer55) (Ch.s .junk (.storePtr _ _ _ rfl rfl rfl (.one _ rfl) sz55 (lb rfl)) (Ch.nil (T_seq (T_seq (T_region hc (Ch.s (.d (.int .i64 0)) pa (Ch.nil ?_)))))))
  refine T_block ?_
  refine T_loop (ι := List Int × Nat) (fun q => { n := 88, sl := [(1, (.d (.slice false 1 (S.map (fun n : Int => D.int .i64 n))))), (2, (.ptr 2000 0)), (5, (.row 5)), (6, (.row 6)), (7, (.ptr 7000 0)), (8, (.d (.int .i64 (q.2 : Int))))], hp := [(5, (some (.row 1 ((regTo S x.arcs x.codes.length B).map intsU)))), (6, (some (.row 1 ((leftF S x.arcs x.codes.length B).map (fun n : Int => D.int .i64 n))))), (2000, (some (.box (vX x)))), (7000, (some (.box [(.row 7700)]))), (7700, (some (.row 1 (q.1.map (fun n : Int => D.int .i64 n)))))], pin := [] }) (fun q => CLoop x S ((leftF S x.arcs x.codes.length B).getD 0 default) q) (fun q => x.codes.length - q.2) ⟨([((leftF S x.arcs x.codes.length B).getD 0 default)], 0), (CLoop.zero hlh.2.1 hlh.1), (Wk.ren [(7700, 22000)] rfl rfl rfl rfl (ai rfl (ai rfl (ai rfl (ai rfl (ai rfl (ai (vI a105) trivial)))))) (ai rfl (ai rfl (ai rfl (ai (oB (Eq.trans (b := [(.row 22000)]) rfl (by rfl))) (ai (oR (by first | rfl | (rw [show m = x.arcs.length by omega]))) trivial))))))⟩ (fun q hp1 => ?_)
  have hol := hp1.inv.wl.len
  refine T_seq (T_seq (T_region hc (Ch.s (.d (.int .i64 (q.2 : Int))) pm (Ch.s (.row 7700) (.pure (.loadPtr1 _ _ rfl ag55 rfl rfl rfl)) (Ch.s (.d (.int .i64 (q.1.length : Int))) (.pure (.len _ _ 3 rfl Tryz.underlying55 (.row rfl) (by simp))) (Ch.s (.d (.bool (decide ((q.2 : Int) < (q.1.length : Int))))) (iX rfl rfl rfl) (Ch.nil ?_)))))))
  refine T_condD (p := ((q.2 : Int) < (q.1.length : Int))) rfl (fun h2 => ?_) (fun h2 => ?_)
  ·
   try have hqe := hp1.end hso hlh.2.1 hlh.2.2.1 (by omega)
   try have hol2 : (tidI q.1).length ≤ 1048576 := by (have := tid_len leI q.1; unfold tidI; omega)
   refine T_skip (T_seq (T_block (T_seq (T_region hc (Ch.s (.ptr 2000 2) (.pure (.fldPtr _ _ _ rfl fld35_2 rfl)) (Ch.s (.d (.slice false 4 (x.arcs.map Arc.d))) (.pure (.loadPtr1 _ _ rfl ag33 rfl rfl rfl)) (Ch.s (.d (.int .i64 (x.arcs.length : Int))) (.pure (.len _ _ 125 rfl Tryz.underlying33 (.sh _ _) (by simp))) ?_)))))))
   refine Ch.s (.d (.int .i64 0)) pm (Ch.nil (T_block ?_))
   refine T_loop (ι := Nat) (fun m => { n := 88, sl := [(1, (.d (.slice false 1 (S.map (fun n : Int => D.int .i64 n))))), (2, (.ptr 2000 0)), (5, (.row 5)), (6, (.row 6)), (7, (.ptr 7000 0)), (8, (.d (.int .i64 (q.2 : Int)))), (30, (.d (.slice false 4 (x.arcs.map Arc.d)))), (31, (.d (.int .i64 (x.arcs.length : Int)))), (32, (.d (.int .i64 (m : Int))))], hp := [(5, (some (.row 1 ((regTo S x.arcs x.codes.length B).map intsU)))), (6, (some (.row 1 ((leftF S x.arcs x.codes.length B).map (fun n : Int => D.int .i64 n))))), (2000, (some (.box (vX x)))), (7000, (some (.box [(.row 7700)]))), (7700, (some (.row 1 ((cTo x S (q.1.getD q.2 default) q.1 m).map (fun n : Int => D.int .i64 n)))))], pin := [] }) (fun m => m ≤ x.arcs.length) (fun m => x.arcs.length - m) ⟨0, (by omega), (Wk.of rfl rfl (ai rfl (ai rfl (ai rfl (ai rfl (ai rfl (ai rfl (ai rfl (ai rfl (ai (vI a105) trivial))))))))) (ai rfl (ai rfl (ai rfl (ai rfl (ai (oR a85) trivial))))))⟩ (fun m hp2 => ?_)
   obtain ⟨hw1, hw2, hw3⟩ := hp1.inv.tos hen (getD_mem (l := q.1) (j := q.2) (d := default) (by omega)) m hp2; have hwl := hw1.wl.len; obtain ⟨hwr, hwe⟩ := hw2
   refine T_seq (T_region hc (Ch.s (.d (.bool (decide ((m : Int) < (x.arcs.length : Int))))) (iX rfl rfl rfl) (Ch.nil (T_seq ?_))))
   refine T_condD (p := ((m : Int) < (x.arcs.length : Int))) rfl (fun h3 => ?_) (fun h3 => ?_)
   ·
    refine T_skip (T_seq (T_block (T_seq (T_region hc (Ch.s (.d (.ref (.agg [(.int .i64 ((x.arcs.getD m default).src)), (.int .i64 ((x.arcs.getD m default).sig)), (.bool ((x.arcs.getD m default).up)), (.int .i64 ((x.arcs.getD m default).dst))]))) (.pure (.idx _ _ _ 125 (m) rfl Tryz.underlying33 sz125 rfl rfl rfl get_mapA)) (Ch.s (.d (.agg [(.int .i64 ((x.arcs.getD m default).src)), (.int .i64 ((x.arcs.getD m default).sig)), (.bool ((x.arcs.getD m default).up)), (.int .i64 ((x.arcs.getD m default).dst))])) (.pure (.loadRefA _ _ rfl ag125 sz125 rfl)) (Ch.s (.ptr 10000 0) (.alloc 10000 _ rfl zer125) ?_)))))))
    refine Ch.s .junk (.storePtr _ _ _ rfl rfl rfl (.aggD _) sz125 (lb rfl)) (Ch.nil (T_seq (T_region hc (Ch.s (.ptr 10000 0) (.pure (.fldPtr _ _ _ rfl fld125_0 rfl)) (Ch.s (.d (.int .i64 ((x.arcs.getD m default).src))) (.pure (.loadPtr1 _ _ rfl ag3 rfl rfl rfl)) (Ch.s (.ptr 10000 3) (.pure (.fldPtr _ _ _ rfl fld125_3 rfl)) (Ch.s (.d (.int .i64 ((x.arcs.getD m default).dst))) (.pure (.loadPtr1 _ _ rfl ag3 rfl rfl rfl)) ?_)))))))
    refine Ch.s (.agg [(.d (.int .i64 ((x.arcs.getD m default).src))), (.d (.int .i64 ((x.arcs.getD m default).dst)))]) (.build _ _ rfl stru212 (.cons (.one _ rfl) (.cons (.one _ rfl) .nil)) rfl) (Ch.s (.ptr 10000 3) (.pure (.fldPtr _ _ _ rfl fld125_3 rfl)) (Ch.s (.d (.int .i64 ((x.arcs.getD m default).dst))) (.pure (.loadPtr1 _ _ rfl ag3 rfl rfl rfl)) (Ch.s (.ptr 10000 0) (.pure (.fldPtr _ _ _ rfl fld125_0 rfl)) (Ch.s (.d (.int .i64 ((x.arcs.getD m default).src))) (.pure (.loadPtr1 _ _ rfl ag3 rfl rfl rfl)) (Ch.s (.agg [(.d (.int .i64 ((x.arcs.getD m default).dst))), (.d (.int .i64 ((x.arcs.getD m default).src)))]) (.build _ _ rfl stru212 (.cons (.one _ rfl) (.cons (.one _ rfl) .nil)) rfl) (Ch.s (.row 46000) (.slice 46000 _ 212 _ rfl sty193 (xs := [.tmp 40, .tmp 45]) rfl rfl (.cons (.agg (.cons (.d _) (.cons (.d _) .nil)) rfl) (.cons (.agg (.cons (.d _) (.cons (.d _) .nil)) rfl) .nil)) rfl rfl (by decide)) (Ch.s (.d (.int .i64 ((2 : Nat) : Int))) (.pure (.len _ _ 212 rfl Tryz.underlying193 (.row rfl) rfl)) ?_)))))))
    refine Ch.s (.d (.int .i64 0)) pm (Ch.nil (T_block ?_))
    refine T_loop (ι := Nat) (fun e => { n := 88, sl := [(1, (.d (.slice false 1 (S.map (fun n : Int => D.int .i64 n))))), (2, (.ptr 2000 0)), (5, (.row 5)), (6, (.row 6)), (7, (.ptr 7000 0)), (8, (.d (.int .i64 (q.2 : Int)))), (30, (.d (.slice false 4 (x.arcs.map Arc.d)))), (31, (.d (.int .i64 (x.arcs.length : Int)))), (32, (.d (.int .i64 (m : Int)))), (46, (.row 46000)), (47, (.d (.int .i64 ((2 : Nat) : Int)))), (48, (.d (.int .i64 (e : Int))))], hp := [(5, (some (.row 1 ((regTo S x.arcs x.codes.length B).map intsU)))), (6, (some (.row 1 ((leftF S x.arcs x.codes.length B).map (fun n : Int => D.int .i64 n))))), (2000, (some (.box (vX x)))), (7000, (some (.box [(.row 7700)]))), (7700, (some (.row 1 ((cIn S (q.1.getD q.2 default) (cTo x S (q.1.getD q.2 default) q.1 m) (x.arcs.getD m default) e).map (fun n : Int => D.int .i64 n))))), (46000, (some (.row 2 [(.agg [(.int .i64 ((x.arcs.getD m default).src)), (.int .i64 ((x.arcs.getD m default).dst))]), (.agg [(.int .i64 ((x.arcs.getD m default).dst)), (.int .i64 ((x.arcs.getD m default).src))])])))], pin := [] }) (fun e => e ≤ 2) (fun e => 2 - e) ⟨0, (by omega), (Wk.of rfl rfl (ai rfl (ai rfl (ai rfl (ai rfl (ai rfl (ai rfl (ai rfl (ai rfl (ai rfl (ai rfl (ai rfl (ai (vI a105) trivial)))))))))))) (ai rfl (ai rfl (ai rfl (ai rfl (ai (oR a10) (ai rfl trivial)))))))⟩ (fun e hp3 => ?_)
    obtain ⟨hv1, hv2, hv3⟩ := hw1.ins hen (c := (q.1.getD q.2 default)) (by rw [hwe]; exact List.mem_append_left _ (getD_mem (by omega))) (getD_mem (l := x.arcs) (j := m) (d := default) (by omega)) e hp3; have hvl := hv1.wl.len; obtain ⟨hvr, hve⟩ := hv2; have hvc : (cIn S (q.1.getD q.2 default) (cTo x S (q.1.getD q.2 default) q.1 m) (x.arcs.getD m default) e).getD q.2 default = (q.1.getD q.2 default) := (by rw [hve, hwe, List.append_assoc, getD_app (by omega)]); have hvs : q.2 < (cIn S (q.1.getD q.2 default) (cTo x S (q.1.getD q.2 default) q.1 m) (x.arcs.getD m default) e).length := (by rw [hve, hwe, List.append_assoc, List.length_append]; omega)
    refine T_seq (T_region hc (Ch.s (.d (.bool (decide ((e : Int) < ((2 : Nat) : Int))))) (iX rfl rfl rfl) (Ch.nil (T_seq ?_))))
    refine T_condD (p := ((e : Int) < ((2 : Nat) : Int))) rfl (fun h4 => ?_) (fun h4 => ?_)
    ·
     refine T_skip (T_seq (T_block (T_seq (T_region hc (Ch.s (.el 46000 2 e 0) (.pure (.idxRow _ _ _ 212 (e) rfl Tryz.underlying193 sz212 rfl rfl rfl rfl a81)) (Ch.s (.d (.agg [(.int .i64 ((([(Stp.mk ((x.arcs.getD m default).src) ((x.arcs.getD m default).dst)), (Stp.mk ((x.arcs.getD m default).dst) ((x.arcs.getD m default).src))]).getD e default).src)), (.int .i64 ((([(Stp.mk ((x.arcs.getD m default).src) ((x.arcs.getD m default).dst)), (Stp.mk ((x.arcs.getD m default).dst) ((x.arcs.getD m default).src))]).getD e default).dst))])) (.pure (.loadElA _ _ rfl ag212 sz212 rfl rfl (get_map (f := Stp.d) (l := [(Stp.mk ((x.arcs.getD m default).src) ((x.arcs.getD m default).dst)), (Stp.mk ((x.arcs.getD m default).dst) ((x.arcs.getD m default).src))]) a42) rfl)) (Ch.s (.ptr 12000 0) (.alloc 12000 _ rfl zer212) ?_)))))))
     refine Ch.s .junk (.storePtr _ _ _ rfl rfl rfl (.aggD _) sz212 (lb rfl)) (Ch.nil (T_seq ?_))
     refine T_regionD hc (by kernel_rfl) ?_
     refine ChD.s (.ptr 12000 0) [] (.pure (.fldPtr _ _ _ rfl fld212_0 rfl)) (ChD.s (.d (.int .i64 ((([(Stp.mk ((x.arcs.getD m default).src) ((x.arcs.getD m default).dst)), (Stp.mk ((x.arcs.getD m default).dst) ((x.arcs.getD m default).src))]).getD e default).src))) [12000] (.pure (.loadPtr1 _ _ rfl ag3 rfl rfl rfl)) (ChD.s (.row 7700) [7000] (.pure (.loadPtr1 _ _ rfl ag55 rfl rfl rfl)) (ChD.s (.d (.int .i64 (q.2 : Int))) [] pm (ChD.s (.el 7700 1 q.2 0) [7700] (.pure (.idxRow _ _ _ 3 (q.2) rfl Tryz.underlying55 sz3 rfl rfl rfl rfl a81)) (ChD.s (.d (.int .i64 ((cIn S (q.1.getD q.2 default) (cTo x S (q.1.getD q.2 default) q.1 m) (x.arcs.getD m default) e).getD q.2 default))) [7700] (.pure (.loadEl1 _ _ rfl ag3 rfl rfl get_mapA rfl rfl rfl)) (ChD.s (.d (.bool (decide (((([(Stp.mk ((x.arcs.getD m default).src) ((x.arcs.getD m default).dst)), (Stp.mk ((x.arcs.getD m default).dst) ((x.arcs.getD m default).src))]).getD e default).src) = ((cIn S (q.1.getD q.2 default) (cTo x S (q.1.getD q.2 default) q.1 m) (x.arcs.getD m default) e).getD q.2 default))))) [] (iX rfl rfl rfl) (ChD.s (.d (.bool (decide (((([(Stp.mk ((x.arcs.getD m default).src) ((x.arcs.getD m default).dst)), (Stp.mk ((x.arcs.getD m default).dst) ((x.arcs.getD m default).src))]).getD e default).src) = ((cIn S (q.1.getD q.2 default) (cTo x S (q.1.getD q.2 default) q.1 m) (x.arcs.getD m default) e).getD q.2 default))))) [] pm ?_)))))))
     cases h5 : (decide (((([(Stp.mk ((x.arcs.getD m default).src) ((x.arcs.getD m default).dst)), (Stp.mk ((x.arcs.getD m default).dst) ((x.arcs.getD m default).src))]).getD e default).src) = ((cIn S (q.1.getD q.2 default) (cTo x S (q.1.getD q.2 default) q.1 m) (x.arcs.getD m default) e).getD q.2 default))) with
     | true =>
      replace h5 := of_decide_eq_true h5
      refine ChD.s (.d (.slice false 1 (S.map (fun n : Int => D.int .i64 n)))) [] pm (ChD.s (.ptr 12000 1) [] (.pure (.fldPtr _ _ _ rfl fld212_1 rfl)) (ChD.s (.d (.int .i64 ((([(Stp.mk ((x.arcs.getD m default).src) ((x.arcs.getD m default).dst)), (Stp.mk ((x.arcs.getD m default).dst) ((x.arcs.getD m default).src))]).getD e default).dst))) [12000] (.pure (.loadPtr1 _ _ rfl ag3 rfl rfl rfl)) (ChD.s (.d (.bool (hasI S ((([(Stp.mk ((x.arcs.getD m default).src) ((x.arcs.getD m default).dst)), (Stp.mk ((x.arcs.getD m default).dst) ((x.arcs.getD m default).src))]).getD e default).dst)))) [] (.call 63000 160 _ _ _ en160 rfl (.inl rfl) (.cons (.d _) (.cons (.d _) .nil)) rfl rfl (sp_Contains_int S ((([(Stp.mk ((x.arcs.getD m default).src) ((x.arcs.getD m default).dst)), (Stp.mk ((x.arcs.getD m default).dst) ((x.arcs.getD m default).src))]).getD e default).dst) a39) (.skip _ _ (.skip _ _ .nil)) rfl) (ChD.s (.d (.bool (hasI S ((([(Stp.mk ((x.arcs.getD m default).src) ((x.arcs.getD m default).dst)), (Stp.mk ((x.arcs.getD m default).dst) ((x.arcs.getD m default).src))]).getD e default).dst)))) [] (.pure (.pickT _ _ _ rfl rfl rfl)) (ChD.s (.d (.bool (hasI S ((([(Stp.mk ((x.arcs.getD m default).src) ((x.arcs.getD m default).dst)), (Stp.mk ((x.arcs.getD m default).dst) ((x.arcs.getD m default).src))]).getD e default).dst)))) [] pm ?_)))))
      cases h6 : (hasI S ((([(Stp.mk ((x.arcs.getD m default).src) ((x.arcs.getD m default).dst)), (Stp.mk ((x.arcs.getD m default).dst) ((x.arcs.getD m default).src))]).getD e default).dst)) with
      | true =>
       refine ChD.s (.row 7700) [7000] (.pure (.loadPtr1 _ _ rfl ag55 rfl rfl rfl)) (ChD.s (.ptr 12000 1) [] (.pure (.fldPtr _ _ _ rfl fld212_1 rfl)) (ChD.s (.d (.int .i64 ((([(Stp.mk ((x.arcs.getD m default).src) ((x.arcs.getD m default).dst)), (Stp.mk ((x.arcs.getD m default).dst) ((x.arcs.getD m default).src))]).getD e default).dst))) [12000] (.pure (.loadPtr1 _ _ rfl ag3 rfl rfl rfl)) (ChD.s (.d (.bool (hasI (cIn S (q.1.getD q.2 default) (cTo x S (q.1.getD q.2 default) q.1 m) (x.arcs.getD m default) e) ((([(Stp.mk ((x.arcs.getD m default).src) ((x.arcs.getD m default).dst)), (Stp.mk ((x.arcs.getD m default).dst) ((x.arcs.getD m default).src))]).getD e default).dst)))) [7700] (.call 69000 160 _ _ _ en160 rfl (.inl rfl) (.cons (.lend (.row rfl (frozs_map (fun _ => rfl) _))) (.cons (.d _) .nil)) rfl rfl (sp_Contains_int (cIn S (q.1.getD q.2 default) (cTo x S (q.1.getD q.2 default) q.1 m) (x.arcs.getD m default) e) ((([(Stp.mk ((x.arcs.getD m default).src) ((x.arcs.getD m default).dst)), (Stp.mk ((x.arcs.getD m default).dst) ((x.arcs.getD m default).src))]).getD e default).dst) a39) (.skip _ _ (.skip _ _ .nil)) rfl) (ChD.s (.d (.bool (!(hasI (cIn S (q.1.getD q.2 default) (cTo x S (q.1.getD q.2 default) q.1 m) (x.arcs.getD m default) e) ((([(Stp.mk ((x.arcs.getD m default).src) ((x.arcs.getD m default).dst)), (Stp.mk ((x.arcs.getD m default).dst) ((x.arcs.getD m default).src))]).getD e default).dst))))) [] (.pure (.not _ _ rfl rfl)) (ChD.s (.d (.bool (!(hasI (cIn S (q.1.getD q.2 default) (cTo x S (q.1.getD q.2 default) q.1 m) (x.arcs.getD m default) e) ((([(Stp.mk ((x.arcs.getD m default).src) ((x.arcs.getD m default).dst)), (Stp.mk ((x.arcs.getD m default).dst) ((x.arcs.getD m default).src))]).getD e default).dst))))) [] (.pure (.pickT _ _ _ rfl rfl rfl)) ?_)))))
       refine ChD.nil (And.intro ?_ (by kernel_rfl))
       refine T_condN (b := (hasI (cIn S (q.1.getD q.2 default) (cTo x S (q.1.getD q.2 default) q.1 m) (x.arcs.getD m default) e) ((([(Stp.mk ((x.arcs.getD m default).src) ((x.arcs.getD m default).dst)), (Stp.mk ((x.arcs.getD m default).dst) ((x.arcs.getD m default).src))]).getD e default).dst))) rfl (fun h7 => ?_) (fun h7 => ?_)
       ·
        refine T_region hc (Ch.s (.row 7700) (.pure (.loadPtr1 _ _ rfl ag55 rfl rfl rfl)) (Ch.s (.ptr 12000 1) (.pure (.fldPtr _ _ _ rfl fld212_1 rfl)) (Ch.s (.d (.int .i64 ((([(Stp.mk ((x.arcs.getD m default).src) ((x.arcs.getD m default).dst)), (Stp.mk ((x.arcs.getD m default).dst) ((x.arcs.getD m default).src))]).getD e default).dst))) (.pure (.loadPtr1 _ _ rfl ag3 rfl rfl rfl)) (Ch.s (.row 75000) (.slice 75000 _ 3 _ rfl sty55 (xs := [.tmp 74]) rfl rfl (.cons (.d _) .nil) rfl rfl (by decide)) ?_))))
        refine Ch.step (v := (.row 76000)) rfl (.append 76000 _ _ _ 3 rfl sty55 (by decide) (.rowK rfl) (.inr ⟨_, rfl, rfl⟩) (.row rfl rfl) rfl a55) rfl rfl ?_
        refine Ch.s .junk (.storePtr _ _ _ rfl rfl rfl (.one _ rfl) sz55 (lb rfl)) (Ch.nil (T_region hc (Ch.s (.d (.int .i64 ((e : Int) + 1))) (iX rfl rfl intV_addA) (Ch.s (.d (.int .i64 ((e : Int) + 1))) pm (Ch.nil ?_)))))
        exact nx (e + 1) (by omega) (Wk.ren [(7700, 76000)] rfl rfl rfl rfl (ai rfl (ai rfl (ai rfl (ai rfl (ai rfl (ai rfl (ai rfl (ai rfl (ai rfl (ai rfl (ai rfl (ai (vI a105) trivial)))))))))))) (ai rfl (ai rfl (ai rfl (ai (oB (Eq.trans (b := [(.row 76000)]) rfl (by rfl))) (ai (oR a10) (ai rfl trivial)))))))
       ·
        refine T_skip (T_region hc (Ch.s (.d (.int .i64 ((e : Int) + 1))) (iX rfl rfl intV_addA) (Ch.s (.d (.int .i64 ((e : Int) + 1))) pm (Ch.nil ?_))))
        exact nx (e + 1) (by omega) (Wk.of rfl rfl (ai rfl (ai rfl (ai rfl (ai rfl (ai rfl (ai rfl (ai rfl (ai rfl (ai rfl (ai rfl (ai rfl (ai (vI a105) trivial)))))))))))) (ai rfl (ai rfl (ai rfl (ai rfl (ai (oR a10) (ai rfl trivial)))))))
      | false =>
       refine ChD.skip rfl rfl (ChD.skip rfl rfl (ChD.skip rfl rfl (ChD.skip rfl rfl (ChD.skip rfl rfl (ChD.s (.d (.bool false)) [] (.pure (.pickF _ _ _ rfl rfl rfl)) ?_)))))
       refine ChD.nil (And.intro ?_ (by kernel_rfl))
       refine T_cond (b := false) rfl (fun h => nomatch h) (fun _ => ?_)
       refine T_skip (T_region hc (Ch.s (.d (.int .i64 ((e : Int) + 1))) (iX rfl rfl intV_addA) (Ch.s (.d (.int .i64 ((e : Int) + 1))) pm (Ch.nil ?_))))
       exact nx (e + 1) (by omega) (Wk.of rfl rfl (ai rfl (ai rfl (ai rfl (ai rfl (ai rfl (ai rfl (ai rfl (ai rfl (ai rfl (ai rfl (ai rfl (ai (vI a105) trivial)))))))))))) (ai rfl (ai rfl (ai rfl (ai rfl (ai (oR a10) (ai rfl trivial)))))))
     | false =>
      replace h5 := of_decide_eq_false h5
      refine ChD.skip rfl rfl (ChD.skip rfl rfl (ChD.skip rfl rfl (ChD.skip rfl rfl (ChD.s (.d (.bool false)) [] (.pure (.pickF _ _ _ rfl rfl rfl)) (ChD.s (.d (.bool false)) [] pm (ChD.skip rfl rfl (ChD.skip rfl rfl ?_)))))))
      refine ChD.skip rfl rfl (ChD.skip rfl rfl (ChD.skip rfl rfl (ChD.s (.d (.bool false)) [] (.pure (.pickF _ _ _ rfl rfl rfl)) ?_)))
      refine ChD.nil (And.intro ?_ (by kernel_rfl))
      refine T_cond (b := false) rfl (fun h => nomatch h) (fun _ => ?_)
      refine T_skip (T_region hc (Ch.s (.d (.int .i64 ((e : Int) + 1))) (iX rfl rfl intV_addA) (Ch.s (.d (.int .i64 ((e : Int) + 1))) pm (Ch.nil ?_))))
      exact nx (e + 1) (by omega) (Wk.of rfl rfl (ai rfl (ai rfl (ai rfl (ai rfl (ai rfl (ai rfl (ai rfl (ai rfl (ai rfl (ai rfl (ai rfl (ai (vI a105) trivial)))))))))))) (ai rfl (ai rfl (ai rfl (ai rfl (ai (oR a10) (ai rfl trivial)))))))
    ·
     refine T_exit (T_region hc (Ch.s (.d (.int .i64 ((m : Int) + 1))) (iX rfl rfl intV_addA) (Ch.s (.d (.int .i64 ((m : Int) + 1))) pm (Ch.nil ?_))))
     exact nx (m + 1) (by omega) (Wk.of rfl rfl (ai rfl (ai rfl (ai rfl (ai rfl (ai rfl (ai rfl (ai rfl (ai rfl (ai (vI a105) trivial))))))))) (ai rfl (ai rfl (ai rfl (ai rfl (ai (oR a85) trivial))))))
   ·
    refine T_exit (T_region hc (Ch.s (.d (.int .i64 (q.2 : Int))) pm (Ch.s (.d (.int .i64 ((q.2 : Int) + 1))) (iX rfl rfl intV_addA) (Ch.s (.d (.int .i64 ((q.2 : Int) + 1))) pa (Ch.nil ?_)))))
    refine Exists.intro ((cTo x S (q.1.getD q.2 default) q.1 x.arcs.length, q.2 + 1)) (And.intro (hp1.step hen (by omega)) (And.intro (by dsimp only; omega) (Wk.of rfl rfl (ai rfl (ai rfl (ai rfl (ai rfl (ai rfl (ai (vI a105) trivial)))))) (ai rfl (ai rfl (ai rfl (ai rfl (ai (oR (by first | rfl | (rw [show m = x.arcs.length by omega]))) trivial))))))))
  ·
   try have hqe := hp1.end hso hlh.2.1 hlh.2.2.1 (by omega)
   try have hol2 : (tidI q.1).length ≤ 1048576 := by (have := tid_len leI q.1; unfold tidI; omega)
   refine T_exit (T_seq (T_region hc (Ch.s (.row 5) pm (Ch.s (.row 7700) (.pure (.loadPtr1 _ _ rfl ag55 rfl rfl rfl)) ?_))))
   refine Ch.heads 7700 7000002 rfl rfl (fun u1 => ?_)
   refine Ch.step (v := (.d (.hole u1))) rfl (.callU (m := 7000002) 81000 123 _ _ _ en123 rfl (.inl rfl) (.cons (.row rfl) .nil) rfl (sol rfl (solids_c (solid_row (fun _ => rfl) _) rfl)) (sp_tidyU u1 q.1 (by omega) hp1.nod) rfl rfl (.row _ _ _ .nil) rfl) rfl rfl ?_
   refine Ch.s (.row 82000) (.slice 82000 _ 55 _ rfl sty49 (xs := [.tmp 81]) rfl rfl (.cons (.d _) .nil) rfl rfl (by decide)) ?_
   refine Ch.step (v := (.row 83000)) rfl (.append 83000 _ _ _ 55 rfl sty49 (by decide) (.rowK rfl) (.inr ⟨_, rfl, rfl⟩) (.row rfl rfl) rfl a55) rfl rfl ?_
   refine Ch.s (.row 83000) pa (Ch.nil (T_region hc (Ch.s (.row 6) pm (Ch.s (.fn 216 [(.ptr 7000 0)]) (.pure (.func _ _ rfl rfl)) ?_))))
   refine Ch.step (v := (.row 86000)) rfl (.call 86000 215 _ _ _ en215 rfl (.inl rfl) (.cons (.row rfl) (.cons (.lend (.fn (.cons (.ptr rfl (.one (.row rfl (frozs_map (fun _ => rfl) _)) rfl)) .nil))) .nil)) rfl (sol (solid_row (fun _ => rfl) _) rfl) (sp_DeleteFunc_int (leftF S x.arcs x.codes.length B) 216 [(.ref (.slice false 1 ((tidI q.1).map (fun n : Int => D.int .i64 n))))] (hasI (tidI q.1)) en216 (fun k _ => sp_impl_components_1 k (tidI q.1) a113) a39) (.skip _ _ (.skip _ _ .nil)) rfl) rfl rfl ?_
   refine Ch.s (.row 86000) pa (Ch.nil ?_)
   exact nx (((leftF S x.arcs x.codes.length B).getD 0 default).toNat + 1) (by omega) (Wk.trans (Wk.give 83000 ((regTo S x.arcs x.codes.length B).length) 7700 7000002 rfl (get_last (by simp)) rfl rfl rfl (set_last (by simp))) (Wk.ren [(5, 83000), (6, 86000)] rfl rfl rfl rfl (ai rfl (ai rfl (ai rfl (ai rfl trivial)))) (ai (oR a99) (ai (oR a65) (ai rfl trivial)))))
 ·
  try have hlh := left_head hso (B := B) (by omega)
  try have hla := hlh.2.2.1
  refine T_exit (T_seq (T_region hc (Ch.s (.row 5) pm (Ch.s (.row 5) pa (Ch.nil (T_ret ?_))))))
  exact endR [(.row 5)] [] [5] (.cons (.tmp 4 rfl) .nil) (.cons (.any _) (.cons (.any _) .nil)) (Exp.of (congrArg (D.slice true 1) (by exact congrArg (List.map _) (left_end hso hp0 (by omega)))) (.row rfl)) rfl rfl

theorem sp_impl_excitationRegions (x : Sgr) (sig : Int) (up : Bool) (hb : x.bulk ≤ 1048576) (hx : SgOk x) : Sp Tryz.prog 88 [(.agg [(.slice false 2 (x.sigs.map Sgn.d)), (.slice false 1 (x.codes.map D.str)), (.slice false 4 (x.arcs.map Arc.d))]), (.int .i64 sig), (.bool (up))] [.any, .any, .any] (.slice true 1 ((exR x sig up).map intsU)) := by
 refine Sp_intro (lend := true) Tryz.func88 rfl rfl rfl (fun _ => rfl) (fun c hc hX => ?_)
 obtain ⟨hp0, hp1, hp2⟩ := Sgr.parts hb
 have hn0 := bulkF_len hp0
 have hn1 := bulk_len hp1
 have hx1 := bulk_mem hp1
 have hn2 := bulkF_len hp2; have hel : (excS x sig up).length ≤ 1048576 := Nat.le_trans (excTo_le x sig up x.arcs.length) hn1
 refine T_seq (T_region hc (Ch.s (.ptr 3000 0) (.box 3000 _ _ rfl (.aggD _)) (Ch.s (.c (.slice none 0 0)) pa (Ch.nil (T_seq ?_)))))
 refine T_regionD hc (by kernel_rfl) ?_
 refine ChD.s (.agg (vX x)) [3000] (.pure (.loadPtrA _ _ rfl ag35 sz35 rfl rfl (lb rfl) rfl)) (ChD.s (.agg (vX x)) [3000] (.pure (.loadPtrA _ _ rfl ag35 sz35 rfl rfl (lb rfl) rfl)) (ChD.s (.d (.int .i64 sig)) [] pm (ChD.s (.d (.bool (up))) [] pm (ChD.s (.agg [(.d (.int .i64 sig)), (.d (.bool (up)))]) [] (.build _ _ rfl stru107 (.cons (.one _ rfl) (.cons (.one _ rfl) .nil)) rfl) (ChD.s (.row 12000) [] (.call 12000 156 _ _ _ en156 rfl (.inl rfl) (.cons lX (.cons (.lend (.agg (.cons (.d _) (.cons (.d _) .nil)) rfl)) .nil)) rfl (sol (solid_row (fun _ => rfl) _) rfl) (sp_impl_excited x (Lab.mk sig up) a39 (by assumption)) (.skip _ _ (.skip _ _ .nil)) rfl) (ChD.s (.row 13000) [12000] (.call 13000 155 _ _ _ en155 rfl (.inl rfl) (.cons lX (.cons (.lend (.row rfl (frozs_map (fun _ => rfl) _))) .nil)) rfl (sol (solid_row intsU_sol _) rfl) (sp_impl_components x (excS x (Lab.mk sig up).sig (Lab.mk sig up).up) a39 (by assumption) (by first | assumption | exact setok hx _ _) a39) (.skip _ _ (.skip _ _ .nil)) rfl) (ChD.s (.row 13000) [] pa ?_)))))))
 refine ChD.nil (And.intro ?_ (by kernel_rfl))
 refine T_ret ?_
 exact endR [(.row 13000)] [] [13000] (.cons (.tmp 6 rfl) .nil) (.cons (.any _) (.cons (.any _) (.cons (.any _) .nil))) (Exp.of (congrArg (D.slice true 1) (by rfl)) (.row rfl)) rfl rfl

theorem sp_impl_ExcitationRegions (x : Sgr) (sig : Int) (up : Bool) (hb : x.bulk ≤ 1048576) : Sp Tryz.prog 33 [(.agg [(.slice false 2 (x.sigs.map Sgn.d)), (.slice false 1 (x.codes.map D.str)), (.slice false 4 (x.arcs.map Arc.d))]), (.int .i64 sig), (.bool (up))] [.any, .any, .any] (.tup [(.slice true 1 ((exV x sig up).map intsU)), (.bool (exB x sig))]) := by
 refine Sp_intro (lend := true) Tryz.func33 rfl rfl rfl (fun _ => rfl) (fun c hc hX => ?_)
 obtain ⟨hp0, hp1, hp2⟩ := Sgr.parts hb
 have hn0 := bulkF_len hp0
 have hn1 := bulk_len hp1
 have hx1 := bulk_mem hp1
 have hn2 := bulkF_len hp2
 refine T_seq (T_region hc (Ch.s (.ptr 3000 0) (.box 3000 _ _ rfl (.aggD _)) (Ch.s (.c (.slice none 0 0)) pa (Ch.s (.d (.bool false)) pa (Ch.nil (T_seq (T_seq ?_)))))))
 refine T_region hc (Ch.s (.agg (vX x)) (.pure (.loadPtrA _ _ rfl ag35 sz35 rfl rfl (lb rfl) rfl)) (Ch.s (.d (.int .i64 sig)) pm (Ch.s (.d (.bool (exB x sig))) (.call 10000 87 _ _ _ en87 rfl (.inl rfl) (.cons lX (.cons (.d _) .nil)) rfl rfl (sp_impl_hasOutput x sig a39) (.skip _ _ (.skip _ _ .nil)) rfl) (Ch.s (.d (.bool (!(exB x sig)))) (.pure (.not _ _ rfl rfl)) (Ch.nil ?_)))))
 refine T_condN (b := (exB x sig)) rfl (fun h1 => ?_) (fun h1 => ?_)
 ·
  try have hxo := exB_has h1
  try have hx := hxo.1
  try have hs := hxo.2
  refine T_seq (T_region hc (Ch.s (.c (.slice none 0 0)) pa (Ch.s (.d (.bool false)) pa (Ch.nil (T_ret ?_)))))
  exact endR [(.c (.slice none 0 0)), (.d (.bool false))] [] [] (.cons (.tmp 6 rfl) (.cons (.tmp 7 rfl) .nil)) (.cons (.any _) (.cons (.any _) (.cons (.any _) .nil))) (.tup (.cons (Exp.of (congrArg (D.slice true 1) a87) (.nil true 1)) (.cons (Exp.of (congrArg D.bool a87) (.d _)) .nil))) rfl rfl
 ·
  try have hxo := exB_has h1
  try have hx := hxo.1
  try have hs := hxo.2
  refine T_skip (T_seq (T_region hc (Ch.s (.agg (vX x)) (.pure (.loadPtrA _ _ rfl ag35 sz35 rfl rfl (lb rfl) rfl)) (Ch.s (.d (.int .i64 sig)) pm (Ch.s (.d (.bool (up))) pm ?_)))))
  refine Ch.step (v := (.row 15000)) rfl (.call 15000 88 _ _ _ en88 rfl (.inl rfl) (.cons lX (.cons (.d _) (.cons (.d _) .nil))) rfl (sol (solid_row intsU_sol _) rfl) (sp_impl_excitationRegions x sig (up) a39 (by assumption)) (.skip _ _ (.skip _ _ (.skip _ _ .nil))) rfl) rfl rfl ?_
  refine Ch.s (.row 15000) pa (Ch.s (.d (.bool true)) pa (Ch.nil (T_ret ?_)))
  exact endR [(.row 15000), (.d (.bool true))] [] [15000] (.cons (.tmp 6 rfl) (.cons (.tmp 7 rfl) .nil)) (.cons (.any _) (.cons (.any _) (.cons (.any _) .nil))) (.tup (.cons (Exp.of (congrArg (D.slice true 1) a87) (.row rfl)) (.cons (Exp.of (congrArg D.bool a87) (.d _)) .nil))) rfl rfl

theorem en159 : Enters Tryz.prog 159 := ⟨_, Tryz.func159, by kernel_rfl, rfl⟩

theorem en157 : Enters Tryz.prog 157 := ⟨_, Tryz.func157, by kernel_rfl, rfl⟩

theorem en92 : Enters Tryz.prog 92 := ⟨_, Tryz.func92, by kernel_rfl, rfl⟩

theorem en90 : Enters Tryz.prog 90 := ⟨_, Tryz.func90, by kernel_rfl, rfl⟩

theorem en37 : Enters Tryz.prog 37 := ⟨_, Tryz.func37, by kernel_rfl, rfl⟩

theorem en38 : Enters Tryz.prog 38 := ⟨_, Tryz.func38, by kernel_rfl, rfl⟩

theorem en128 : Enters Tryz.prog 128 := ⟨_, Tryz.func128, by kernel_rfl, rfl⟩

theorem en126 : Enters Tryz.prog 126 := ⟨_, Tryz.func126, by kernel_rfl, rfl⟩

theorem en56 : Enters Tryz.prog 56 := ⟨_, Tryz.func56, by kernel_rfl, rfl⟩

theorem en57 : Enters Tryz.prog 57 := ⟨_, Tryz.func57, by kernel_rfl, rfl⟩

theorem sp_quiescent_1 (k : Int) (x : Sgr) (l : Lab) (o : List Int) (hb : x.bulk ≤ 1048576) (ho : o.length ≤ 1048576) : Sp Tryz.prog 159 [(.int .i64 k), (.ref (.agg [(.slice false 2 (x.sigs.map Sgn.d)), (.slice false 1 (x.codes.map D.str)), (.slice false 4 (x.arcs.map Arc.d))])), (.ref (.agg [(.int .i64 l.sig), (.bool (l.up))])), (.box [(.slice true 1 (o.map (fun n : Int => D.int .i64 n)))])] [.any, .any, .any, (.box [(.slice true 1 ((addQ x l.sig o k).map (fun n : Int => D.int .i64 n)))])] (.tup []) := by
 refine Sp_intro (lend := false) Tryz.func159 rfl rfl rfl (fun h => nomatch h) (fun c hc hX => ?_)
 refine T_open 1 8000010 rfl rfl rfl ?_
 obtain ⟨hp0, hp1, hp2⟩ := Sgr.parts hb
 have hn0 := bulkF_len hp0
 have hn1 := bulk_len hp1
 have hx1 := bulk_mem hp1
 have hn2 := bulkF_len hp2
 refine T_seq (T_region hc (Ch.s (.d (.agg [(.slice false 2 (x.sigs.map Sgn.d)), (.slice false 1 (x.codes.map D.str)), (.slice false 4 (x.arcs.map Arc.d))])) (.pure (.loadRefA _ _ rfl ag35 sz35 rfl)) (Ch.s (.d (.int .i64 k)) pm (Ch.s (.d (.ref (.int .i64 l.sig))) (.pure (.fldRef _ _ _ rfl fld107_0 rfl rfl rfl)) (Ch.s (.d (.int .i64 l.sig)) (.pure (.loadRef1 _ _ rfl ag3 rfl rfl)) (Ch.s (.d (.bool (excB x k l.sig))) (.call 9000 141 _ _ _ en141 rfl (.inl rfl) (.cons (.d _) (.cons (.d _) (.cons (.d _) .nil))) rfl rfl (sp_impl_isExcited x k l.sig a39) (.skip _ _ (.skip _ _ (.skip _ _ .nil))) rfl) (Ch.s (.d (.bool (!(excB x k l.sig)))) (.pure (.not _ _ rfl rfl)) ?_)))))))
 refine Ch.s (.d (.bool (!(excB x k l.sig)))) pm ?_
 cases h1 : (excB x k l.sig) with
 | true =>
  refine Ch.skip rfl rfl (Ch.skip rfl rfl (Ch.skip rfl rfl (Ch.skip rfl rfl (Ch.s (.d (.bool false)) (.pure (.pickF _ _ _ rfl rfl rfl)) (Ch.nil ?_)))))
  refine T_cond (b := false) rfl (fun h => nomatch h) (fun _ => ?_)
  refine T_skip ?_
  exact endN [] [1, 8000010] [] .nil (.cons (.any _) (.cons (.any _) (.cons (.any _) (.cons (.box rfl (.cons (Exp.of (congrArg (D.slice true 1) a38) (.row rfl)) .nil) rfl) .nil)))) (.tup .nil) rfl rfl
 | false =>
  refine Ch.s (.row 8000010) (.pure (.loadPtr1 _ _ rfl ag55 rfl rfl rfl)) (Ch.s (.d (.int .i64 k)) pm (Ch.s (.d (.bool (hasI o k))) (.call 14000 160 _ _ _ en160 rfl (.inl rfl) (.cons (.lend (.row rfl (frozs_map (fun _ => rfl) _))) (.cons (.d _) .nil)) rfl rfl (sp_Contains_int o k a39) (.skip _ _ (.skip _ _ .nil)) rfl) (Ch.s (.d (.bool (!(hasI o k)))) (.pure (.not _ _ rfl rfl)) (Ch.s (.d (.bool (!(hasI o k)))) (.pure (.pickT _ _ _ rfl rfl rfl)) (Ch.nil ?_)))))
  refine T_condN (b := (hasI o k)) rfl (fun h2 => ?_) (fun h2 => ?_)
  ·
   refine T_region hc (Ch.s (.row 8000010) (.pure (.loadPtr1 _ _ rfl ag55 rfl rfl rfl)) (Ch.s (.d (.int .i64 k)) pm (Ch.s (.row 19000) (.slice 19000 _ 3 _ rfl sty55 (xs := [.tmp 18]) rfl rfl (.cons (.d _) .nil) rfl rfl (by decide)) ?_)))
   refine Ch.step (v := (.row 20000)) rfl (.append 20000 _ _ _ 3 rfl sty55 (by decide) (.rowK rfl) (.inr ⟨_, rfl, rfl⟩) (.row rfl rfl) rfl a55) rfl rfl ?_
   refine Ch.s .junk (.storePtr _ _ _ rfl rfl rfl (.one _ rfl) sz55 (lb rfl)) (Ch.nil ?_)
   exact endN [] [1, 20000] [] .nil (.cons (.any _) (.cons (.any _) (.cons (.any _) (.cons (.box rfl (.cons (Exp.of (congrArg (D.slice true 1) a38) (.row rfl)) .nil) rfl) .nil)))) (.tup .nil) rfl rfl
  ·
   refine T_skip ?_
   exact endN [] [1, 8000010] [] .nil (.cons (.any _) (.cons (.any _) (.cons (.any _) (.cons (.box rfl (.cons (Exp.of (congrArg (D.slice true 1) a38) (.row rfl)) .nil) rfl) .nil)))) (.tup .nil) rfl rfl

set_option maxHeartbeats 2000000 in
theorem sp_impl_quiescent (x : Sgr) (l : Lab) (r : List Int) (hb : x.bulk ≤ 1048576) (hx : SgOk x) (h0 : 0 ≤ l.sig) (hr : ∀ a ∈ r, (0 ≤ a ∧ a.toNat < x.codes.length) ∧ a ∈ excS x l.sig l.up) (hrl : r.length ≤ 1048576) : Sp Tryz.prog 92 [(.agg [(.slice false 2 (x.sigs.map Sgn.d)), (.slice false 1 (x.codes.map D.str)), (.slice false 4 (x.arcs.map Arc.d))]), (.agg [(.int .i64 l.sig), (.bool (l.up))]), (.slice false 1 (r.map (fun n : Int => D.int .i64 n)))] [.any, .any, .any] (.slice true 1 ((quietL x l.sig r).map (fun n : Int => D.int .i64 n))) := by
 refine Sp_intro (lend := true) Tryz.func92 rfl rfl rfl (fun _ => rfl) (fun c hc hX => ?_)
 obtain ⟨hp0, hp1, hp2⟩ := Sgr.parts hb
 have hn0 := bulkF_len hp0
 have hn1 := bulk_len hp1
 have hx1 := bulk_mem hp1
 have hn2 := bulkF_len hp2; have hxl := hx.len; have hxf := hx.few; have hen := hx.ends; have hx8 := hx.eight
 refine T_seq (T_region hc (Ch.s (.ptr 3000 0) (.box 3000 _ _ rfl (.aggD _)) (Ch.s (.ptr 4000 0) (.box 4000 _ _ rfl (.aggD _)) (Ch.s (.c (.slice none 0 0)) pa (Ch.nil (T_seq (T_region hc ?_)))))))
 refine Ch.s (.row 14000) (.slice 14000 _ 3 _ rfl sty55 (xs := []) rfl rfl .nil rfl rfl (by decide)) (Ch.s (.ptr 7000 0) (.alloc 7000 _ rfl zer55) (Ch.s .junk (.storePtr _ _ _ rfl rfl rfl (.one _ rfl) sz55 (lb rfl)) (Ch.nil (T_seq (T_region hc (Ch.s (.fn 159 [(.ptr 3000 0), (.ptr 4000 0), (.ptr 7000 0)]) (.pure (.func _ _ rfl rfl)) (Ch.s (.fn 159 [(.ptr 3000 0), (.ptr 4000 0), (.ptr 7000 0)]) pa ?_)))))))
 refine Ch.nil (T_seq (T_seq (T_region hc (Ch.s (.ptr 3000 2) (.pure (.fldPtr _ _ _ rfl fld35_2 rfl)) (Ch.s (.d (.slice false 4 (x.arcs.map Arc.d))) (.pure (.loadPtr1 _ _ rfl ag33 rfl rfl rfl)) (Ch.s (.d (.int .i64 (x.arcs.length : Int))) (.pure (.len _ _ 125 rfl Tryz.underlying33 (.sh _ _) (by simp))) (Ch.s (.d (.int .i64 0)) pm ?_)))))))
 refine Ch.nil (T_block ?_)
 refine T_loop (ι := Nat) (fun k => { n := 65, sl := [(2, (.d (.slice false 1 (r.map (fun n : Int => D.int .i64 n))))), (3, (.ptr 3000 0)), (4, (.ptr 4000 0)), (7, (.ptr 7000 0)), (8, (.fn 159 [(.ptr 3000 0), (.ptr 4000 0), (.ptr 7000 0)])), (17, (.d (.slice false 4 (x.arcs.map Arc.d)))), (18, (.d (.int .i64 (x.arcs.length : Int)))), (19, (.d (.int .i64 (k : Int))))], hp := [(3000, (some (.box (vX x)))), (4000, (some (.box [(.d (.int .i64 l.sig)), (.d (.bool (l.up)))]))), (7000, (some (.box [(.row 7700)]))), (7700, (some (.row 1 ((q0To x l r k).map (fun n : Int => D.int .i64 n)))))], pin := [] }) (fun k => k ≤ x.arcs.length) (fun k => x.arcs.length - k) ⟨0, (by omega), (Wk.ren [(7700, 14000)] rfl rfl rfl rfl (ai rfl (ai rfl (ai rfl (ai rfl (ai rfl (ai rfl (ai rfl (ai (vI a105) trivial)))))))) (ai rfl (ai rfl (ai (oB (Eq.trans (b := [(.row 14000)]) rfl (by rfl))) (ai (oR a9) trivial)))))⟩ (fun k hp0 => ?_)
 have hq0 := (q0To_ok (x := x) (l := l) (r := r) k hp0).2.2
 refine T_seq (T_region hc (Ch.s (.d (.bool (decide ((k : Int) < (x.arcs.length : Int))))) (iX rfl rfl rfl) (Ch.nil (T_seq ?_))))
 refine T_condD (p := ((k : Int) < (x.arcs.length : Int))) rfl (fun h1 => ?_) (fun h1 => ?_)
 ·
  refine T_skip (T_seq (T_block (T_seq (T_region hc (Ch.s (.d (.ref (.agg [(.int .i64 ((x.arcs.getD k default).src)), (.int .i64 ((x.arcs.getD k default).sig)), (.bool ((x.arcs.getD k default).up)), (.int .i64 ((x.arcs.getD k default).dst))]))) (.pure (.idx _ _ _ 125 (k) rfl Tryz.underlying33 sz125 rfl rfl rfl get_mapA)) (Ch.s (.d (.agg [(.int .i64 ((x.arcs.getD k default).src)), (.int .i64 ((x.arcs.getD k default).sig)), (.bool ((x.arcs.getD k default).up)), (.int .i64 ((x.arcs.getD k default).dst))])) (.pure (.loadRefA _ _ rfl ag125 sz125 rfl)) (Ch.s (.ptr 10000 0) (.alloc 10000 _ rfl zer125) ?_)))))))
  refine Ch.s .junk (.storePtr _ _ _ rfl rfl rfl (.aggD _) sz125 (lb rfl)) (Ch.nil (T_seq ?_))
  refine T_regionD hc (by kernel_rfl) ?_
  refine ChD.s (.agg [(.d (.int .i64 ((x.arcs.getD k default).src))), (.d (.int .i64 ((x.arcs.getD k default).sig))), (.d (.bool ((x.arcs.getD k default).up))), (.d (.int .i64 ((x.arcs.getD k default).dst)))]) [10000] (.pure (.loadPtrA _ _ rfl ag125 sz125 rfl rfl (lb rfl) rfl)) (ChD.s (.d (.agg [(.int .i64 ((Lab.mk (x.arcs.getD k default).sig (x.arcs.getD k default).up).sig)), (.bool ((Lab.mk (x.arcs.getD k default).sig (x.arcs.getD k default).up).up))])) [] (.call 24000 161 _ _ _ en161 rfl (.inl rfl) (.cons (.lend (.agg (.cons (.d _) (.cons (.d _) (.cons (.d _) (.cons (.d _) .nil)))) rfl)) .nil) rfl rfl (sp_impl_labelOfArc (x.arcs.getD k default)) (.skip _ _ .nil) rfl) (ChD.s (.agg [(.d (.int .i64 l.sig)), (.d (.bool (l.up)))]) [4000] (.pure (.loadPtrA _ _ rfl ag107 sz107 rfl rfl (lb rfl) rfl)) (ChD.s (.d (.bool (decide ((Lab.mk (x.arcs.getD k default).sig (x.arcs.getD k default).up) = l)))) [] (.pure (.eqA _ _ _ _ rfl (eqa107 _ _ _ _) (.d _) (.v [(.int .i64 l.sig), (.bool (l.up))]) (Lab.eqv (Lab.mk (x.arcs.getD k default).sig (x.arcs.getD k default).up) l))) (ChD.s (.d (.bool (decide ((Lab.mk (x.arcs.getD k default).sig (x.arcs.getD k default).up) = l)))) [] pm ?_))))
  cases h2 : (decide ((Lab.mk (x.arcs.getD k default).sig (x.arcs.getD k default).up) = l)) with
  | true =>
   replace h2 := of_decide_eq_true h2
   refine ChD.s (.d (.slice false 1 (r.map (fun n : Int => D.int .i64 n)))) [] pm (ChD.s (.ptr 10000 0) [] (.pure (.fldPtr _ _ _ rfl fld125_0 rfl)) (ChD.s (.d (.int .i64 ((x.arcs.getD k default).src))) [10000] (.pure (.loadPtr1 _ _ rfl ag3 rfl rfl rfl)) (ChD.s (.d (.bool (hasI r ((x.arcs.getD k default).src)))) [] (.call 31000 160 _ _ _ en160 rfl (.inl rfl) (.cons (.d _) (.cons (.d _) .nil)) rfl rfl (sp_Contains_int r ((x.arcs.getD k default).src) a39) (.skip _ _ (.skip _ _ .nil)) rfl) (ChD.s (.d (.bool (hasI r ((x.arcs.getD k default).src)))) [] (.pure (.pickT _ _ _ rfl rfl rfl)) ?_))))
   refine ChD.nil (And.intro ?_ (by kernel_rfl))
   refine T_cond (b := (hasI r ((x.arcs.getD k default).src))) rfl (fun h3 => ?_) (fun h3 => ?_)
   ·
    refine T_region hc (Ch.s (.fn 159 [(.ptr 3000 0), (.ptr 4000 0), (.ptr 7000 0)]) pm (Ch.s (.ptr 10000 3) (.pure (.fldPtr _ _ _ rfl fld125_3 rfl)) (Ch.s (.d (.int .i64 ((x.arcs.getD k default).dst))) (.pure (.loadPtr1 _ _ rfl ag3 rfl rfl rfl)) ?_)))
    refine Ch.step (v := (.tup [])) rfl (.call 36000 159 _ _ _ en159 rfl (.inl rfl) (.cons (.d _) (.cons (.lend (.ptr rfl (.agg (.cons (.d _) (.cons (.d _) (.cons (.d _) .nil))) rfl))) (.cons (.lend (.ptr rfl (.agg (.cons (.d _) (.cons (.d _) .nil)) rfl))) (.cons (.box rfl (.cons (.row rfl) .nil) rfl) .nil)))) rfl (sol rfl (solids_c rfl (solids_c rfl (solids_c rfl (solids_c a98 rfl))))) (sp_quiescent_1 ((x.arcs.getD k default).dst) x l (q0To x l r k) a39 a39) (.skip _ _ (.skip _ _ (.skip _ _ (.box _ _ .nil)))) rfl) rfl rfl ?_
    refine Ch.opens 7000 8000010 rfl rfl rfl ?_
    refine Ch.nil (T_region hc (Ch.s (.d (.int .i64 ((k : Int) + 1))) (iX rfl rfl intV_addA) (Ch.s (.d (.int .i64 ((k : Int) + 1))) pm (Ch.nil ?_))))
    exact nx (k + 1) (by omega) (Wk.ren [(7700, 8000010)] rfl rfl rfl rfl (ai rfl (ai rfl (ai rfl (ai rfl (ai rfl (ai rfl (ai rfl (ai (vI a105) trivial)))))))) (ai rfl (ai rfl (ai (oB (Eq.trans (b := [(.row 8000010)]) rfl (by rfl))) (ai (oR a9) trivial)))))
   ·
    refine T_skip (T_region hc (Ch.s (.d (.int .i64 ((k : Int) + 1))) (iX rfl rfl intV_addA) (Ch.s (.d (.int .i64 ((k : Int) + 1))) pm (Ch.nil ?_))))
    exact nx (k + 1) (by omega) (Wk.of rfl rfl (ai rfl (ai rfl (ai rfl (ai rfl (ai rfl (ai rfl (ai rfl (ai (vI a105) trivial)))))))) (ai rfl (ai rfl (ai rfl (ai (oR a9) trivial)))))
  | false =>
   replace h2 := of_decide_eq_false h2
   refine ChD.skip rfl rfl (ChD.skip rfl rfl (ChD.skip rfl rfl (ChD.skip rfl rfl (ChD.s (.d (.bool false)) [] (.pure (.pickF _ _ _ rfl rfl rfl)) ?_))))
   refine ChD.nil (And.intro ?_ (by kernel_rfl))
   refine T_cond (b := false) rfl (fun h => nomatch h) (fun _ => ?_)
   refine T_skip (T_region hc (Ch.s (.d (.int .i64 ((k : Int) + 1))) (iX rfl rfl intV_addA) (Ch.s (.d (.int .i64 ((k : Int) + 1))) pm (Ch.nil ?_))))
   exact nx (k + 1) (by omega) (Wk.of rfl rfl (ai rfl (ai rfl (ai rfl (ai rfl (ai rfl (ai rfl (ai rfl (ai (vI a105) trivial)))))))) (ai rfl (ai rfl (ai rfl (ai (oR a9) trivial)))))
 ·
  refine T_exit (T_seq (T_seq (T_region hc (Ch.s (.d (.int .i64 0)) pa (Ch.nil (T_block ?_))))))
  refine T_loop (ι := List Int × Nat) (fun q => { n := 65, sl := [(3, (.ptr 3000 0)), (7, (.ptr 7000 0)), (8, (.fn 159 [(.ptr 3000 0), (.ptr 4000 0), (.ptr 7000 0)])), (11, (.d (.int .i64 (q.2 : Int))))], hp := [(3000, (some (.box (vX x)))), (4000, (some (.box [(.d (.int .i64 l.sig)), (.d (.bool (l.up)))]))), (7000, (some (.box [(.row 7700)]))), (7700, (some (.row 1 (q.1.map (fun n : Int => D.int .i64 n)))))], pin := [] }) (fun q => QLoop x l r q) (fun q => x.codes.length - q.2) ⟨(q0To x l r x.arcs.length, 0), (QLoop.zero hen l r), (Wk.of rfl rfl (ai rfl (ai rfl (ai rfl (ai (vI a105) trivial)))) (ai rfl (ai rfl (ai rfl (ai (oR a77) trivial)))))⟩ (fun q hp1 => ?_)
  have hol := hp1.inv.len
  refine T_seq (T_seq (T_region hc (Ch.s (.d (.int .i64 (q.2 : Int))) pm (Ch.s (.row 7700) (.pure (.loadPtr1 _ _ rfl ag55 rfl rfl rfl)) (Ch.s (.d (.int .i64 (q.1.length : Int))) (.pure (.len _ _ 3 rfl Tryz.underlying55 (.row rfl) (by simp))) (Ch.s (.d (.bool (decide ((q.2 : Int) < (q.1.length : Int))))) (iX rfl rfl rfl) (Ch.nil ?_)))))))
  refine T_condD (p := ((q.2 : Int) < (q.1.length : Int))) rfl (fun h4 => ?_) (fun h4 => ?_)
  ·
   refine T_skip (T_seq (T_block (T_seq (T_region hc (Ch.s (.ptr 3000 2) (.pure (.fldPtr _ _ _ rfl fld35_2 rfl)) (Ch.s (.d (.slice false 4 (x.arcs.map Arc.d))) (.pure (.loadPtr1 _ _ rfl ag33 rfl rfl rfl)) (Ch.s (.d (.int .i64 (x.arcs.length : Int))) (.pure (.len _ _ 125 rfl Tryz.underlying33 (.sh _ _) (by simp))) ?_)))))))
   refine Ch.s (.d (.int .i64 0)) pm (Ch.nil (T_block ?_))
   refine T_loop (ι := Nat) (fun m => { n := 65, sl := [(3, (.ptr 3000 0)), (7, (.ptr 7000 0)), (8, (.fn 159 [(.ptr 3000 0), (.ptr 4000 0), (.ptr 7000 0)])), (11, (.d (.int .i64 (q.2 : Int)))), (45, (.d (.slice false 4 (x.arcs.map Arc.d)))), (46, (.d (.int .i64 (x.arcs.length : Int)))), (47, (.d (.int .i64 (m : Int))))], hp := [(3000, (some (.box (vX x)))), (4000, (some (.box [(.d (.int .i64 l.sig)), (.d (.bool (l.up)))]))), (7000, (some (.box [(.row 7700)]))), (7700, (some (.row 1 ((q1To x l.sig (q.1.getD q.2 default) q.1 m).map (fun n : Int => D.int .i64 n)))))], pin := [] }) (fun m => m ≤ x.arcs.length) (fun m => x.arcs.length - m) ⟨0, (by omega), (Wk.of rfl rfl (ai rfl (ai rfl (ai rfl (ai rfl (ai rfl (ai rfl (ai (vI a105) trivial))))))) (ai rfl (ai rfl (ai rfl (ai (oR a43) trivial)))))⟩ (fun m hp2 => ?_)
   obtain ⟨hw1, ⟨hwr, hwe⟩, hw3⟩ := qw_tos hen hp1.inv (getD_mem (l := q.1) (j := q.2) (d := default) (by omega)) m hp2; have hwl := hw1.len; have hvs : q.2 < (q1To x l.sig (q.1.getD q.2 default) q.1 m).length := (by rw [hwe, List.length_append]; omega); have hvc : (q1To x l.sig (q.1.getD q.2 default) q.1 m).getD q.2 default = (q.1.getD q.2 default) := (by rw [hwe, getD_app (by omega)])
   refine T_seq (T_region hc (Ch.s (.d (.bool (decide ((m : Int) < (x.arcs.length : Int))))) (iX rfl rfl rfl) (Ch.nil (T_seq ?_))))
   refine T_condD (p := ((m : Int) < (x.arcs.length : Int))) rfl (fun h5 => ?_) (fun h5 => ?_)
   ·
    refine T_skip (T_seq (T_block (T_seq (T_region hc (Ch.s (.d (.ref (.agg [(.int .i64 ((x.arcs.getD m default).src)), (.int .i64 ((x.arcs.getD m default).sig)), (.bool ((x.arcs.getD m default).up)), (.int .i64 ((x.arcs.getD m default).dst))]))) (.pure (.idx _ _ _ 125 (m) rfl Tryz.underlying33 sz125 rfl rfl rfl get_mapA)) (Ch.s (.d (.agg [(.int .i64 ((x.arcs.getD m default).src)), (.int .i64 ((x.arcs.getD m default).sig)), (.bool ((x.arcs.getD m default).up)), (.int .i64 ((x.arcs.getD m default).dst))])) (.pure (.loadRefA _ _ rfl ag125 sz125 rfl)) (Ch.s (.ptr 13000 0) (.alloc 13000 _ rfl zer125) ?_)))))))
    refine Ch.s .junk (.storePtr _ _ _ rfl rfl rfl (.aggD _) sz125 (lb rfl)) (Ch.nil (T_seq ?_))
    refine T_regionD hc (by kernel_rfl) ?_
    refine ChD.s (.ptr 13000 0) [] (.pure (.fldPtr _ _ _ rfl fld125_0 rfl)) (ChD.s (.d (.int .i64 ((x.arcs.getD m default).src))) [13000] (.pure (.loadPtr1 _ _ rfl ag3 rfl rfl rfl)) (ChD.s (.row 7700) [7000] (.pure (.loadPtr1 _ _ rfl ag55 rfl rfl rfl)) (ChD.s (.d (.int .i64 (q.2 : Int))) [] pm (ChD.s (.el 7700 1 q.2 0) [7700] (.pure (.idxRow _ _ _ 3 (q.2) rfl Tryz.underlying55 sz3 rfl rfl rfl rfl a81)) (ChD.s (.d (.int .i64 ((q1To x l.sig (q.1.getD q.2 default) q.1 m).getD q.2 default))) [7700] (.pure (.loadEl1 _ _ rfl ag3 rfl rfl get_mapA rfl rfl rfl)) (ChD.s (.d (.bool (decide (((x.arcs.getD m default).src) = ((q1To x l.sig (q.1.getD q.2 default) q.1 m).getD q.2 default))))) [] (iX rfl rfl rfl) ?_))))))
    refine ChD.nil (And.intro ?_ (by kernel_rfl))
    refine T_condD (p := (((x.arcs.getD m default).src) = ((q1To x l.sig (q.1.getD q.2 default) q.1 m).getD q.2 default))) rfl (fun h6 => ?_) (fun h6 => ?_)
    ·
     refine T_region hc (Ch.s (.fn 159 [(.ptr 3000 0), (.ptr 4000 0), (.ptr 7000 0)]) pm (Ch.s (.ptr 13000 3) (.pure (.fldPtr _ _ _ rfl fld125_3 rfl)) (Ch.s (.d (.int .i64 ((x.arcs.getD m default).dst))) (.pure (.loadPtr1 _ _ rfl ag3 rfl rfl rfl)) ?_)))
     refine Ch.step (v := (.tup [])) rfl (.call 61000 159 _ _ _ en159 rfl (.inl rfl) (.cons (.d _) (.cons (.lend (.ptr rfl (.agg (.cons (.d _) (.cons (.d _) (.cons (.d _) .nil))) rfl))) (.cons (.lend (.ptr rfl (.agg (.cons (.d _) (.cons (.d _) .nil)) rfl))) (.cons (.box rfl (.cons (.row rfl) .nil) rfl) .nil)))) rfl (sol rfl (solids_c rfl (solids_c rfl (solids_c rfl (solids_c a98 rfl))))) (sp_quiescent_1 ((x.arcs.getD m default).dst) x l (q1To x l.sig (q.1.getD q.2 default) q.1 m) a39 a39) (.skip _ _ (.skip _ _ (.skip _ _ (.box _ _ .nil)))) rfl) rfl rfl ?_
     refine Ch.opens 7000 8000020 rfl rfl rfl ?_
     refine Ch.nil (T_region hc (Ch.s (.d (.int .i64 ((m : Int) + 1))) (iX rfl rfl intV_addA) (Ch.s (.d (.int .i64 ((m : Int) + 1))) pm (Ch.nil ?_))))
     exact nx (m + 1) (by omega) (Wk.ren [(7700, 8000020)] rfl rfl rfl rfl (ai rfl (ai rfl (ai rfl (ai rfl (ai rfl (ai rfl (ai (vI a105) trivial))))))) (ai rfl (ai rfl (ai (oB (Eq.trans (b := [(.row 8000020)]) rfl (by rfl))) (ai (oR a43) trivial)))))
    ·
     refine T_skip (T_region hc (Ch.s (.d (.int .i64 ((m : Int) + 1))) (iX rfl rfl intV_addA) (Ch.s (.d (.int .i64 ((m : Int) + 1))) pm (Ch.nil ?_))))
     exact nx (m + 1) (by omega) (Wk.of rfl rfl (ai rfl (ai rfl (ai rfl (ai rfl (ai rfl (ai rfl (ai (vI a105) trivial))))))) (ai rfl (ai rfl (ai rfl (ai (oR a43) trivial)))))
   ·
    refine T_exit (T_region hc (Ch.s (.d (.int .i64 (q.2 : Int))) pm (Ch.s (.d (.int .i64 ((q.2 : Int) + 1))) (iX rfl rfl intV_addA) (Ch.s (.d (.int .i64 ((q.2 : Int) + 1))) pa (Ch.nil ?_)))))
    refine Exists.intro ((q1To x l.sig (q.1.getD q.2 default) q.1 x.arcs.length, q.2 + 1)) (And.intro (hp1.step hen (by omega)) (And.intro (by dsimp only; omega) (Wk.of rfl rfl (ai rfl (ai rfl (ai rfl (ai (vI a105) trivial)))) (ai rfl (ai rfl (ai rfl (ai (oR a77) trivial)))))))
  ·
   refine T_exit (T_seq (T_region hc (Ch.s (.row 7700) (.pure (.loadPtr1 _ _ rfl ag55 rfl rfl rfl)) ?_)))
   refine Ch.step (v := (.row 64000)) rfl (.call 64000 123 _ _ _ en123 rfl (.inl rfl) (.cons (.row rfl) .nil) rfl (sol (solid_row (fun _ => rfl) _) rfl) (sp_impl_tidy q.1 a39) (.skip _ _ .nil) rfl) rfl rfl ?_
   refine Ch.s (.row 64000) pa (Ch.nil (T_ret ?_))
   exact endR [(.row 64000)] [] [64000] (.cons (.tmp 6 rfl) .nil) (.cons (.any _) (.cons (.any _) (.cons (.any _) .nil))) (Exp.of (congrArg (D.slice true 1) (by rw [hp1.end hx h0 hr (by omega)])) (.row rfl)) rfl rfl

set_option maxHeartbeats 2000000 in
theorem sp_spec_l17Quiet (x : Sgr) (sig : Int) (r : List Int) (hb : x.bulk ≤ 1048576) (hx : SgOk x) (hrl : r.length ≤ 1048576) : Sp Tryz.prog 90 [(.agg [(.slice false 2 (x.sigs.map Sgn.d)), (.slice false 1 (x.codes.map D.str)), (.slice false 4 (x.arcs.map Arc.d))]), (.int .i64 sig), (.slice false 1 (r.map (fun n : Int => D.int .i64 n)))] [.any, .any, .any] (.slice true 1 ((quietL x sig r).map (fun n : Int => D.int .i64 n))) := by
 refine Sp_intro (lend := true) Tryz.func90 rfl rfl rfl (fun _ => rfl) (fun c hc hX => ?_)
 obtain ⟨hp0, hp1, hp2⟩ := Sgr.parts hb
 have hn0 := bulkF_len hp0
 have hn1 := bulk_len hp1
 have hx1 := bulk_mem hp1
 have hn2 := bulkF_len hp2; have hxl := hx.len; have hxf := hx.few; have hen := hx.ends; have hx8 := hx.eight
 refine T_seq (T_region hc (Ch.s (.ptr 3000 0) (.box 3000 _ _ rfl (.aggD _)) (Ch.s (.c (.slice none 0 0)) pa (Ch.nil (T_seq (T_region hc (Ch.s (.ptr 3000 1) (.pure (.fldPtr _ _ _ rfl fld35_1 rfl)) ?_)))))))
 refine Ch.s (.d (.slice false 1 (x.codes.map D.str))) (.pure (.loadPtr1 _ _ rfl ag23 rfl rfl rfl)) (Ch.s (.d (.int .i64 (x.codes.length : Int))) (.pure (.len _ _ 9 rfl Tryz.underlying23 (.sh _ _) (by simp))) (Ch.s (.row 18000) (.make 18000 _ 4 _ _ (x.codes.length) (x.codes.length) rfl sty146 rfl rfl rfl rfl a42 a42 a42 (zeroD_mk (zd := (.bool false)) zr4 a110 rfl)) (Ch.s (.row 18000) pa (Ch.nil (T_seq (T_seq (T_region hc ?_)))))))
 refine Ch.s (.ptr 3000 2) (.pure (.fldPtr _ _ _ rfl fld35_2 rfl)) (Ch.s (.d (.slice false 4 (x.arcs.map Arc.d))) (.pure (.loadPtr1 _ _ rfl ag33 rfl rfl rfl)) (Ch.s (.d (.int .i64 (x.arcs.length : Int))) (.pure (.len _ _ 125 rfl Tryz.underlying33 (.sh _ _) (by simp))) (Ch.s (.d (.int .i64 0)) pm (Ch.nil (T_block ?_)))))
 refine T_loop (ι := Nat) (fun k => { n := 93, sl := [(1, (.d (.int .i64 sig))), (2, (.d (.slice false 1 (r.map (fun n : Int => D.int .i64 n))))), (3, (.ptr 3000 0)), (7, (.row 7)), (20, (.d (.slice false 4 (x.arcs.map Arc.d)))), (21, (.d (.int .i64 (x.arcs.length : Int)))), (22, (.d (.int .i64 (k : Int))))], hp := [(7, (some (.row 1 ((mq0 x sig r k).map D.bool)))), (3000, (some (.box (vX x))))], pin := [] }) (fun k => k ≤ x.arcs.length) (fun k => x.arcs.length - k) ⟨0, (by omega), (Wk.ren [(7, 18000)] rfl rfl rfl rfl (ai rfl (ai rfl (ai rfl (ai rfl (ai rfl (ai rfl (ai (vI a105) trivial))))))) (ai (oR a15) (ai rfl trivial)))⟩ (fun k hp0 => ?_)
 have hml := mq0_len x sig r k hp0
 refine T_seq (T_region hc (Ch.s (.d (.bool (decide ((k : Int) < (x.arcs.length : Int))))) (iX rfl rfl rfl) (Ch.nil (T_seq ?_))))
 refine T_condD (p := ((k : Int) < (x.arcs.length : Int))) rfl (fun h1 => ?_) (fun h1 => ?_)
 ·
  try have hek := hen _ (getD_mem (l := x.arcs) (j := k) (d := default) (by omega))
  refine T_skip (T_seq (T_block (T_seq (T_region hc (Ch.s (.d (.ref (.agg [(.int .i64 ((x.arcs.getD k default).src)), (.int .i64 ((x.arcs.getD k default).sig)), (.bool ((x.arcs.getD k default).up)), (.int .i64 ((x.arcs.getD k default).dst))]))) (.pure (.idx _ _ _ 125 (k) rfl Tryz.underlying33 sz125 rfl rfl rfl get_mapA)) (Ch.s (.d (.agg [(.int .i64 ((x.arcs.getD k default).src)), (.int .i64 ((x.arcs.getD k default).sig)), (.bool ((x.arcs.getD k default).up)), (.int .i64 ((x.arcs.getD k default).dst))])) (.pure (.loadRefA _ _ rfl ag125 sz125 rfl)) (Ch.s (.ptr 9000 0) (.alloc 9000 _ rfl zer125) ?_)))))))
  refine Ch.s .junk (.storePtr _ _ _ rfl rfl rfl (.aggD _) sz125 (lb rfl)) (Ch.nil (T_seq (T_region hc (Ch.s (.d (.slice false 1 (r.map (fun n : Int => D.int .i64 n)))) pm (Ch.s (.ptr 9000 0) (.pure (.fldPtr _ _ _ rfl fld125_0 rfl)) (Ch.s (.d (.int .i64 ((x.arcs.getD k default).src))) (.pure (.loadPtr1 _ _ rfl ag3 rfl rfl rfl)) (Ch.s (.d (.bool (hasI r ((x.arcs.getD k default).src)))) (.call 29000 157 _ _ _ en157 rfl (.inl rfl) (.cons (.d _) (.cons (.d _) .nil)) rfl rfl (sp_spec_l1Has r ((x.arcs.getD k default).src) a39) (.skip _ _ (.skip _ _ .nil)) rfl) ?_)))))))
  refine Ch.s (.d (.bool (hasI r ((x.arcs.getD k default).src)))) pm ?_
  cases h2 : (hasI r ((x.arcs.getD k default).src)) with
  | true =>
   refine Ch.s (.ptr 9000 1) (.pure (.fldPtr _ _ _ rfl fld125_1 rfl)) (Ch.s (.d (.int .i64 ((x.arcs.getD k default).sig))) (.pure (.loadPtr1 _ _ rfl ag3 rfl rfl rfl)) (Ch.s (.d (.int .i64 sig)) pm (Ch.s (.d (.bool (decide (((x.arcs.getD k default).sig) = sig)))) (iX rfl rfl rfl) (Ch.s (.d (.bool (decide (((x.arcs.getD k default).sig) = sig)))) (.pure (.pickT _ _ _ rfl rfl rfl)) (Ch.s (.d (.bool (decide (((x.arcs.getD k default).sig) = sig)))) pm ?_)))))
   cases h3 : (decide (((x.arcs.getD k default).sig) = sig)) with
   | true =>
    replace h3 := of_decide_eq_true h3
    refine Ch.s (.agg (vX x)) (.pure (.loadPtrA _ _ rfl ag35 sz35 rfl rfl (lb rfl) rfl)) (Ch.s (.ptr 9000 3) (.pure (.fldPtr _ _ _ rfl fld125_3 rfl)) (Ch.s (.d (.int .i64 ((x.arcs.getD k default).dst))) (.pure (.loadPtr1 _ _ rfl ag3 rfl rfl rfl)) (Ch.s (.d (.int .i64 sig)) pm (Ch.s (.d (.bool (excB x ((x.arcs.getD k default).dst) sig))) (.call 41000 158 _ _ _ en158 rfl (.inl rfl) (.cons lX (.cons (.d _) (.cons (.d _) .nil))) rfl rfl (sp_spec_l5Excited x ((x.arcs.getD k default).dst) sig a39) (.skip _ _ (.skip _ _ (.skip _ _ .nil))) rfl) (Ch.s (.d (.bool (!(excB x ((x.arcs.getD k default).dst) sig)))) (.pure (.not _ _ rfl rfl)) (Ch.s (.d (.bool (!(excB x ((x.arcs.getD k default).dst) sig)))) (.pure (.pickT _ _ _ rfl rfl rfl)) (Ch.nil ?_)))))))
    refine T_condN (b := (excB x ((x.arcs.getD k default).dst) sig)) rfl (fun h4 => ?_) (fun h4 => ?_)
    ·
     refine T_region hc (Ch.s (.row 7) pm (Ch.s (.ptr 9000 3) (.pure (.fldPtr _ _ _ rfl fld125_3 rfl)) (Ch.s (.d (.int .i64 ((x.arcs.getD k default).dst))) (.pure (.loadPtr1 _ _ rfl ag3 rfl rfl rfl)) (Ch.s (.el 7 1 ((((x.arcs.getD k default).dst)).toNat) 0) (.pure (.idxRow _ _ _ 4 ((((x.arcs.getD k default).dst)).toNat) rfl Tryz.underlying146 sz4 rfl rfl rfl (by omega) a81)) (Ch.s .junk (.storeEl (y' := (.bool true)) _ _ _ rfl rfl rfl (.d _) rfl sz4 rfl get_mapA rfl rfl) (Ch.nil (T_region hc ?_)))))))
     refine Ch.s (.d (.int .i64 ((k : Int) + 1))) (iX rfl rfl intV_addA) (Ch.s (.d (.int .i64 ((k : Int) + 1))) pm (Ch.nil ?_))
     exact nx (k + 1) (by omega) (Wk.of rfl rfl (ai rfl (ai rfl (ai rfl (ai rfl (ai rfl (ai rfl (ai (vI a105) trivial))))))) (ai (oR a15) (ai rfl trivial)))
    ·
     refine T_skip (T_region hc (Ch.s (.d (.int .i64 ((k : Int) + 1))) (iX rfl rfl intV_addA) (Ch.s (.d (.int .i64 ((k : Int) + 1))) pm (Ch.nil ?_))))
     exact nx (k + 1) (by omega) (Wk.of rfl rfl (ai rfl (ai rfl (ai rfl (ai rfl (ai rfl (ai rfl (ai (vI a105) trivial))))))) (ai (oR a15) (ai rfl trivial)))
   | false =>
    replace h3 := of_decide_eq_false h3
    refine Ch.skip rfl rfl (Ch.skip rfl rfl (Ch.skip rfl rfl (Ch.skip rfl rfl (Ch.skip rfl rfl (Ch.skip rfl rfl (Ch.s (.d (.bool false)) (.pure (.pickF _ _ _ rfl rfl rfl)) (Ch.nil ?_)))))))
    refine T_cond (b := false) rfl (fun h => nomatch h) (fun _ => ?_)
    refine T_skip (T_region hc (Ch.s (.d (.int .i64 ((k : Int) + 1))) (iX rfl rfl intV_addA) (Ch.s (.d (.int .i64 ((k : Int) + 1))) pm (Ch.nil ?_))))
    exact nx (k + 1) (by omega) (Wk.of rfl rfl (ai rfl (ai rfl (ai rfl (ai rfl (ai rfl (ai rfl (ai (vI a105) trivial))))))) (ai (oR a15) (ai rfl trivial)))
  | false =>
   refine Ch.skip rfl rfl (Ch.skip rfl rfl (Ch.skip rfl rfl (Ch.skip rfl rfl (Ch.s (.d (.bool false)) (.pure (.pickF _ _ _ rfl rfl rfl)) (Ch.s (.d (.bool false)) pm (Ch.skip rfl rfl (Ch.skip rfl rfl ?_)))))))
   refine Ch.skip rfl rfl (Ch.skip rfl rfl (Ch.skip rfl rfl (Ch.skip rfl rfl (Ch.s (.d (.bool false)) (.pure (.pickF _ _ _ rfl rfl rfl)) (Ch.nil ?_)))))
   refine T_cond (b := false) rfl (fun h => nomatch h) (fun _ => ?_)
   refine T_skip (T_region hc (Ch.s (.d (.int .i64 ((k : Int) + 1))) (iX rfl rfl intV_addA) (Ch.s (.d (.int .i64 ((k : Int) + 1))) pm (Ch.nil ?_))))
   exact nx (k + 1) (by omega) (Wk.of rfl rfl (ai rfl (ai rfl (ai rfl (ai rfl (ai rfl (ai rfl (ai (vI a105) trivial))))))) (ai (oR a15) (ai rfl trivial)))
 ·
  try have hek := hen _ (getD_mem (l := x.arcs) (j := k) (d := default) (by omega))
  refine T_exit (T_seq (T_seq (T_region hc (Ch.s (.row 7) pm (Ch.s (.d (.int .i64 ((mq0 x sig r k).length : Int))) (.pure (.len _ _ 4 rfl Tryz.underlying146 (.row rfl) (by simp))) (Ch.s (.d (.int .i64 0)) pm (Ch.nil ?_)))))))
  refine T_block ?_
  refine T_loop (ι := Nat) (fun p => { n := 93, sl := [(1, (.d (.int .i64 sig))), (3, (.ptr 3000 0)), (7, (.row 7)), (50, (.d (.int .i64 ((mq0 x sig r k).length : Int)))), (51, (.d (.int .i64 (p : Int))))], hp := [(7, (some (.row 1 ((mqR x sig r p).map D.bool)))), (3000, (some (.box (vX x))))], pin := [] }) (fun p => p ≤ x.codes.length) (fun p => x.codes.length - p) ⟨0, (by omega), (Wk.of rfl rfl (ai rfl (ai rfl (ai rfl (ai rfl (ai (vI a105) trivial))))) (ai (oR a79) (ai rfl trivial)))⟩ (fun p hp1 => ?_)
  have hml := mqR_len x sig r p
  refine T_seq (T_region hc (Ch.s (.d (.bool (decide ((p : Int) < ((mq0 x sig r k).length : Int))))) (iX rfl rfl rfl) (Ch.nil (T_seq ?_))))
  refine T_condD (p := ((p : Int) < ((mq0 x sig r k).length : Int))) rfl (fun h5 => ?_) (fun h5 => ?_)
  ·
   refine T_skip (T_seq (T_block (T_seq (T_region hc (Ch.s (.ptr 3000 2) (.pure (.fldPtr _ _ _ rfl fld35_2 rfl)) (Ch.s (.d (.slice false 4 (x.arcs.map Arc.d))) (.pure (.loadPtr1 _ _ rfl ag33 rfl rfl rfl)) (Ch.s (.d (.int .i64 (x.arcs.length : Int))) (.pure (.len _ _ 125 rfl Tryz.underlying33 (.sh _ _) (by simp))) ?_)))))))
   refine Ch.s (.d (.int .i64 0)) pm (Ch.nil (T_block ?_))
   refine T_loop (ι := Nat) (fun m => { n := 93, sl := [(1, (.d (.int .i64 sig))), (3, (.ptr 3000 0)), (7, (.row 7)), (50, (.d (.int .i64 ((mq0 x sig r k).length : Int)))), (51, (.d (.int .i64 (p : Int)))), (54, (.d (.slice false 4 (x.arcs.map Arc.d)))), (55, (.d (.int .i64 (x.arcs.length : Int)))), (56, (.d (.int .i64 (m : Int))))], hp := [(7, (some (.row 1 ((mqTo x sig r p m).map D.bool)))), (3000, (some (.box (vX x))))], pin := [] }) (fun m => m ≤ x.arcs.length) (fun m => x.arcs.length - m) ⟨0, (by omega), (Wk.of rfl rfl (ai rfl (ai rfl (ai rfl (ai rfl (ai rfl (ai rfl (ai rfl (ai (vI a105) trivial)))))))) (ai (oR a30) (ai rfl trivial)))⟩ (fun m hp2 => ?_)
   have hml := mqTo_len x sig r p m
   refine T_seq (T_region hc (Ch.s (.d (.bool (decide ((m : Int) < (x.arcs.length : Int))))) (iX rfl rfl rfl) (Ch.nil (T_seq ?_))))
   refine T_condD (p := ((m : Int) < (x.arcs.length : Int))) rfl (fun h6 => ?_) (fun h6 => ?_)
   ·
    try have hek := hen _ (getD_mem (l := x.arcs) (j := m) (d := default) (by omega))
    refine T_skip (T_seq (T_block (T_seq (T_region hc (Ch.s (.d (.ref (.agg [(.int .i64 ((x.arcs.getD m default).src)), (.int .i64 ((x.arcs.getD m default).sig)), (.bool ((x.arcs.getD m default).up)), (.int .i64 ((x.arcs.getD m default).dst))]))) (.pure (.idx _ _ _ 125 (m) rfl Tryz.underlying33 sz125 rfl rfl rfl get_mapA)) (Ch.s (.d (.agg [(.int .i64 ((x.arcs.getD m default).src)), (.int .i64 ((x.arcs.getD m default).sig)), (.bool ((x.arcs.getD m default).up)), (.int .i64 ((x.arcs.getD m default).dst))])) (.pure (.loadRefA _ _ rfl ag125 sz125 rfl)) (Ch.s (.ptr 11000 0) (.alloc 11000 _ rfl zer125) ?_)))))))
    refine Ch.s .junk (.storePtr _ _ _ rfl rfl rfl (.aggD _) sz125 (lb rfl)) (Ch.nil (T_seq (T_region hc (Ch.s (.row 7) pm (Ch.s (.ptr 11000 0) (.pure (.fldPtr _ _ _ rfl fld125_0 rfl)) (Ch.s (.d (.int .i64 ((x.arcs.getD m default).src))) (.pure (.loadPtr1 _ _ rfl ag3 rfl rfl rfl)) (Ch.s (.el 7 1 ((((x.arcs.getD m default).src)).toNat) 0) (.pure (.idxRow _ _ _ 4 ((((x.arcs.getD m default).src)).toNat) rfl Tryz.underlying146 sz4 rfl rfl rfl (by omega) a81)) ?_)))))))
    refine Ch.s (.d (.bool (((mqTo x sig r p m).getD ((((x.arcs.getD m default).src)).toNat) default)))) (.pure (.loadEl1 _ _ rfl ag4 rfl rfl get_mapA rfl rfl rfl)) (Ch.s (.d (.bool (((mqTo x sig r p m).getD ((((x.arcs.getD m default).src)).toNat) default)))) pm ?_)
    cases h7 : (((mqTo x sig r p m).getD ((((x.arcs.getD m default).src)).toNat) default)) with
    | true =>
     refine Ch.s (.agg (vX x)) (.pure (.loadPtrA _ _ rfl ag35 sz35 rfl rfl (lb rfl) rfl)) (Ch.s (.ptr 11000 3) (.pure (.fldPtr _ _ _ rfl fld125_3 rfl)) (Ch.s (.d (.int .i64 ((x.arcs.getD m default).dst))) (.pure (.loadPtr1 _ _ rfl ag3 rfl rfl rfl)) (Ch.s (.d (.int .i64 sig)) pm (Ch.s (.d (.bool (excB x ((x.arcs.getD m default).dst) sig))) (.call 70000 158 _ _ _ en158 rfl (.inl rfl) (.cons lX (.cons (.d _) (.cons (.d _) .nil))) rfl rfl (sp_spec_l5Excited x ((x.arcs.getD m default).dst) sig a39) (.skip _ _ (.skip _ _ (.skip _ _ .nil))) rfl) (Ch.s (.d (.bool (!(excB x ((x.arcs.getD m default).dst) sig)))) (.pure (.not _ _ rfl rfl)) (Ch.s (.d (.bool (!(excB x ((x.arcs.getD m default).dst) sig)))) (.pure (.pickT _ _ _ rfl rfl rfl)) (Ch.nil ?_)))))))
     refine T_condN (b := (excB x ((x.arcs.getD m default).dst) sig)) rfl (fun h8 => ?_) (fun h8 => ?_)
     ·
      refine T_region hc (Ch.s (.row 7) pm (Ch.s (.ptr 11000 3) (.pure (.fldPtr _ _ _ rfl fld125_3 rfl)) (Ch.s (.d (.int .i64 ((x.arcs.getD m default).dst))) (.pure (.loadPtr1 _ _ rfl ag3 rfl rfl rfl)) (Ch.s (.el 7 1 ((((x.arcs.getD m default).dst)).toNat) 0) (.pure (.idxRow _ _ _ 4 ((((x.arcs.getD m default).dst)).toNat) rfl Tryz.underlying146 sz4 rfl rfl rfl (by omega) a81)) (Ch.s .junk (.storeEl (y' := (.bool true)) _ _ _ rfl rfl rfl (.d _) rfl sz4 rfl get_mapA rfl rfl) (Ch.nil (T_region hc ?_)))))))
      refine Ch.s (.d (.int .i64 ((m : Int) + 1))) (iX rfl rfl intV_addA) (Ch.s (.d (.int .i64 ((m : Int) + 1))) pm (Ch.nil ?_))
      exact nx (m + 1) (by omega) (Wk.of rfl rfl (ai rfl (ai rfl (ai rfl (ai rfl (ai rfl (ai rfl (ai rfl (ai (vI a105) trivial)))))))) (ai (oR a30) (ai rfl trivial)))
     ·
      refine T_skip (T_region hc (Ch.s (.d (.int .i64 ((m : Int) + 1))) (iX rfl rfl intV_addA) (Ch.s (.d (.int .i64 ((m : Int) + 1))) pm (Ch.nil ?_))))
      exact nx (m + 1) (by omega) (Wk.of rfl rfl (ai rfl (ai rfl (ai rfl (ai rfl (ai rfl (ai rfl (ai rfl (ai (vI a105) trivial)))))))) (ai (oR a30) (ai rfl trivial)))
    | false =>
     refine Ch.skip rfl rfl (Ch.skip rfl rfl (Ch.skip rfl rfl (Ch.skip rfl rfl (Ch.skip rfl rfl (Ch.skip rfl rfl (Ch.s (.d (.bool false)) (.pure (.pickF _ _ _ rfl rfl rfl)) (Ch.nil ?_)))))))
     refine T_cond (b := false) rfl (fun h => nomatch h) (fun _ => ?_)
     refine T_skip (T_region hc (Ch.s (.d (.int .i64 ((m : Int) + 1))) (iX rfl rfl intV_addA) (Ch.s (.d (.int .i64 ((m : Int) + 1))) pm (Ch.nil ?_))))
     exact nx (m + 1) (by omega) (Wk.of rfl rfl (ai rfl (ai rfl (ai rfl (ai rfl (ai rfl (ai rfl (ai rfl (ai (vI a105) trivial)))))))) (ai (oR a30) (ai rfl trivial)))
   ·
    try have hek := hen _ (getD_mem (l := x.arcs) (j := m) (d := default) (by omega))
    refine T_exit (T_region hc (Ch.s (.d (.int .i64 ((p : Int) + 1))) (iX rfl rfl intV_addA) (Ch.s (.d (.int .i64 ((p : Int) + 1))) pm (Ch.nil ?_))))
    exact nx (p + 1) (by omega) (Wk.of rfl rfl (ai rfl (ai rfl (ai rfl (ai rfl (ai (vI a105) trivial))))) (ai (oR a79) (ai rfl trivial)))
  ·
   refine T_exit (T_seq (T_region hc (Ch.s (.c (.slice none 0 0)) pa (Ch.nil (T_seq (T_seq (T_region hc ?_)))))))
   refine Ch.s (.row 7) pm (Ch.s (.d (.int .i64 ((mqR x sig r p).length : Int))) (.pure (.len _ _ 4 rfl Tryz.underlying146 (.row rfl) (by simp))) (Ch.s (.d (.int .i64 0)) pm (Ch.nil (T_block ?_))))
   refine T_loop (ι := Nat) (fun v => { n := 93, sl := [(12, (.row 12)), (79, (.row 7)), (80, (.d (.int .i64 ((mqR x sig r p).length : Int)))), (81, (.d (.int .i64 (v : Int))))], hp := [(7, (some (.row 1 ((mqR x sig r p).map D.bool)))), (12, (some (.row 1 ((quietK x sig r v).map (fun n : Int => D.int .i64 n)))))], pin := [] }) (fun v => v ≤ x.codes.length) (fun v => x.codes.length - v) ⟨0, (by omega), (Wk.trans (Wk.nilrow 12 900012 1 rfl rfl rfl) (Wk.ren [(12, 900012)] rfl rfl rfl rfl (ai rfl (ai rfl (ai rfl (ai (vI a105) trivial)))) (ai rfl (ai (oR a56) trivial))))⟩ (fun v hp3 => ?_)
   have hpn : x.codes.length = p := (by omega); have hql := quietK_le x sig r v; have hml := mqR_len x sig r p
   refine T_seq (T_region hc (Ch.s (.d (.bool (decide ((v : Int) < ((mqR x sig r p).length : Int))))) (iX rfl rfl rfl) (Ch.nil (T_seq ?_))))
   refine T_condD (p := ((v : Int) < ((mqR x sig r p).length : Int))) rfl (fun h9 => ?_) (fun h9 => ?_)
   ·
    refine T_skip (T_seq (T_block (T_seq (T_region hc (Ch.s (.d (.int .i64 (v : Int))) pm (Ch.s (.el 7 1 v 0) (.pure (.idxRow _ _ _ 4 (v) rfl Tryz.underlying146 sz4 rfl rfl rfl rfl a81)) (Ch.s (.d (.bool (((mqR x sig r p).getD v default)))) (.pure (.loadEl1 _ _ rfl ag4 rfl rfl get_mapA rfl rfl rfl)) ?_)))))))
    refine Ch.s (.d (.int .i64 (v : Int))) pa (Ch.s (.d (.bool (((mqR x sig r p).getD v default)))) pa (Ch.nil (T_seq (T_region hc (Ch.s (.d (.bool (((mqR x sig r p).getD v default)))) pm (Ch.nil ?_))))))
    refine T_cond (b := (((mqR x sig r p).getD v default))) rfl (fun h10 => ?_) (fun h10 => ?_)
    ·
     refine T_region hc (Ch.s (.row 12) pm (Ch.s (.d (.int .i64 (v : Int))) pm (Ch.s (.row 89000) (.slice 89000 _ 3 _ rfl sty55 (xs := [.tmp 88]) rfl rfl (.cons (.d _) .nil) rfl rfl (by decide)) ?_)))
     refine Ch.step (v := (.row 90000)) rfl (.append 90000 _ _ _ 3 rfl sty55 (by decide) (.rowK rfl) (.inr ⟨_, rfl, rfl⟩) (.row rfl rfl) rfl a55) rfl rfl ?_
     refine Ch.s (.row 90000) pa (Ch.nil (T_region hc (Ch.s (.d (.int .i64 ((v : Int) + 1))) (iX rfl rfl intV_addA) (Ch.s (.d (.int .i64 ((v : Int) + 1))) pm (Ch.nil ?_)))))
     exact nx (v + 1) (by omega) (Wk.ren [(12, 90000)] rfl rfl rfl rfl (ai rfl (ai rfl (ai rfl (ai (vI a105) trivial)))) (ai rfl (ai (oR a56) trivial)))
    ·
     refine T_skip (T_region hc (Ch.s (.d (.int .i64 ((v : Int) + 1))) (iX rfl rfl intV_addA) (Ch.s (.d (.int .i64 ((v : Int) + 1))) pm (Ch.nil ?_))))
     exact nx (v + 1) (by omega) (Wk.of rfl rfl (ai rfl (ai rfl (ai rfl (ai (vI a105) trivial)))) (ai rfl (ai (oR a56) trivial)))
   ·
    refine T_exit (T_seq (T_region hc (Ch.s (.row 12) pm (Ch.s (.row 12) pa (Ch.nil (T_ret ?_))))))
    exact endR [(.row 12)] [] [12] (.cons (.tmp 6 rfl) .nil) (.cons (.any _) (.cons (.any _) (.cons (.any _) .nil))) (Exp.of (congrArg (D.slice true 1) (by rw [show v = x.codes.length by omega]; rfl)) (.row rfl)) rfl rfl

set_option maxHeartbeats 1000000 in
theorem sp_impl_QuiescentRegion (x : Sgr) (sig : Int) (up : Bool) (j : Int) (hb : x.bulk ≤ 1048576) : Sp Tryz.prog 38 [(.agg [(.slice false 2 (x.sigs.map Sgn.d)), (.slice false 1 (x.codes.map D.str)), (.slice false 4 (x.arcs.map Arc.d))]), (.int .i64 sig), (.bool (up)), (.int .i64 j)] [.any, .any, .any, .any] (.tup [(.slice true 1 ((qrV x sig up j).map (fun n : Int => D.int .i64 n))), (.bool (qrB x sig up j))]) := by
 refine Sp_intro (lend := true) Tryz.func38 rfl rfl rfl (fun _ => rfl) (fun c hc hX => ?_)
 obtain ⟨hp0, hp1, hp2⟩ := Sgr.parts hb
 have hn0 := bulkF_len hp0
 have hn1 := bulk_len hp1
 have hx1 := bulk_mem hp1
 have hn2 := bulkF_len hp2; have hev := (exV_small (x := x) (sig := sig) (up := up)).1; have hexl := exR_le x sig up
 refine T_seq (T_region hc (Ch.s (.ptr 4000 0) (.box 4000 _ _ rfl (.aggD _)) (Ch.s (.c (.slice none 0 0)) pa (Ch.s (.d (.bool false)) pa (Ch.nil (T_seq (T_region hc ?_)))))))
 refine Ch.s (.agg (vX x)) (.pure (.loadPtrA _ _ rfl ag35 sz35 rfl rfl (lb rfl) rfl)) (Ch.s (.d (.int .i64 sig)) pm (Ch.s (.d (.bool (up))) pm (Ch.s (.tup [(.d (.slice false 1 ((exV x sig (up)).map intsD))), (.d (.bool (exB x sig)))]) (.callFz 16000 33 _ _ _ en33 rfl (.inl rfl) (.cons lX (.cons (.d _) (.cons (.d _) .nil))) (by rw [D.solid]; exact solids_c (solid_row intsU_sol _) rfl) (sp_impl_ExcitationRegions x sig (up) a39) (tup_froz (froz_c (slice_froz (frozs_to intsU_fz _)) rfl)) rfl) (Ch.s (.tup [(.d (.slice false 1 ((exV x sig (up)).map intsD))), (.d (.bool (exB x sig)))]) pm (Ch.s (.d (.slice false 1 ((exV x sig (up)).map intsD))) (.pure (.extract _ rfl rfl rfl)) (Ch.s (.d (.bool (exB x sig))) (.pure (.extract _ rfl rfl rfl)) (Ch.s (.d (.slice false 1 ((exV x sig (up)).map intsD))) pa ?_)))))))
 refine Ch.s (.d (.bool (exB x sig))) pa (Ch.nil (T_seq (T_seq (T_region hc (Ch.s (.d (.bool (exB x sig))) pm (Ch.s (.d (.bool (!(exB x sig)))) (.pure (.not _ _ rfl rfl)) (Ch.s (.d (.bool (!(exB x sig)))) pm ?_)))))))
 cases h1 : (exB x sig) with
 | true =>
  try have hxo := exB_has (by assumption : exB x sig = true)
  try have hx := hxo.1
  try have hs := hxo.2
  try have hxl := hx.len
  try have hx8 := hx.eight
  refine Ch.s (.d (.int .i64 j)) pm (Ch.s (.d (.slice false 1 ((exV x sig (up)).map intsD))) pm (Ch.s (.d (.int .i64 ((exV x sig (up)).length : Int))) (.pure (.len _ _ 55 rfl Tryz.underlying49 (.sh _ _) (by simp))) (Ch.s (.d (.int .i64 (((exV x sig (up)).length : Int) - 1))) (iX rfl rfl intV_subA) (Ch.s (.d (.bool (withinB j 0 (((exV x sig (up)).length : Int) - 1)))) (.call 26000 91 _ _ _ en91 rfl (.inl rfl) (.cons (.d _) (.cons (.d _) (.cons (.d _) .nil))) rfl rfl (sp_impl_within j 0 (((exV x sig (up)).length : Int) - 1)) (.skip _ _ (.skip _ _ (.skip _ _ .nil))) rfl) (Ch.s (.d (.bool (!(withinB j 0 (((exV x sig (up)).length : Int) - 1))))) (.pure (.not _ _ rfl rfl)) (Ch.s (.d (.bool (!(withinB j 0 (((exV x sig (up)).length : Int) - 1))))) (.pure (.pickF _ _ _ rfl rfl rfl)) (Ch.nil ?_)))))))
  refine T_condN (b := (withinB j 0 (((exV x sig (up)).length : Int) - 1))) rfl (fun h2 => ?_) (fun h2 => ?_)
  ·
   try have hqb : qrB x sig up j = true := by (rw [qrB, h1, Bool.true_and]; first | assumption | (rw [exV_yes h1]; assumption))
   try have hqh := qrB_has hqb
   try have hrg := regAt_in hqb
   try have hrg2 := exR_in _ hrg
   try have hqi := exR_in _ (getD_mem (l := exR x sig up) (j := j.toNat) (d := default) hqh.2.2)
   try have hve := exV_yes (up := up) h1
   try have hqlen : j.toNat < (exV x sig up).length := by (rw [hve]; exact hqh.2.2)
   try have hrx : (exV x sig up).getD j.toNat default = regAt x sig up j := by (rw [hve]; rfl)
   try have hrq : ∀ a ∈ (exV x sig up).getD j.toNat default, (0 ≤ a ∧ a.toNat < x.codes.length) ∧ a ∈ excS x sig up := by (rw [hrx]; exact hrg2.2.2)
   try have hrql : ((exV x sig up).getD j.toNat default).length ≤ 1048576 := by (rw [hrx]; omega)
   try have hrql2 : ((exR x sig up).getD j.toNat default).length ≤ 1048576 := by (show (regAt x sig up j).length ≤ 1048576; omega)
   refine T_seq (T_region hc (Ch.s (.c (.slice none 0 0)) pa (Ch.s (.d (.bool false)) pa (Ch.nil (T_ret ?_)))))
   exact endR [(.c (.slice none 0 0)), (.d (.bool false))] [] [] (.cons (.tmp 8 rfl) (.cons (.tmp 9 rfl) .nil)) (.cons (.any _) (.cons (.any _) (.cons (.any _) (.cons (.any _) .nil)))) (.tup (.cons (Exp.of (congrArg (D.slice true 1) a8) (.nil true 1)) (.cons (Exp.of (congrArg D.bool a8) (.d _)) .nil))) rfl rfl
  ·
   try have hqb : qrB x sig up j = true := by (rw [qrB, h1, Bool.true_and]; first | assumption | (rw [exV_yes h1]; assumption))
   try have hqh := qrB_has hqb
   try have hrg := regAt_in hqb
   try have hrg2 := exR_in _ hrg
   try have hqi := exR_in _ (getD_mem (l := exR x sig up) (j := j.toNat) (d := default) hqh.2.2)
   try have hve := exV_yes (up := up) h1
   try have hqlen : j.toNat < (exV x sig up).length := by (rw [hve]; exact hqh.2.2)
   try have hrx : (exV x sig up).getD j.toNat default = regAt x sig up j := by (rw [hve]; rfl)
   try have hrq : ∀ a ∈ (exV x sig up).getD j.toNat default, (0 ≤ a ∧ a.toNat < x.codes.length) ∧ a ∈ excS x sig up := by (rw [hrx]; exact hrg2.2.2)
   try have hrql : ((exV x sig up).getD j.toNat default).length ≤ 1048576 := by (rw [hrx]; omega)
   try have hrql2 : ((exR x sig up).getD j.toNat default).length ≤ 1048576 := by (show (regAt x sig up j).length ≤ 1048576; omega)
   refine T_skip (T_seq ?_)
   refine T_regionD hc (by kernel_rfl) ?_
   refine ChD.s (.agg (vX x)) [4000] (.pure (.loadPtrA _ _ rfl ag35 sz35 rfl rfl (lb rfl) rfl)) (ChD.s (.d (.int .i64 sig)) [] pm (ChD.s (.d (.bool (up))) [] pm (ChD.s (.agg [(.d (.int .i64 sig)), (.d (.bool (up)))]) [] (.build _ _ rfl stru107 (.cons (.one _ rfl) (.cons (.one _ rfl) .nil)) rfl) (ChD.s (.d (.slice false 1 ((exV x sig (up)).map intsD))) [] pm (ChD.s (.d (.int .i64 j)) [] pm (ChD.s (.d (.ref (.slice false 1 (((exV x sig (up)).getD ((j).toNat) default).map (fun n : Int => D.int .i64 n))))) [] (.pure (.idx _ _ _ 55 ((j).toNat) rfl Tryz.underlying49 sz55 rfl rfl (by omega) get_mapA)) (ChD.s (.d (.slice false 1 (((exV x sig (up)).getD ((j).toNat) default).map (fun n : Int => D.int .i64 n)))) [] (.pure (.loadRef1 _ _ rfl ag55 rfl rfl)) ?_)))))))
   refine ChD.s (.row 37000) [] (.call 37000 92 _ _ _ en92 rfl (.inl rfl) (.cons lX (.cons (.lend (.agg (.cons (.d _) (.cons (.d _) .nil)) rfl)) (.cons (.d _) .nil))) rfl (sol (solid_row (fun _ => rfl) _) rfl) (sp_impl_quiescent x (Lab.mk sig up) ((exV x sig (up)).getD ((j).toNat) default) a39 (by assumption) (by first | assumption | omega | exact hs.1) (by first | assumption | exact hrq | exact fun a ha => (exR_in _ hrg).2.2 a ha) a39) (.skip _ _ (.skip _ _ (.skip _ _ .nil))) rfl) (ChD.s (.row 37000) [] pa (ChD.s (.d (.bool true)) [] pa ?_))
   refine ChD.nil (And.intro ?_ (by kernel_rfl))
   refine T_ret ?_
   exact endR [(.row 37000), (.d (.bool true))] [] [37000] (.cons (.tmp 8 rfl) (.cons (.tmp 9 rfl) .nil)) (.cons (.any _) (.cons (.any _) (.cons (.any _) (.cons (.any _) .nil)))) (.tup (.cons (Exp.of (congrArg (D.slice true 1) a8) (.row rfl)) (.cons (Exp.of (congrArg D.bool a8) (.d _)) .nil))) rfl rfl
 | false =>
  try have hxo := exB_has (by assumption : exB x sig = true)
  try have hx := hxo.1
  try have hs := hxo.2
  try have hxl := hx.len
  try have hx8 := hx.eight
  refine Ch.skip rfl rfl (Ch.skip rfl rfl (Ch.skip rfl rfl (Ch.skip rfl rfl (Ch.skip rfl rfl (Ch.skip rfl rfl (Ch.s (.d (.bool true)) (.pure (.pickT _ _ _ rfl rfl rfl)) (Ch.nil ?_)))))))
  refine T_cond (b := true) rfl (fun _ => ?_) (fun h => nomatch h)
  refine T_seq (T_region hc (Ch.s (.c (.slice none 0 0)) pa (Ch.s (.d (.bool false)) pa (Ch.nil (T_ret ?_)))))
  exact endR [(.c (.slice none 0 0)), (.d (.bool false))] [] [] (.cons (.tmp 8 rfl) (.cons (.tmp 9 rfl) .nil)) (.cons (.any _) (.cons (.any _) (.cons (.any _) (.cons (.any _) .nil)))) (.tup (.cons (Exp.of (congrArg (D.slice true 1) a8) (.nil true 1)) (.cons (Exp.of (congrArg D.bool a8) (.d _)) .nil))) rfl rfl

set_option maxHeartbeats 1000000 in
theorem sp_spec_QuiescentRegion (x : Sgr) (sig : Int) (up : Bool) (j : Int) (hb : x.bulk ≤ 1048576) : Sp Tryz.prog 37 [(.agg [(.slice false 2 (x.sigs.map Sgn.d)), (.slice false 1 (x.codes.map D.str)), (.slice false 4 (x.arcs.map Arc.d))]), (.int .i64 sig), (.bool (up)), (.int .i64 j)] [.any, .any, .any, .any] (.tup [(.slice true 1 ((qrV x sig up j).map (fun n : Int => D.int .i64 n))), (.bool (qrB x sig up j))]) := by
 refine Sp_intro (lend := true) Tryz.func37 rfl rfl rfl (fun _ => rfl) (fun c hc hX => ?_)
 obtain ⟨hp0, hp1, hp2⟩ := Sgr.parts hb
 have hn0 := bulkF_len hp0
 have hn1 := bulk_len hp1
 have hx1 := bulk_mem hp1
 have hn2 := bulkF_len hp2; have hev := (exV_small (x := x) (sig := sig) (up := up)).1; have hexl := exR_le x sig up
 refine T_seq (T_region hc (Ch.s (.ptr 4000 0) (.box 4000 _ _ rfl (.aggD _)) (Ch.s (.c (.slice none 0 0)) pa (Ch.s (.d (.bool false)) pa (Ch.nil (T_seq (T_seq ?_)))))))
 refine T_region hc (Ch.s (.agg (vX x)) (.pure (.loadPtrA _ _ rfl ag35 sz35 rfl rfl (lb rfl) rfl)) (Ch.s (.d (.int .i64 sig)) pm (Ch.s (.d (.bool (exB x sig))) (.call 12000 85 _ _ _ en85 rfl (.inl rfl) (.cons lX (.cons (.d _) .nil)) rfl rfl (sp_spec_l17Asked x sig a39) (.skip _ _ (.skip _ _ .nil)) rfl) (Ch.s (.d (.bool (!(exB x sig)))) (.pure (.not _ _ rfl rfl)) (Ch.s (.d (.bool (!(exB x sig)))) pm ?_)))))
 cases h1 : (exB x sig) with
 | true =>
  try have hxo := exB_has (by assumption : exB x sig = true)
  try have hx := hxo.1
  try have hs := hxo.2
  try have hxl := hx.len
  try have hx8 := hx.eight
  refine Ch.s (.d (.int .i64 j)) pm (Ch.s (.agg (vX x)) (.pure (.loadPtrA _ _ rfl ag35 sz35 rfl rfl (lb rfl) rfl)) (Ch.s (.d (.int .i64 sig)) pm (Ch.s (.d (.bool (up))) pm (Ch.s (.d (.slice false 1 ((exR x sig (up)).map intsD))) (.callFz 19000 86 _ _ _ en86 rfl (.inl rfl) (.cons lX (.cons (.d _) (.cons (.d _) .nil))) (solid_row intsU_sol _) (sp_spec_l17Regions x sig (up) a39 (by assumption) a113) (slice_froz (frozs_to intsU_fz _)) rfl) (Ch.s (.d (.int .i64 ((exR x sig (up)).length : Int))) (.pure (.len _ _ 55 rfl Tryz.underlying49 (.sh _ _) (by simp))) (Ch.s (.d (.int .i64 (((exR x sig (up)).length : Int) - 1))) (iX rfl rfl intV_subA) (Ch.s (.d (.bool (withinB j 0 (((exR x sig (up)).length : Int) - 1)))) (.call 22000 89 _ _ _ en89 rfl (.inl rfl) (.cons (.d _) (.cons (.d _) (.cons (.d _) .nil))) rfl rfl (sp_spec_l1In j 0 (((exR x sig (up)).length : Int) - 1)) (.skip _ _ (.skip _ _ (.skip _ _ .nil))) rfl) ?_)))))))
  refine Ch.s (.d (.bool (!(withinB j 0 (((exR x sig (up)).length : Int) - 1))))) (.pure (.not _ _ rfl rfl)) (Ch.s (.d (.bool (!(withinB j 0 (((exR x sig (up)).length : Int) - 1))))) (.pure (.pickF _ _ _ rfl rfl rfl)) (Ch.nil ?_))
  refine T_condN (b := (withinB j 0 (((exR x sig (up)).length : Int) - 1))) rfl (fun h2 => ?_) (fun h2 => ?_)
  ·
   try have hqb : qrB x sig up j = true := by (rw [qrB, h1, Bool.true_and]; first | assumption | (rw [exV_yes h1]; assumption))
   try have hqh := qrB_has hqb
   try have hrg := regAt_in hqb
   try have hrg2 := exR_in _ hrg
   try have hqi := exR_in _ (getD_mem (l := exR x sig up) (j := j.toNat) (d := default) hqh.2.2)
   try have hve := exV_yes (up := up) h1
   try have hqlen : j.toNat < (exV x sig up).length := by (rw [hve]; exact hqh.2.2)
   try have hrx : (exV x sig up).getD j.toNat default = regAt x sig up j := by (rw [hve]; rfl)
   try have hrq : ∀ a ∈ (exV x sig up).getD j.toNat default, (0 ≤ a ∧ a.toNat < x.codes.length) ∧ a ∈ excS x sig up := by (rw [hrx]; exact hrg2.2.2)
   try have hrql : ((exV x sig up).getD j.toNat default).length ≤ 1048576 := by (rw [hrx]; omega)
   try have hrql2 : ((exR x sig up).getD j.toNat default).length ≤ 1048576 := by (show (regAt x sig up j).length ≤ 1048576; omega)
   refine T_seq (T_region hc (Ch.s (.c (.slice none 0 0)) pa (Ch.s (.d (.bool false)) pa (Ch.nil (T_ret ?_)))))
   exact endR [(.c (.slice none 0 0)), (.d (.bool false))] [] [] (.cons (.tmp 8 rfl) (.cons (.tmp 9 rfl) .nil)) (.cons (.any _) (.cons (.any _) (.cons (.any _) (.cons (.any _) .nil)))) (.tup (.cons (Exp.of (congrArg (D.slice true 1) a8) (.nil true 1)) (.cons (Exp.of (congrArg D.bool a8) (.d _)) .nil))) rfl rfl
  ·
   try have hqb : qrB x sig up j = true := by (rw [qrB, h1, Bool.true_and]; first | assumption | (rw [exV_yes h1]; assumption))
   try have hqh := qrB_has hqb
   try have hrg := regAt_in hqb
   try have hrg2 := exR_in _ hrg
   try have hqi := exR_in _ (getD_mem (l := exR x sig up) (j := j.toNat) (d := default) hqh.2.2)
   try have hve := exV_yes (up := up) h1
   try have hqlen : j.toNat < (exV x sig up).length := by (rw [hve]; exact hqh.2.2)
   try have hrx : (exV x sig up).getD j.toNat default = regAt x sig up j := by (rw [hve]; rfl)
   try have hrq : ∀ a ∈ (exV x sig up).getD j.toNat default, (0 ≤ a ∧ a.toNat < x.codes.length) ∧ a ∈ excS x sig up := by (rw [hrx]; exact hrg2.2.2)
   try have hrql : ((exV x sig up).getD j.toNat default).length ≤ 1048576 := by (rw [hrx]; omega)
   try have hrql2 : ((exR x sig up).getD j.toNat default).length ≤ 1048576 := by (show (regAt x sig up j).length ≤ 1048576; omega)
   refine T_skip (T_seq ?_)
   refine T_regionD hc (by kernel_rfl) ?_
   refine ChD.s (.agg (vX x)) [4000] (.pure (.loadPtrA _ _ rfl ag35 sz35 rfl rfl (lb rfl) rfl)) (ChD.s (.d (.int .i64 sig)) [] pm (ChD.s (.agg (vX x)) [4000] (.pure (.loadPtrA _ _ rfl ag35 sz35 rfl rfl (lb rfl) rfl)) (ChD.s (.d (.int .i64 sig)) [] pm (ChD.s (.d (.bool (up))) [] pm (ChD.s (.d (.slice false 1 ((exR x sig (up)).map intsD))) [] (.callFz 30000 86 _ _ _ en86 rfl (.inl rfl) (.cons lX (.cons (.d _) (.cons (.d _) .nil))) (solid_row intsU_sol _) (sp_spec_l17Regions x sig (up) a39 (by assumption) a113) (slice_froz (frozs_to intsU_fz _)) rfl) (ChD.s (.d (.int .i64 j)) [] pm (ChD.s (.d (.ref (.slice false 1 (((exR x sig (up)).getD ((j).toNat) default).map (fun n : Int => D.int .i64 n))))) [] (.pure (.idx _ _ _ 55 ((j).toNat) rfl Tryz.underlying49 sz55 rfl rfl (by omega) get_mapA)) ?_)))))))
   refine ChD.s (.d (.slice false 1 (((exR x sig (up)).getD ((j).toNat) default).map (fun n : Int => D.int .i64 n)))) [] (.pure (.loadRef1 _ _ rfl ag55 rfl rfl)) (ChD.s (.row 34000) [] (.call 34000 90 _ _ _ en90 rfl (.inl rfl) (.cons lX (.cons (.d _) (.cons (.d _) .nil))) rfl (sol (solid_row (fun _ => rfl) _) rfl) (sp_spec_l17Quiet x sig ((exR x sig (up)).getD ((j).toNat) default) a39 (by assumption) a39) (.skip _ _ (.skip _ _ (.skip _ _ .nil))) rfl) (ChD.s (.row 34000) [] pa (ChD.s (.d (.bool true)) [] pa ?_)))
   refine ChD.nil (And.intro ?_ (by kernel_rfl))
   refine T_ret ?_
   exact endR [(.row 34000), (.d (.bool true))] [] [34000] (.cons (.tmp 8 rfl) (.cons (.tmp 9 rfl) .nil)) (.cons (.any _) (.cons (.any _) (.cons (.any _) (.cons (.any _) .nil)))) (.tup (.cons (Exp.of (congrArg (D.slice true 1) a8) (.row rfl)) (.cons (Exp.of (congrArg D.bool a8) (.d _)) .nil))) rfl rfl
 | false =>
  try have hxo := exB_has (by assumption : exB x sig = true)
  try have hx := hxo.1
  try have hs := hxo.2
  try have hxl := hx.len
  try have hx8 := hx.eight
  refine Ch.skip rfl rfl (Ch.skip rfl rfl (Ch.skip rfl rfl (Ch.skip rfl rfl (Ch.skip rfl rfl (Ch.skip rfl rfl (Ch.skip rfl rfl (Ch.skip rfl rfl ?_)))))))
  refine Ch.skip rfl rfl (Ch.s (.d (.bool true)) (.pure (.pickT _ _ _ rfl rfl rfl)) (Ch.nil ?_))
  refine T_cond (b := true) rfl (fun _ => ?_) (fun h => nomatch h)
  refine T_seq (T_region hc (Ch.s (.c (.slice none 0 0)) pa (Ch.s (.d (.bool false)) pa (Ch.nil (T_ret ?_)))))
  exact endR [(.c (.slice none 0 0)), (.d (.bool false))] [] [] (.cons (.tmp 8 rfl) (.cons (.tmp 9 rfl) .nil)) (.cons (.any _) (.cons (.any _) (.cons (.any _) (.cons (.any _) .nil)))) (.tup (.cons (Exp.of (congrArg (D.slice true 1) a8) (.nil true 1)) (.cons (Exp.of (congrArg D.bool a8) (.d _)) .nil))) rfl rfl

def mn1 (x : Sgr) (r : List Int) (u : List UInt8) : Bool := r.any fun k => !hasB u (x.codes.getD k.toNat default)

def mP2 (x : Sgr) (r q : List Int) (u : List UInt8) (k : Nat) : Bool := hasB u (x.codes.getD k default) && (!hasI r (k : Int) && !hasI q (k : Int))

def mn2 (x : Sgr) (r q : List Int) (u : List UInt8) : Bool := (List.range x.codes.length).any (mP2 x r q u)

def mP3 (x : Sgr) (r : List Int) (u : List UInt8) (a : Arc) : Bool := !hasB u (x.codes.getD a.src.toNat default) && (hasB u (x.codes.getD a.dst.toNat default) && !hasI r a.dst)

def mn3 (x : Sgr) (r : List Int) (u : List UInt8) : Bool := x.arcs.any (mP3 x r u)

def monN (x : Sgr) (r q : List Int) (u : List UInt8) : Nat := if mn1 x r u then 1 else if mn2 x r q u then 2 else if mn3 x r u then 3 else 0

theorem mon_1 {x : Sgr} {r q : List Int} {u : List UInt8} (k : Nat) (hk : k < r.length) (h : hasB u (x.codes.getD (r.getD k default).toNat default) = false) : monN x r q u = 1 := by
 have : mn1 x r u = true := List.any_eq_true.2 ⟨_, getD_mem (d := default) hk, by rw [h]; rfl⟩
 rw [monN, if_pos this]

theorem mn1_no {x : Sgr} {r : List Int} {u : List UInt8} (h : ∀ j, j < r.length → hasB u (x.codes.getD (r.getD j default).toNat default) = true) : mn1 x r u = false := by
 unfold mn1
 rw [List.any_eq_false]
 intro a ha
 obtain ⟨j, hj, rfl⟩ := List.mem_iff_getElem.1 ha
 have := h j hj
 rw [show r.getD j default = r[j] by simp [hj]] at this
 rw [this]; simp

theorem mon_2 {x : Sgr} {r q : List Int} {u : List UInt8} (h1 : ∀ j, j < r.length → hasB u (x.codes.getD (r.getD j default).toNat default) = true) (m : Nat) (hm : m < x.codes.length) (h : mP2 x r q u m = true) : monN x r q u = 2 := by
 have : mn2 x r q u = true := List.any_eq_true.2 ⟨m, List.mem_range.2 hm, h⟩
 rw [monN, mn1_no h1, this]; rfl

theorem mn2_no {x : Sgr} {r q : List Int} {u : List UInt8} (h : ∀ j, j < x.codes.length → mP2 x r q u j = false) : mn2 x r q u = false := by
 unfold mn2
 rw [List.any_eq_false]
 intro a ha
 rw [h a (List.mem_range.1 ha)]; simp

theorem mon_3 {x : Sgr} {r q : List Int} {u : List UInt8} (h1 : ∀ j, j < r.length → hasB u (x.codes.getD (r.getD j default).toNat default) = true) (h2 : ∀ j, j < x.codes.length → mP2 x r q u j = false) (m : Nat) (hm : m < x.arcs.length) (h : mP3 x r u (x.arcs.getD m default) = true) : monN x r q u = 3 := by
 have : mn3 x r u = true := List.any_eq_true.2 ⟨_, getD_mem hm, h⟩
 rw [monN, mn1_no h1, mn2_no h2, this]; rfl

theorem mon_0 {x : Sgr} {r q : List Int} {u : List UInt8} (h1 : ∀ j, j < r.length → hasB u (x.codes.getD (r.getD j default).toNat default) = true) (h2 : ∀ j, j < x.codes.length → mP2 x r q u j = false) (h3 : ∀ j, j < x.arcs.length → mP3 x r u (x.arcs.getD j default) = false) : monN x r q u = 0 := by
 have : mn3 x r u = false := by
  unfold mn3
  rw [List.any_eq_false]
  intro a ha
  obtain ⟨j, hj, rfl⟩ := List.mem_iff_getElem.1 ha
  have := h3 j hj
  rw [show x.arcs.getD j default = x.arcs[j] by simp [hj]] at this
  rw [this]; simp
 rw [monN, mn1_no h1, mn2_no h2, this]; rfl

def cmB (x : Sgr) (sig : Int) (up : Bool) (i : Int) (u : List UInt8) : Bool := qrB x sig up i && cubeN u (x.sigs.length : Int)

def cmV (x : Sgr) (sig : Int) (up : Bool) (i : Int) (u : List UInt8) : Nat := if cmB x sig up i u then monN x (regAt x sig up i) (quietL x sig (regAt x sig up i)) u else 0

theorem cmV_yes {x : Sgr} {sig : Int} {up : Bool} {i : Int} {u : List UInt8} (h1 : qrB x sig up i = true) (h2 : cubeN u (x.sigs.length : Int) = true) : cmV x sig up i u = monN x (regAt x sig up i) (qrV x sig up i) u := by
 rw [cmV, cmB, h1, h2, qrV, h1]; rfl

theorem cmB_yes {x : Sgr} {sig : Int} {up : Bool} {i : Int} {u : List UInt8} (h1 : qrB x sig up i = true) (h2 : cubeN u (x.sigs.length : Int) = true) : cmB x sig up i u = true := by rw [cmB, h1, h2]; rfl

theorem cmB_no1 {x : Sgr} {sig : Int} {up : Bool} {i : Int} {u : List UInt8} (h1 : qrB x sig up i = false) : cmB x sig up i u = false := by rw [cmB, h1]; rfl

theorem cmB_no2 {x : Sgr} {sig : Int} {up : Bool} {i : Int} {u : List UInt8} (h2 : cubeN u (x.sigs.length : Int) = false) : cmB x sig up i u = false := by rw [cmB, h2, Bool.and_false]

theorem cmV_no {x : Sgr} {sig : Int} {up : Bool} {i : Int} {u : List UInt8} (h : cmB x sig up i u = false) : cmV x sig up i u = 0 := by rw [cmV, h]; rfl

set_option maxHeartbeats 2000000 in
theorem sp_impl_monotonous (x : Sgr) (r q : List Int) (u : List UInt8) (hb : x.bulk ≤ 1048576) (hx : SgOk x) (hr : ∀ a ∈ r, 0 ≤ a ∧ a.toNat < x.codes.length) (hrl : r.length ≤ 1048576) (hql : q.length ≤ 1048576) (hu : u.length = x.sigs.length) : Sp Tryz.prog 128 [(.agg [(.slice false 2 (x.sigs.map Sgn.d)), (.slice false 1 (x.codes.map D.str)), (.slice false 4 (x.arcs.map Arc.d))]), (.slice false 1 (r.map (fun n : Int => D.int .i64 n))), (.slice false 1 (q.map (fun n : Int => D.int .i64 n))), (.str u)] [.any, .any, .any, .any] (.int .i64 (monN x r q u : Int)) := by
 refine Sp_intro (lend := true) Tryz.func128 rfl rfl rfl (fun _ => rfl) (fun c hc hX => ?_)
 obtain ⟨hp0, hp1, hp2⟩ := Sgr.parts hb
 have hn0 := bulkF_len hp0
 have hn1 := bulk_len hp1
 have hx1 := bulk_mem hp1
 have hn2 := bulkF_len hp2; have hxl := hx.len; have hxf := hx.few; have hen := hx.ends; have hx8 := hx.eight; have hck : ∀ k : Int, 0 ≤ k → k.toNat < x.codes.length → (x.codes.getD k.toNat default).length = x.sigs.length := fun k h0 h1 => (codes_at hx.codes k h0 (by omega)).2
 refine T_seq (T_region hc (Ch.s (.ptr 4000 0) (.box 4000 _ _ rfl (.aggD _)) (Ch.s (.d (.int .i64 0)) pa (Ch.nil (T_seq (T_seq (T_region hc ?_)))))))
 refine Ch.s (.d (.slice false 1 (r.map (fun n : Int => D.int .i64 n)))) pm (Ch.s (.d (.int .i64 (r.length : Int))) (.pure (.len _ _ 3 rfl Tryz.underlying55 (.sh _ _) (by simp))) (Ch.s (.d (.int .i64 0)) pm (Ch.nil (T_block ?_))))
 refine T_loop (ι := Nat) (fun k => { n := 88, sl := [(1, (.d (.slice false 1 (r.map (fun n : Int => D.int .i64 n))))), (2, (.d (.slice false 1 (q.map (fun n : Int => D.int .i64 n))))), (3, (.d (.str u))), (4, (.ptr 4000 0)), (15, (.d (.slice false 1 (r.map (fun n : Int => D.int .i64 n))))), (16, (.d (.int .i64 (r.length : Int)))), (17, (.d (.int .i64 (k : Int))))], hp := [(4000, (some (.box (vX x))))], pin := [] }) (fun k => k ≤ r.length ∧ ∀ j, j < k → hasB u (x.codes.getD (r.getD j default).toNat default) = true) (fun k => r.length - k) ⟨0, ⟨by omega, fun j hj => by omega⟩, (Wk.of rfl rfl (ai rfl (ai rfl (ai rfl (ai rfl (ai rfl (ai rfl (ai (vI a105) trivial))))))) (ai rfl trivial))⟩ (fun k hp0 => ?_)
 refine T_seq (T_region hc (Ch.s (.d (.bool (decide ((k : Int) < (r.length : Int))))) (iX rfl rfl rfl) (Ch.nil (T_seq ?_))))
 refine T_condD (p := ((k : Int) < (r.length : Int))) rfl (fun h1 => ?_) (fun h1 => ?_)
 ·
  try have hrk := hr _ (getD_mem (l := r) (j := k) (d := default) (by omega))
  try have hlk := hck _ hrk.1 hrk.2
  refine T_skip (T_seq (T_block (T_seq (T_region hc (Ch.s (.d (.ref (.int .i64 (r.getD k default)))) (.pure (.idx _ _ _ 3 (k) rfl Tryz.underlying55 sz3 rfl rfl rfl get_mapA)) (Ch.s (.d (.int .i64 (r.getD k default))) (.pure (.loadRef1 _ _ rfl ag3 rfl rfl)) (Ch.s (.d (.int .i64 (r.getD k default))) pa ?_)))))))
  refine Ch.nil (T_seq (T_region hc (Ch.s (.d (.str u)) pm (Ch.s (.ptr 4000 1) (.pure (.fldPtr _ _ _ rfl fld35_1 rfl)) (Ch.s (.d (.slice false 1 (x.codes.map D.str))) (.pure (.loadPtr1 _ _ rfl ag23 rfl rfl rfl)) (Ch.s (.d (.int .i64 (r.getD k default))) pm (Ch.s (.d (.ref (.str (x.codes.getD (((r.getD k default)).toNat) default)))) (.pure (.idx _ _ _ 9 (((r.getD k default)).toNat) rfl Tryz.underlying23 sz9 rfl rfl (by omega) get_mapA)) ?_)))))))
  refine Ch.s (.d (.str (x.codes.getD (((r.getD k default)).toNat) default))) (.pure (.loadRef1 _ _ rfl ag9 rfl rfl)) (Ch.s (.d (.bool (hasB u (x.codes.getD (((r.getD k default)).toNat) default)))) (.call 27000 198 _ _ _ en198 rfl (.inl rfl) (.cons (.d _) (.cons (.d _) .nil)) rfl rfl (sp_impl_contains u (x.codes.getD (((r.getD k default)).toNat) default) a23 a23) (.skip _ _ (.skip _ _ .nil)) rfl) (Ch.s (.d (.bool (!(hasB u (x.codes.getD (((r.getD k default)).toNat) default))))) (.pure (.not _ _ rfl rfl)) (Ch.nil ?_)))
  refine T_condN (b := (hasB u (x.codes.getD (((r.getD k default)).toNat) default))) rfl (fun h2 => ?_) (fun h2 => ?_)
  ·
   refine T_seq (T_region hc (Ch.s (.d (.int .i64 1)) pa (Ch.nil (T_ret ?_))))
   exact endR [(.d (.int .i64 1))] [] [] (.cons (.tmp 8 rfl) .nil) (.cons (.any _) (.cons (.any _) (.cons (.any _) (.cons (.any _) .nil)))) (Exp.of (congrArg (D.int .i64) a4) (.d _)) rfl rfl
  ·
   refine T_skip (T_region hc (Ch.s (.d (.int .i64 ((k : Int) + 1))) (iX rfl rfl intV_addA) (Ch.s (.d (.int .i64 ((k : Int) + 1))) pm (Ch.nil ?_))))
   exact nx (k + 1) ⟨by omega, upto_succ hp0.2 (by assumption)⟩ (Wk.of rfl rfl (ai rfl (ai rfl (ai rfl (ai rfl (ai rfl (ai rfl (ai (vI a105) trivial))))))) (ai rfl trivial))
 ·
  try have hrk := hr _ (getD_mem (l := r) (j := k) (d := default) (by omega))
  try have hlk := hck _ hrk.1 hrk.2
  refine T_exit (T_seq (T_seq (T_region hc (Ch.s (.ptr 4000 1) (.pure (.fldPtr _ _ _ rfl fld35_1 rfl)) (Ch.s (.d (.slice false 1 (x.codes.map D.str))) (.pure (.loadPtr1 _ _ rfl ag23 rfl rfl rfl)) (Ch.s (.d (.int .i64 (x.codes.length : Int))) (.pure (.len _ _ 9 rfl Tryz.underlying23 (.sh _ _) (by simp))) (Ch.s (.d (.int .i64 0)) pm ?_)))))))
  refine Ch.nil (T_block ?_)
  refine T_loop (ι := Nat) (fun m => { n := 88, sl := [(1, (.d (.slice false 1 (r.map (fun n : Int => D.int .i64 n))))), (2, (.d (.slice false 1 (q.map (fun n : Int => D.int .i64 n))))), (3, (.d (.str u))), (4, (.ptr 4000 0)), (31, (.d (.slice false 1 (x.codes.map D.str)))), (32, (.d (.int .i64 (x.codes.length : Int)))), (33, (.d (.int .i64 (m : Int))))], hp := [(4000, (some (.box (vX x))))], pin := [] }) (fun m => m ≤ x.codes.length ∧ ∀ j, j < m → mP2 x r q u j = false) (fun m => x.codes.length - m) ⟨0, ⟨by omega, fun j hj => by omega⟩, (Wk.of rfl rfl (ai rfl (ai rfl (ai rfl (ai rfl (ai rfl (ai rfl (ai (vI a105) trivial))))))) (ai rfl trivial))⟩ (fun m hp1 => ?_)
  refine T_seq (T_region hc (Ch.s (.d (.bool (decide ((m : Int) < (x.codes.length : Int))))) (iX rfl rfl rfl) (Ch.nil (T_seq ?_))))
  refine T_condD (p := ((m : Int) < (x.codes.length : Int))) rfl (fun h3 => ?_) (fun h3 => ?_)
  ·
   try have hlm : (x.codes.getD m default).length = x.sigs.length := hck (m : Int) (by omega) (by omega)
   refine T_skip (T_seq (T_block (T_seq (T_region hc (Ch.s (.d (.int .i64 (m : Int))) pm (Ch.s (.d (.ref (.str (x.codes.getD m default)))) (.pure (.idx _ _ _ 9 (m) rfl Tryz.underlying23 sz9 rfl rfl rfl get_mapA)) (Ch.s (.d (.str (x.codes.getD m default))) (.pure (.loadRef1 _ _ rfl ag9 rfl rfl)) ?_)))))))
   refine Ch.s (.d (.int .i64 (m : Int))) pa (Ch.s (.d (.str (x.codes.getD m default))) pa (Ch.nil (T_seq (T_region hc (Ch.s (.d (.str u)) pm (Ch.s (.d (.str (x.codes.getD m default))) pm (Ch.s (.d (.bool (hasB u (x.codes.getD m default)))) (.call 40000 198 _ _ _ en198 rfl (.inl rfl) (.cons (.d _) (.cons (.d _) .nil)) rfl rfl (sp_impl_contains u (x.codes.getD m default) a23 a23) (.skip _ _ (.skip _ _ .nil)) rfl) ?_)))))))
   refine Ch.s (.d (.bool (hasB u (x.codes.getD m default)))) pm ?_
   cases h4 : (hasB u (x.codes.getD m default)) with
   | true =>
    refine Ch.s (.d (.slice false 1 (r.map (fun n : Int => D.int .i64 n)))) pm (Ch.s (.d (.int .i64 (m : Int))) pm (Ch.s (.d (.bool (hasI r (m : Int)))) (.call 44000 160 _ _ _ en160 rfl (.inl rfl) (.cons (.d _) (.cons (.d _) .nil)) rfl rfl (sp_Contains_int r (m : Int) a39) (.skip _ _ (.skip _ _ .nil)) rfl) (Ch.s (.d (.bool (!(hasI r (m : Int))))) (.pure (.not _ _ rfl rfl)) (Ch.s (.d (.bool (!(hasI r (m : Int))))) (.pure (.pickT _ _ _ rfl rfl rfl)) (Ch.s (.d (.bool (!(hasI r (m : Int))))) pm ?_)))))
    cases h5 : (hasI r (m : Int)) with
    | true =>
     refine Ch.skip rfl rfl (Ch.skip rfl rfl (Ch.skip rfl rfl (Ch.skip rfl rfl (Ch.s (.d (.bool false)) (.pure (.pickF _ _ _ rfl rfl rfl)) (Ch.nil ?_)))))
     refine T_cond (b := false) rfl (fun h => nomatch h) (fun _ => ?_)
     refine T_skip (T_region hc (Ch.s (.d (.int .i64 ((m : Int) + 1))) (iX rfl rfl intV_addA) (Ch.s (.d (.int .i64 ((m : Int) + 1))) pm (Ch.nil ?_))))
     exact nx (m + 1) ⟨by omega, upto_succ hp1.2 a67⟩ (Wk.of rfl rfl (ai rfl (ai rfl (ai rfl (ai rfl (ai rfl (ai rfl (ai (vI a105) trivial))))))) (ai rfl trivial))
    | false =>
     refine Ch.s (.d (.slice false 1 (q.map (fun n : Int => D.int .i64 n)))) pm (Ch.s (.d (.int .i64 (m : Int))) pm (Ch.s (.d (.bool (hasI q (m : Int)))) (.call 50000 160 _ _ _ en160 rfl (.inl rfl) (.cons (.d _) (.cons (.d _) .nil)) rfl rfl (sp_Contains_int q (m : Int) a39) (.skip _ _ (.skip _ _ .nil)) rfl) (Ch.s (.d (.bool (!(hasI q (m : Int))))) (.pure (.not _ _ rfl rfl)) (Ch.s (.d (.bool (!(hasI q (m : Int))))) (.pure (.pickT _ _ _ rfl rfl rfl)) (Ch.nil ?_)))))
     refine T_condN (b := (hasI q (m : Int))) rfl (fun h6 => ?_) (fun h6 => ?_)
     ·
      refine T_seq (T_region hc (Ch.s (.d (.int .i64 2)) pa (Ch.nil (T_ret ?_))))
      exact endR [(.d (.int .i64 2))] [] [] (.cons (.tmp 8 rfl) .nil) (.cons (.any _) (.cons (.any _) (.cons (.any _) (.cons (.any _) .nil)))) (Exp.of (congrArg (D.int .i64) a4) (.d _)) rfl rfl
     ·
      refine T_skip (T_region hc (Ch.s (.d (.int .i64 ((m : Int) + 1))) (iX rfl rfl intV_addA) (Ch.s (.d (.int .i64 ((m : Int) + 1))) pm (Ch.nil ?_))))
      exact nx (m + 1) ⟨by omega, upto_succ hp1.2 a67⟩ (Wk.of rfl rfl (ai rfl (ai rfl (ai rfl (ai rfl (ai rfl (ai rfl (ai (vI a105) trivial))))))) (ai rfl trivial))
   | false =>
    refine Ch.skip rfl rfl (Ch.skip rfl rfl (Ch.skip rfl rfl (Ch.skip rfl rfl (Ch.s (.d (.bool false)) (.pure (.pickF _ _ _ rfl rfl rfl)) (Ch.s (.d (.bool false)) pm (Ch.skip rfl rfl (Ch.skip rfl rfl ?_)))))))
    refine Ch.skip rfl rfl (Ch.skip rfl rfl (Ch.s (.d (.bool false)) (.pure (.pickF _ _ _ rfl rfl rfl)) (Ch.nil ?_)))
    refine T_cond (b := false) rfl (fun h => nomatch h) (fun _ => ?_)
    refine T_skip (T_region hc (Ch.s (.d (.int .i64 ((m : Int) + 1))) (iX rfl rfl intV_addA) (Ch.s (.d (.int .i64 ((m : Int) + 1))) pm (Ch.nil ?_))))
    exact nx (m + 1) ⟨by omega, upto_succ hp1.2 a67⟩ (Wk.of rfl rfl (ai rfl (ai rfl (ai rfl (ai rfl (ai rfl (ai rfl (ai (vI a105) trivial))))))) (ai rfl trivial))
  ·
   try have hlm : (x.codes.getD m default).length = x.sigs.length := hck (m : Int) (by omega) (by omega)
   refine T_exit (T_seq (T_seq (T_region hc (Ch.s (.ptr 4000 2) (.pure (.fldPtr _ _ _ rfl fld35_2 rfl)) (Ch.s (.d (.slice false 4 (x.arcs.map Arc.d))) (.pure (.loadPtr1 _ _ rfl ag33 rfl rfl rfl)) (Ch.s (.d (.int .i64 (x.arcs.length : Int))) (.pure (.len _ _ 125 rfl Tryz.underlying33 (.sh _ _) (by simp))) (Ch.s (.d (.int .i64 0)) pm ?_)))))))
   refine Ch.nil (T_block ?_)
   refine T_loop (ι := Nat) (fun v => { n := 88, sl := [(1, (.d (.slice false 1 (r.map (fun n : Int => D.int .i64 n))))), (3, (.d (.str u))), (4, (.ptr 4000 0)), (55, (.d (.slice false 4 (x.arcs.map Arc.d)))), (56, (.d (.int .i64 (x.arcs.length : Int)))), (57, (.d (.int .i64 (v : Int))))], hp := [(4000, (some (.box (vX x))))], pin := [] }) (fun v => v ≤ x.arcs.length ∧ ∀ j, j < v → mP3 x r u (x.arcs.getD j default) = false) (fun v => x.arcs.length - v) ⟨0, ⟨by omega, fun j hj => by omega⟩, (Wk.of rfl rfl (ai rfl (ai rfl (ai rfl (ai rfl (ai rfl (ai (vI a105) trivial)))))) (ai rfl trivial))⟩ (fun v hp2 => ?_)
   refine T_seq (T_region hc (Ch.s (.d (.bool (decide ((v : Int) < (x.arcs.length : Int))))) (iX rfl rfl rfl) (Ch.nil (T_seq ?_))))
   refine T_condD (p := ((v : Int) < (x.arcs.length : Int))) rfl (fun h7 => ?_) (fun h7 => ?_)
   ·
    try have hek := hen _ (getD_mem (l := x.arcs) (j := v) (d := default) (by omega))
    try have hls := hck _ hek.1.1 hek.1.2
    try have hld := hck _ hek.2.1 hek.2.2
    refine T_skip (T_seq (T_block (T_seq (T_region hc (Ch.s (.d (.ref (.agg [(.int .i64 ((x.arcs.getD v default).src)), (.int .i64 ((x.arcs.getD v default).sig)), (.bool ((x.arcs.getD v default).up)), (.int .i64 ((x.arcs.getD v default).dst))]))) (.pure (.idx _ _ _ 125 (v) rfl Tryz.underlying33 sz125 rfl rfl rfl get_mapA)) (Ch.s (.d (.agg [(.int .i64 ((x.arcs.getD v default).src)), (.int .i64 ((x.arcs.getD v default).sig)), (.bool ((x.arcs.getD v default).up)), (.int .i64 ((x.arcs.getD v default).dst))])) (.pure (.loadRefA _ _ rfl ag125 sz125 rfl)) (Ch.s (.ptr 14000 0) (.alloc 14000 _ rfl zer125) ?_)))))))
    refine Ch.s .junk (.storePtr _ _ _ rfl rfl rfl (.aggD _) sz125 (lb rfl)) (Ch.nil (T_seq (T_region hc (Ch.s (.d (.str u)) pm (Ch.s (.ptr 4000 1) (.pure (.fldPtr _ _ _ rfl fld35_1 rfl)) (Ch.s (.d (.slice false 1 (x.codes.map D.str))) (.pure (.loadPtr1 _ _ rfl ag23 rfl rfl rfl)) (Ch.s (.ptr 14000 0) (.pure (.fldPtr _ _ _ rfl fld125_0 rfl)) ?_)))))))
    refine Ch.s (.d (.int .i64 ((x.arcs.getD v default).src))) (.pure (.loadPtr1 _ _ rfl ag3 rfl rfl rfl)) (Ch.s (.d (.ref (.str (x.codes.getD ((((x.arcs.getD v default).src)).toNat) default)))) (.pure (.idx _ _ _ 9 ((((x.arcs.getD v default).src)).toNat) rfl Tryz.underlying23 sz9 rfl rfl (by omega) get_mapA)) (Ch.s (.d (.str (x.codes.getD ((((x.arcs.getD v default).src)).toNat) default))) (.pure (.loadRef1 _ _ rfl ag9 rfl rfl)) (Ch.s (.d (.bool (hasB u (x.codes.getD ((((x.arcs.getD v default).src)).toNat) default)))) (.call 68000 198 _ _ _ en198 rfl (.inl rfl) (.cons (.d _) (.cons (.d _) .nil)) rfl rfl (sp_impl_contains u (x.codes.getD ((((x.arcs.getD v default).src)).toNat) default) a23 a23) (.skip _ _ (.skip _ _ .nil)) rfl) (Ch.s (.d (.bool (!(hasB u (x.codes.getD ((((x.arcs.getD v default).src)).toNat) default))))) (.pure (.not _ _ rfl rfl)) (Ch.s (.d (.bool (!(hasB u (x.codes.getD ((((x.arcs.getD v default).src)).toNat) default))))) pm ?_)))))
    cases h8 : (hasB u (x.codes.getD ((((x.arcs.getD v default).src)).toNat) default)) with
    | true =>
     refine Ch.skip rfl rfl (Ch.skip rfl rfl (Ch.skip rfl rfl (Ch.skip rfl rfl (Ch.skip rfl rfl (Ch.skip rfl rfl (Ch.skip rfl rfl (Ch.skip rfl rfl ?_)))))))
     refine Ch.s (.d (.bool false)) (.pure (.pickF _ _ _ rfl rfl rfl)) (Ch.s (.d (.bool false)) pm (Ch.skip rfl rfl (Ch.skip rfl rfl (Ch.skip rfl rfl (Ch.skip rfl rfl (Ch.skip rfl rfl (Ch.s (.d (.bool false)) (.pure (.pickF _ _ _ rfl rfl rfl)) ?_)))))))
     refine Ch.nil ?_
     refine T_cond (b := false) rfl (fun h => nomatch h) (fun _ => ?_)
     refine T_skip (T_region hc (Ch.s (.d (.int .i64 ((v : Int) + 1))) (iX rfl rfl intV_addA) (Ch.s (.d (.int .i64 ((v : Int) + 1))) pm (Ch.nil ?_))))
     exact nx (v + 1) ⟨by omega, upto_succ hp2.2 a68⟩ (Wk.of rfl rfl (ai rfl (ai rfl (ai rfl (ai rfl (ai rfl (ai (vI a105) trivial)))))) (ai rfl trivial))
    | false =>
     refine Ch.s (.d (.str u)) pm (Ch.s (.ptr 4000 1) (.pure (.fldPtr _ _ _ rfl fld35_1 rfl)) (Ch.s (.d (.slice false 1 (x.codes.map D.str))) (.pure (.loadPtr1 _ _ rfl ag23 rfl rfl rfl)) (Ch.s (.ptr 14000 3) (.pure (.fldPtr _ _ _ rfl fld125_3 rfl)) (Ch.s (.d (.int .i64 ((x.arcs.getD v default).dst))) (.pure (.loadPtr1 _ _ rfl ag3 rfl rfl rfl)) (Ch.s (.d (.ref (.str (x.codes.getD ((((x.arcs.getD v default).dst)).toNat) default)))) (.pure (.idx _ _ _ 9 ((((x.arcs.getD v default).dst)).toNat) rfl Tryz.underlying23 sz9 rfl rfl (by omega) get_mapA)) (Ch.s (.d (.str (x.codes.getD ((((x.arcs.getD v default).dst)).toNat) default))) (.pure (.loadRef1 _ _ rfl ag9 rfl rfl)) (Ch.s (.d (.bool (hasB u (x.codes.getD ((((x.arcs.getD v default).dst)).toNat) default)))) (.call 78000 198 _ _ _ en198 rfl (.inl rfl) (.cons (.d _) (.cons (.d _) .nil)) rfl rfl (sp_impl_contains u (x.codes.getD ((((x.arcs.getD v default).dst)).toNat) default) a23 a23) (.skip _ _ (.skip _ _ .nil)) rfl) ?_)))))))
     refine Ch.s (.d (.bool (hasB u (x.codes.getD ((((x.arcs.getD v default).dst)).toNat) default)))) (.pure (.pickT _ _ _ rfl rfl rfl)) (Ch.s (.d (.bool (hasB u (x.codes.getD ((((x.arcs.getD v default).dst)).toNat) default)))) pm ?_)
     cases h9 : (hasB u (x.codes.getD ((((x.arcs.getD v default).dst)).toNat) default)) with
     | true =>
      refine Ch.s (.d (.slice false 1 (r.map (fun n : Int => D.int .i64 n)))) pm (Ch.s (.ptr 14000 3) (.pure (.fldPtr _ _ _ rfl fld125_3 rfl)) (Ch.s (.d (.int .i64 ((x.arcs.getD v default).dst))) (.pure (.loadPtr1 _ _ rfl ag3 rfl rfl rfl)) (Ch.s (.d (.bool (hasI r ((x.arcs.getD v default).dst)))) (.call 84000 160 _ _ _ en160 rfl (.inl rfl) (.cons (.d _) (.cons (.d _) .nil)) rfl rfl (sp_Contains_int r ((x.arcs.getD v default).dst) a39) (.skip _ _ (.skip _ _ .nil)) rfl) (Ch.s (.d (.bool (!(hasI r ((x.arcs.getD v default).dst))))) (.pure (.not _ _ rfl rfl)) (Ch.s (.d (.bool (!(hasI r ((x.arcs.getD v default).dst))))) (.pure (.pickT _ _ _ rfl rfl rfl)) (Ch.nil ?_))))))
      refine T_condN (b := (hasI r ((x.arcs.getD v default).dst))) rfl (fun h10 => ?_) (fun h10 => ?_)
      ·
       refine T_seq (T_region hc (Ch.s (.d (.int .i64 3)) pa (Ch.nil (T_ret ?_))))
       exact endR [(.d (.int .i64 3))] [] [] (.cons (.tmp 8 rfl) .nil) (.cons (.any _) (.cons (.any _) (.cons (.any _) (.cons (.any _) .nil)))) (Exp.of (congrArg (D.int .i64) a4) (.d _)) rfl rfl
      ·
       refine T_skip (T_region hc (Ch.s (.d (.int .i64 ((v : Int) + 1))) (iX rfl rfl intV_addA) (Ch.s (.d (.int .i64 ((v : Int) + 1))) pm (Ch.nil ?_))))
       exact nx (v + 1) ⟨by omega, upto_succ hp2.2 a68⟩ (Wk.of rfl rfl (ai rfl (ai rfl (ai rfl (ai rfl (ai rfl (ai (vI a105) trivial)))))) (ai rfl trivial))
     | false =>
      refine Ch.skip rfl rfl (Ch.skip rfl rfl (Ch.skip rfl rfl (Ch.skip rfl rfl (Ch.skip rfl rfl (Ch.s (.d (.bool false)) (.pure (.pickF _ _ _ rfl rfl rfl)) (Ch.nil ?_))))))
      refine T_cond (b := false) rfl (fun h => nomatch h) (fun _ => ?_)
      refine T_skip (T_region hc (Ch.s (.d (.int .i64 ((v : Int) + 1))) (iX rfl rfl intV_addA) (Ch.s (.d (.int .i64 ((v : Int) + 1))) pm (Ch.nil ?_))))
      exact nx (v + 1) ⟨by omega, upto_succ hp2.2 a68⟩ (Wk.of rfl rfl (ai rfl (ai rfl (ai rfl (ai rfl (ai rfl (ai (vI a105) trivial)))))) (ai rfl trivial))
   ·
    try have hek := hen _ (getD_mem (l := x.arcs) (j := v) (d := default) (by omega))
    try have hls := hck _ hek.1.1 hek.1.2
    try have hld := hck _ hek.2.1 hek.2.2
    refine T_exit (T_seq (T_region hc (Ch.s (.d (.int .i64 0)) pa (Ch.nil (T_ret ?_)))))
    exact endR [(.d (.int .i64 0))] [] [] (.cons (.tmp 8 rfl) .nil) (.cons (.any _) (.cons (.any _) (.cons (.any _) (.cons (.any _) .nil)))) (Exp.of (congrArg (D.int .i64) a4) (.d _)) rfl rfl

set_option maxHeartbeats 2000000 in
theorem sp_spec_l17Why (x : Sgr) (r q : List Int) (u : List UInt8) (hb : x.bulk ≤ 1048576) (hx : SgOk x) (hr : ∀ a ∈ r, 0 ≤ a ∧ a.toNat < x.codes.length) (hrl : r.length ≤ 1048576) (hql : q.length ≤ 1048576) (hu : u.length = x.sigs.length) : Sp Tryz.prog 126 [(.agg [(.slice false 2 (x.sigs.map Sgn.d)), (.slice false 1 (x.codes.map D.str)), (.slice false 4 (x.arcs.map Arc.d))]), (.slice false 1 (r.map (fun n : Int => D.int .i64 n))), (.slice false 1 (q.map (fun n : Int => D.int .i64 n))), (.str u)] [.any, .any, .any, .any] (.int .i64 (monN x r q u : Int)) := by
 refine Sp_intro (lend := true) Tryz.func126 rfl rfl rfl (fun _ => rfl) (fun c hc hX => ?_)
 obtain ⟨hp0, hp1, hp2⟩ := Sgr.parts hb
 have hn0 := bulkF_len hp0
 have hn1 := bulk_len hp1
 have hx1 := bulk_mem hp1
 have hn2 := bulkF_len hp2; have hxl := hx.len; have hxf := hx.few; have hen := hx.ends; have hx8 := hx.eight; have hck : ∀ k : Int, 0 ≤ k → k.toNat < x.codes.length → (x.codes.getD k.toNat default).length = x.sigs.length := fun k h0 h1 => (codes_at hx.codes k h0 (by omega)).2
 refine T_seq (T_region hc (Ch.s (.ptr 4000 0) (.box 4000 _ _ rfl (.aggD _)) (Ch.s (.d (.int .i64 0)) pa (Ch.nil (T_seq (T_seq (T_region hc ?_)))))))
 refine Ch.s (.d (.slice false 1 (r.map (fun n : Int => D.int .i64 n)))) pm (Ch.s (.d (.int .i64 (r.length : Int))) (.pure (.len _ _ 3 rfl Tryz.underlying55 (.sh _ _) (by simp))) (Ch.s (.d (.int .i64 0)) pm (Ch.nil (T_block ?_))))
 refine T_loop (ι := Nat) (fun k => { n := 88, sl := [(1, (.d (.slice false 1 (r.map (fun n : Int => D.int .i64 n))))), (2, (.d (.slice false 1 (q.map (fun n : Int => D.int .i64 n))))), (3, (.d (.str u))), (4, (.ptr 4000 0)), (15, (.d (.slice false 1 (r.map (fun n : Int => D.int .i64 n))))), (16, (.d (.int .i64 (r.length : Int)))), (17, (.d (.int .i64 (k : Int))))], hp := [(4000, (some (.box (vX x))))], pin := [] }) (fun k => k ≤ r.length ∧ ∀ j, j < k → hasB u (x.codes.getD (r.getD j default).toNat default) = true) (fun k => r.length - k) ⟨0, ⟨by omega, fun j hj => by omega⟩, (Wk.of rfl rfl (ai rfl (ai rfl (ai rfl (ai rfl (ai rfl (ai rfl (ai (vI a105) trivial))))))) (ai rfl trivial))⟩ (fun k hp0 => ?_)
 refine T_seq (T_region hc (Ch.s (.d (.bool (decide ((k : Int) < (r.length : Int))))) (iX rfl rfl rfl) (Ch.nil (T_seq ?_))))
 refine T_condD (p := ((k : Int) < (r.length : Int))) rfl (fun h1 => ?_) (fun h1 => ?_)
 ·
  try have hrk := hr _ (getD_mem (l := r) (j := k) (d := default) (by omega))
  try have hlk := hck _ hrk.1 hrk.2
  refine T_skip (T_seq (T_block (T_seq (T_region hc (Ch.s (.d (.ref (.int .i64 (r.getD k default)))) (.pure (.idx _ _ _ 3 (k) rfl Tryz.underlying55 sz3 rfl rfl rfl get_mapA)) (Ch.s (.d (.int .i64 (r.getD k default))) (.pure (.loadRef1 _ _ rfl ag3 rfl rfl)) (Ch.s (.d (.int .i64 (r.getD k default))) pa ?_)))))))
  refine Ch.nil (T_seq (T_region hc (Ch.s (.d (.str u)) pm (Ch.s (.ptr 4000 1) (.pure (.fldPtr _ _ _ rfl fld35_1 rfl)) (Ch.s (.d (.slice false 1 (x.codes.map D.str))) (.pure (.loadPtr1 _ _ rfl ag23 rfl rfl rfl)) (Ch.s (.d (.int .i64 (r.getD k default))) pm (Ch.s (.d (.ref (.str (x.codes.getD (((r.getD k default)).toNat) default)))) (.pure (.idx _ _ _ 9 (((r.getD k default)).toNat) rfl Tryz.underlying23 sz9 rfl rfl (by omega) get_mapA)) ?_)))))))
  refine Ch.s (.d (.str (x.codes.getD (((r.getD k default)).toNat) default))) (.pure (.loadRef1 _ _ rfl ag9 rfl rfl)) (Ch.s (.d (.bool (hasB u (x.codes.getD (((r.getD k default)).toNat) default)))) (.call 27000 197 _ _ _ en197 rfl (.inl rfl) (.cons (.d _) (.cons (.d _) .nil)) rfl rfl (sp_spec_l13Has u (x.codes.getD (((r.getD k default)).toNat) default) a23 a23) (.skip _ _ (.skip _ _ .nil)) rfl) (Ch.s (.d (.bool (!(hasB u (x.codes.getD (((r.getD k default)).toNat) default))))) (.pure (.not _ _ rfl rfl)) (Ch.nil ?_)))
  refine T_condN (b := (hasB u (x.codes.getD (((r.getD k default)).toNat) default))) rfl (fun h2 => ?_) (fun h2 => ?_)
  ·
   refine T_seq (T_region hc (Ch.s (.d (.int .i64 1)) pa (Ch.nil (T_ret ?_))))
   exact endR [(.d (.int .i64 1))] [] [] (.cons (.tmp 8 rfl) .nil) (.cons (.any _) (.cons (.any _) (.cons (.any _) (.cons (.any _) .nil)))) (Exp.of (congrArg (D.int .i64) a4) (.d _)) rfl rfl
  ·
   refine T_skip (T_region hc (Ch.s (.d (.int .i64 ((k : Int) + 1))) (iX rfl rfl intV_addA) (Ch.s (.d (.int .i64 ((k : Int) + 1))) pm (Ch.nil ?_))))
   exact nx (k + 1) ⟨by omega, upto_succ hp0.2 (by assumption)⟩ (Wk.of rfl rfl (ai rfl (ai rfl (ai rfl (ai rfl (ai rfl (ai rfl (ai (vI a105) trivial))))))) (ai rfl trivial))
 ·
  try have hrk := hr _ (getD_mem (l := r) (j := k) (d := default) (by omega))
  try have hlk := hck _ hrk.1 hrk.2
  refine T_exit (T_seq (T_seq (T_region hc (Ch.s (.ptr 4000 1) (.pure (.fldPtr _ _ _ rfl fld35_1 rfl)) (Ch.s (.d (.slice false 1 (x.codes.map D.str))) (.pure (.loadPtr1 _ _ rfl ag23 rfl rfl rfl)) (Ch.s (.d (.int .i64 (x.codes.length : Int))) (.pure (.len _ _ 9 rfl Tryz.underlying23 (.sh _ _) (by simp))) (Ch.s (.d (.int .i64 0)) pm ?_)))))))
  refine Ch.nil (T_block ?_)
  refine T_loop (ι := Nat) (fun m => { n := 88, sl := [(1, (.d (.slice false 1 (r.map (fun n : Int => D.int .i64 n))))), (2, (.d (.slice false 1 (q.map (fun n : Int => D.int .i64 n))))), (3, (.d (.str u))), (4, (.ptr 4000 0)), (31, (.d (.slice false 1 (x.codes.map D.str)))), (32, (.d (.int .i64 (x.codes.length : Int)))), (33, (.d (.int .i64 (m : Int))))], hp := [(4000, (some (.box (vX x))))], pin := [] }) (fun m => m ≤ x.codes.length ∧ ∀ j, j < m → mP2 x r q u j = false) (fun m => x.codes.length - m) ⟨0, ⟨by omega, fun j hj => by omega⟩, (Wk.of rfl rfl (ai rfl (ai rfl (ai rfl (ai rfl (ai rfl (ai rfl (ai (vI a105) trivial))))))) (ai rfl trivial))⟩ (fun m hp1 => ?_)
  refine T_seq (T_region hc (Ch.s (.d (.bool (decide ((m : Int) < (x.codes.length : Int))))) (iX rfl rfl rfl) (Ch.nil (T_seq ?_))))
  refine T_condD (p := ((m : Int) < (x.codes.length : Int))) rfl (fun h3 => ?_) (fun h3 => ?_)
  ·
   try have hlm : (x.codes.getD m default).length = x.sigs.length := hck (m : Int) (by omega) (by omega)
   refine T_skip (T_seq (T_block (T_seq (T_region hc (Ch.s (.d (.int .i64 (m : Int))) pm (Ch.s (.d (.ref (.str (x.codes.getD m default)))) (.pure (.idx _ _ _ 9 (m) rfl Tryz.underlying23 sz9 rfl rfl rfl get_mapA)) (Ch.s (.d (.str (x.codes.getD m default))) (.pure (.loadRef1 _ _ rfl ag9 rfl rfl)) ?_)))))))
   refine Ch.s (.d (.int .i64 (m : Int))) pa (Ch.s (.d (.str (x.codes.getD m default))) pa (Ch.nil (T_seq (T_region hc (Ch.s (.d (.str u)) pm (Ch.s (.d (.str (x.codes.getD m default))) pm (Ch.s (.d (.bool (hasB u (x.codes.getD m default)))) (.call 40000 197 _ _ _ en197 rfl (.inl rfl) (.cons (.d _) (.cons (.d _) .nil)) rfl rfl (sp_spec_l13Has u (x.codes.getD m default) a23 a23) (.skip _ _ (.skip _ _ .nil)) rfl) ?_)))))))
   refine Ch.s (.d (.bool (hasB u (x.codes.getD m default)))) pm ?_
   cases h4 : (hasB u (x.codes.getD m default)) with
   | true =>
    refine Ch.s (.d (.slice false 1 (r.map (fun n : Int => D.int .i64 n)))) pm (Ch.s (.d (.int .i64 (m : Int))) pm (Ch.s (.d (.bool (hasI r (m : Int)))) (.call 44000 157 _ _ _ en157 rfl (.inl rfl) (.cons (.d _) (.cons (.d _) .nil)) rfl rfl (sp_spec_l1Has r (m : Int) a39) (.skip _ _ (.skip _ _ .nil)) rfl) (Ch.s (.d (.bool (!(hasI r (m : Int))))) (.pure (.not _ _ rfl rfl)) (Ch.s (.d (.bool (!(hasI r (m : Int))))) (.pure (.pickT _ _ _ rfl rfl rfl)) (Ch.s (.d (.bool (!(hasI r (m : Int))))) pm ?_)))))
    cases h5 : (hasI r (m : Int)) with
    | true =>
     refine Ch.skip rfl rfl (Ch.skip rfl rfl (Ch.skip rfl rfl (Ch.skip rfl rfl (Ch.s (.d (.bool false)) (.pure (.pickF _ _ _ rfl rfl rfl)) (Ch.nil ?_)))))
     refine T_cond (b := false) rfl (fun h => nomatch h) (fun _ => ?_)
     refine T_skip (T_region hc (Ch.s (.d (.int .i64 ((m : Int) + 1))) (iX rfl rfl intV_addA) (Ch.s (.d (.int .i64 ((m : Int) + 1))) pm (Ch.nil ?_))))
     exact nx (m + 1) ⟨by omega, upto_succ hp1.2 a67⟩ (Wk.of rfl rfl (ai rfl (ai rfl (ai rfl (ai rfl (ai rfl (ai rfl (ai (vI a105) trivial))))))) (ai rfl trivial))
    | false =>
     refine Ch.s (.d (.slice false 1 (q.map (fun n : Int => D.int .i64 n)))) pm (Ch.s (.d (.int .i64 (m : Int))) pm (Ch.s (.d (.bool (hasI q (m : Int)))) (.call 50000 157 _ _ _ en157 rfl (.inl rfl) (.cons (.d _) (.cons (.d _) .nil)) rfl rfl (sp_spec_l1Has q (m : Int) a39) (.skip _ _ (.skip _ _ .nil)) rfl) (Ch.s (.d (.bool (!(hasI q (m : Int))))) (.pure (.not _ _ rfl rfl)) (Ch.s (.d (.bool (!(hasI q (m : Int))))) (.pure (.pickT _ _ _ rfl rfl rfl)) (Ch.nil ?_)))))
     refine T_condN (b := (hasI q (m : Int))) rfl (fun h6 => ?_) (fun h6 => ?_)
     ·
      refine T_seq (T_region hc (Ch.s (.d (.int .i64 2)) pa (Ch.nil (T_ret ?_))))
      exact endR [(.d (.int .i64 2))] [] [] (.cons (.tmp 8 rfl) .nil) (.cons (.any _) (.cons (.any _) (.cons (.any _) (.cons (.any _) .nil)))) (Exp.of (congrArg (D.int .i64) a4) (.d _)) rfl rfl
     ·
      refine T_skip (T_region hc (Ch.s (.d (.int .i64 ((m : Int) + 1))) (iX rfl rfl intV_addA) (Ch.s (.d (.int .i64 ((m : Int) + 1))) pm (Ch.nil ?_))))
      exact nx (m + 1) ⟨by omega, upto_succ hp1.2 a67⟩ (Wk.of rfl rfl (ai rfl (ai rfl (ai rfl (ai rfl (ai rfl (ai rfl (ai (vI a105) trivial))))))) (ai rfl trivial))
   | false =>
    refine Ch.skip rfl rfl (Ch.skip rfl rfl (Ch.skip rfl rfl (Ch.skip rfl rfl (Ch.s (.d (.bool false)) (.pure (.pickF _ _ _ rfl rfl rfl)) (Ch.s (.d (.bool false)) pm (Ch.skip rfl rfl (Ch.skip rfl rfl ?_)))))))
    refine Ch.skip rfl rfl (Ch.skip rfl rfl (Ch.s (.d (.bool false)) (.pure (.pickF _ _ _ rfl rfl rfl)) (Ch.nil ?_)))
    refine T_cond (b := false) rfl (fun h => nomatch h) (fun _ => ?_)
    refine T_skip (T_region hc (Ch.s (.d (.int .i64 ((m : Int) + 1))) (iX rfl rfl intV_addA) (Ch.s (.d (.int .i64 ((m : Int) + 1))) pm (Ch.nil ?_))))
    exact nx (m + 1) ⟨by omega, upto_succ hp1.2 a67⟩ (Wk.of rfl rfl (ai rfl (ai rfl (ai rfl (ai rfl (ai rfl (ai rfl (ai (vI a105) trivial))))))) (ai rfl trivial))
  ·
   try have hlm : (x.codes.getD m default).length = x.sigs.length := hck (m : Int) (by omega) (by omega)
   refine T_exit (T_seq (T_seq (T_region hc (Ch.s (.ptr 4000 2) (.pure (.fldPtr _ _ _ rfl fld35_2 rfl)) (Ch.s (.d (.slice false 4 (x.arcs.map Arc.d))) (.pure (.loadPtr1 _ _ rfl ag33 rfl rfl rfl)) (Ch.s (.d (.int .i64 (x.arcs.length : Int))) (.pure (.len _ _ 125 rfl Tryz.underlying33 (.sh _ _) (by simp))) (Ch.s (.d (.int .i64 0)) pm ?_)))))))
   refine Ch.nil (T_block ?_)
   refine T_loop (ι := Nat) (fun v => { n := 88, sl := [(1, (.d (.slice false 1 (r.map (fun n : Int => D.int .i64 n))))), (3, (.d (.str u))), (4, (.ptr 4000 0)), (55, (.d (.slice false 4 (x.arcs.map Arc.d)))), (56, (.d (.int .i64 (x.arcs.length : Int)))), (57, (.d (.int .i64 (v : Int))))], hp := [(4000, (some (.box (vX x))))], pin := [] }) (fun v => v ≤ x.arcs.length ∧ ∀ j, j < v → mP3 x r u (x.arcs.getD j default) = false) (fun v => x.arcs.length - v) ⟨0, ⟨by omega, fun j hj => by omega⟩, (Wk.of rfl rfl (ai rfl (ai rfl (ai rfl (ai rfl (ai rfl (ai (vI a105) trivial)))))) (ai rfl trivial))⟩ (fun v hp2 => ?_)
   refine T_seq (T_region hc (Ch.s (.d (.bool (decide ((v : Int) < (x.arcs.length : Int))))) (iX rfl rfl rfl) (Ch.nil (T_seq ?_))))
   refine T_condD (p := ((v : Int) < (x.arcs.length : Int))) rfl (fun h7 => ?_) (fun h7 => ?_)
   ·
    try have hek := hen _ (getD_mem (l := x.arcs) (j := v) (d := default) (by omega))
    try have hls := hck _ hek.1.1 hek.1.2
    try have hld := hck _ hek.2.1 hek.2.2
    refine T_skip (T_seq (T_block (T_seq (T_region hc (Ch.s (.d (.ref (.agg [(.int .i64 ((x.arcs.getD v default).src)), (.int .i64 ((x.arcs.getD v default).sig)), (.bool ((x.arcs.getD v default).up)), (.int .i64 ((x.arcs.getD v default).dst))]))) (.pure (.idx _ _ _ 125 (v) rfl Tryz.underlying33 sz125 rfl rfl rfl get_mapA)) (Ch.s (.d (.agg [(.int .i64 ((x.arcs.getD v default).src)), (.int .i64 ((x.arcs.getD v default).sig)), (.bool ((x.arcs.getD v default).up)), (.int .i64 ((x.arcs.getD v default).dst))])) (.pure (.loadRefA _ _ rfl ag125 sz125 rfl)) (Ch.s (.ptr 14000 0) (.alloc 14000 _ rfl zer125) ?_)))))))
    refine Ch.s .junk (.storePtr _ _ _ rfl rfl rfl (.aggD _) sz125 (lb rfl)) (Ch.nil (T_seq (T_region hc (Ch.s (.d (.str u)) pm (Ch.s (.ptr 4000 1) (.pure (.fldPtr _ _ _ rfl fld35_1 rfl)) (Ch.s (.d (.slice false 1 (x.codes.map D.str))) (.pure (.loadPtr1 _ _ rfl ag23 rfl rfl rfl)) (Ch.s (.ptr 14000 0) (.pure (.fldPtr _ _ _ rfl fld125_0 rfl)) ?_)))))))
    refine Ch.s (.d (.int .i64 ((x.arcs.getD v default).src))) (.pure (.loadPtr1 _ _ rfl ag3 rfl rfl rfl)) (Ch.s (.d (.ref (.str (x.codes.getD ((((x.arcs.getD v default).src)).toNat) default)))) (.pure (.idx _ _ _ 9 ((((x.arcs.getD v default).src)).toNat) rfl Tryz.underlying23 sz9 rfl rfl (by omega) get_mapA)) (Ch.s (.d (.str (x.codes.getD ((((x.arcs.getD v default).src)).toNat) default))) (.pure (.loadRef1 _ _ rfl ag9 rfl rfl)) (Ch.s (.d (.bool (hasB u (x.codes.getD ((((x.arcs.getD v default).src)).toNat) default)))) (.call 68000 197 _ _ _ en197 rfl (.inl rfl) (.cons (.d _) (.cons (.d _) .nil)) rfl rfl (sp_spec_l13Has u (x.codes.getD ((((x.arcs.getD v default).src)).toNat) default) a23 a23) (.skip _ _ (.skip _ _ .nil)) rfl) (Ch.s (.d (.bool (!(hasB u (x.codes.getD ((((x.arcs.getD v default).src)).toNat) default))))) (.pure (.not _ _ rfl rfl)) (Ch.s (.d (.bool (!(hasB u (x.codes.getD ((((x.arcs.getD v default).src)).toNat) default))))) pm ?_)))))
    cases h8 : (hasB u (x.codes.getD ((((x.arcs.getD v default).src)).toNat) default)) with
    | true =>
     refine Ch.skip rfl rfl (Ch.skip rfl rfl (Ch.skip rfl rfl (Ch.skip rfl rfl (Ch.skip rfl rfl (Ch.skip rfl rfl (Ch.skip rfl rfl (Ch.skip rfl rfl ?_)))))))
     refine Ch.s (.d (.bool false)) (.pure (.pickF _ _ _ rfl rfl rfl)) (Ch.s (.d (.bool false)) pm (Ch.skip rfl rfl (Ch.skip rfl rfl (Ch.skip rfl rfl (Ch.skip rfl rfl (Ch.skip rfl rfl (Ch.s (.d (.bool false)) (.pure (.pickF _ _ _ rfl rfl rfl)) ?_)))))))
     refine Ch.nil ?_
     refine T_cond (b := false) rfl (fun h => nomatch h) (fun _ => ?_)
     refine T_skip (T_region hc (Ch.s (.d (.int .i64 ((v : Int) + 1))) (iX rfl rfl intV_addA) (Ch.s (.d (.int .i64 ((v : Int) + 1))) pm (Ch.nil ?_))))
     exact nx (v + 1) ⟨by omega, upto_succ hp2.2 a68⟩ (Wk.of rfl rfl (ai rfl (ai rfl (ai rfl (ai rfl (ai rfl (ai (vI a105) trivial)))))) (ai rfl trivial))
    | false =>
     refine Ch.s (.d (.str u)) pm (Ch.s (.ptr 4000 1) (.pure (.fldPtr _ _ _ rfl fld35_1 rfl)) (Ch.s (.d (.slice false 1 (x.codes.map D.str))) (.pure (.loadPtr1 _ _ rfl ag23 rfl rfl rfl)) (Ch.s (.ptr 14000 3) (.pure (.fldPtr _ _ _ rfl fld125_3 rfl)) (Ch.s (.d (.int .i64 ((x.arcs.getD v default).dst))) (.pure (.loadPtr1 _ _ rfl ag3 rfl rfl rfl)) (Ch.s (.d (.ref (.str (x.codes.getD ((((x.arcs.getD v default).dst)).toNat) default)))) (.pure (.idx _ _ _ 9 ((((x.arcs.getD v default).dst)).toNat) rfl Tryz.underlying23 sz9 rfl rfl (by omega) get_mapA)) (Ch.s (.d (.str (x.codes.getD ((((x.arcs.getD v default).dst)).toNat) default))) (.pure (.loadRef1 _ _ rfl ag9 rfl rfl)) (Ch.s (.d (.bool (hasB u (x.codes.getD ((((x.arcs.getD v default).dst)).toNat) default)))) (.call 78000 197 _ _ _ en197 rfl (.inl rfl) (.cons (.d _) (.cons (.d _) .nil)) rfl rfl (sp_spec_l13Has u (x.codes.getD ((((x.arcs.getD v default).dst)).toNat) default) a23 a23) (.skip _ _ (.skip _ _ .nil)) rfl) ?_)))))))
     refine Ch.s (.d (.bool (hasB u (x.codes.getD ((((x.arcs.getD v default).dst)).toNat) default)))) (.pure (.pickT _ _ _ rfl rfl rfl)) (Ch.s (.d (.bool (hasB u (x.codes.getD ((((x.arcs.getD v default).dst)).toNat) default)))) pm ?_)
     cases h9 : (hasB u (x.codes.getD ((((x.arcs.getD v default).dst)).toNat) default)) with
     | true =>
      refine Ch.s (.d (.slice false 1 (r.map (fun n : Int => D.int .i64 n)))) pm (Ch.s (.ptr 14000 3) (.pure (.fldPtr _ _ _ rfl fld125_3 rfl)) (Ch.s (.d (.int .i64 ((x.arcs.getD v default).dst))) (.pure (.loadPtr1 _ _ rfl ag3 rfl rfl rfl)) (Ch.s (.d (.bool (hasI r ((x.arcs.getD v default).dst)))) (.call 84000 157 _ _ _ en157 rfl (.inl rfl) (.cons (.d _) (.cons (.d _) .nil)) rfl rfl (sp_spec_l1Has r ((x.arcs.getD v default).dst) a39) (.skip _ _ (.skip _ _ .nil)) rfl) (Ch.s (.d (.bool (!(hasI r ((x.arcs.getD v default).dst))))) (.pure (.not _ _ rfl rfl)) (Ch.s (.d (.bool (!(hasI r ((x.arcs.getD v default).dst))))) (.pure (.pickT _ _ _ rfl rfl rfl)) (Ch.nil ?_))))))
      refine T_condN (b := (hasI r ((x.arcs.getD v default).dst))) rfl (fun h10 => ?_) (fun h10 => ?_)
      ·
       refine T_seq (T_region hc (Ch.s (.d (.int .i64 3)) pa (Ch.nil (T_ret ?_))))
       exact endR [(.d (.int .i64 3))] [] [] (.cons (.tmp 8 rfl) .nil) (.cons (.any _) (.cons (.any _) (.cons (.any _) (.cons (.any _) .nil)))) (Exp.of (congrArg (D.int .i64) a4) (.d _)) rfl rfl
      ·
       refine T_skip (T_region hc (Ch.s (.d (.int .i64 ((v : Int) + 1))) (iX rfl rfl intV_addA) (Ch.s (.d (.int .i64 ((v : Int) + 1))) pm (Ch.nil ?_))))
       exact nx (v + 1) ⟨by omega, upto_succ hp2.2 a68⟩ (Wk.of rfl rfl (ai rfl (ai rfl (ai rfl (ai rfl (ai rfl (ai (vI a105) trivial)))))) (ai rfl trivial))
     | false =>
      refine Ch.skip rfl rfl (Ch.skip rfl rfl (Ch.skip rfl rfl (Ch.skip rfl rfl (Ch.skip rfl rfl (Ch.s (.d (.bool false)) (.pure (.pickF _ _ _ rfl rfl rfl)) (Ch.nil ?_))))))
      refine T_cond (b := false) rfl (fun h => nomatch h) (fun _ => ?_)
      refine T_skip (T_region hc (Ch.s (.d (.int .i64 ((v : Int) + 1))) (iX rfl rfl intV_addA) (Ch.s (.d (.int .i64 ((v : Int) + 1))) pm (Ch.nil ?_))))
      exact nx (v + 1) ⟨by omega, upto_succ hp2.2 a68⟩ (Wk.of rfl rfl (ai rfl (ai rfl (ai rfl (ai rfl (ai rfl (ai (vI a105) trivial)))))) (ai rfl trivial))
   ·
    try have hek := hen _ (getD_mem (l := x.arcs) (j := v) (d := default) (by omega))
    try have hls := hck _ hek.1.1 hek.1.2
    try have hld := hck _ hek.2.1 hek.2.2
    refine T_exit (T_seq (T_region hc (Ch.s (.d (.int .i64 0)) pa (Ch.nil (T_ret ?_)))))
    exact endR [(.d (.int .i64 0))] [] [] (.cons (.tmp 8 rfl) .nil) (.cons (.any _) (.cons (.any _) (.cons (.any _) (.cons (.any _) .nil)))) (Exp.of (congrArg (D.int .i64) a4) (.d _)) rfl rfl

theorem cubeN_ln {u : List UInt8} {n : Nat} (h : cubeN u (n : Int) = true) : u.length = n := by
 have h2 := okCube_eq (n : Int) u
 rw [h] at h2
 unfold okCube at h2
 rw [Bool.and_eq_true, decide_eq_true_iff] at h2
 omega

theorem cubeN_of {u : List UInt8} {n : Nat} (h1 : cubeB u = true) (h2 : (u.length : Int) = (n : Int)) : cubeN u (n : Int) = true := by rw [← okCube_eq, okCube, h1, decide_eq_true h2]; rfl

theorem cubeN_no1 {u : List UInt8} {n : Nat} (h1 : cubeB u = false) : cubeN u (n : Int) = false := by rw [← okCube_eq, okCube, h1]; rfl

theorem cubeN_no2 {u : List UInt8} {n : Nat} (h2 : ¬ (u.length : Int) = (n : Int)) : cubeN u (n : Int) = false := by rw [← okCube_eq, okCube, decide_eq_false h2, Bool.and_false]

set_option maxHeartbeats 1000000 in
theorem sp_impl_CheckMonotonous (x : Sgr) (sig : Int) (up : Bool) (j : Int) (u : List UInt8) (hb : x.bulk ≤ 1048576) (hu0 : u.length ≤ 1048576) : Sp Tryz.prog 57 [(.agg [(.slice false 2 (x.sigs.map Sgn.d)), (.slice false 1 (x.codes.map D.str)), (.slice false 4 (x.arcs.map Arc.d))]), (.int .i64 sig), (.bool (up)), (.int .i64 j), (.str u)] [.any, .any, .any, .any, .any] (.tup [(.int .i64 (cmV x sig up j u : Int)), (.bool (cmB x sig up j u))]) := by
 refine Sp_intro (lend := true) Tryz.func57 rfl rfl rfl (fun _ => rfl) (fun c hc hX => ?_)
 obtain ⟨hp0, hp1, hp2⟩ := Sgr.parts hb
 have hn0 := bulkF_len hp0
 have hn1 := bulk_len hp1
 have hx1 := bulk_mem hp1
 have hn2 := bulkF_len hp2; have hev := (exV_small (x := x) (sig := sig) (up := up)).1; have hqle : (qrV x sig up j).length ≤ 1048576 := Nat.le_trans (qrV_le x sig up j) hn1
 refine T_seq (T_region hc (Ch.s (.ptr 5000 0) (.box 5000 _ _ rfl (.aggD _)) (Ch.s (.d (.int .i64 0)) pa (Ch.s (.d (.bool false)) pa (Ch.nil (T_seq (T_region hc ?_)))))))
 refine Ch.s (.agg (vX x)) (.pure (.loadPtrA _ _ rfl ag35 sz35 rfl rfl (lb rfl) rfl)) (Ch.s (.d (.int .i64 sig)) pm (Ch.s (.d (.bool (up))) pm (Ch.s (.d (.int .i64 j)) pm ?_)))
 refine Ch.step (v := (.tup [(.row 19000), (.d (.bool (qrB x sig (up) j)))])) rfl (.call 19000 38 _ _ _ en38 rfl (.inl rfl) (.cons lX (.cons (.d _) (.cons (.d _) (.cons (.d _) .nil)))) rfl (sol a98 rfl) (sp_impl_QuiescentRegion x sig (up) j a39) (.skip _ _ (.skip _ _ (.skip _ _ (.skip _ _ .nil)))) rfl) rfl rfl ?_
 refine Ch.s (.tup [(.row 19000), (.d (.bool (qrB x sig (up) j)))]) pm (Ch.s (.row 19000) (.pure (.extract _ rfl rfl rfl)) (Ch.s (.d (.bool (qrB x sig (up) j))) (.pure (.extract _ rfl rfl rfl)) (Ch.s (.row 19000) pa (Ch.s (.d (.bool (qrB x sig (up) j))) pa (Ch.nil (T_seq (T_seq ?_)))))))
 refine T_region hc (Ch.s (.d (.bool (qrB x sig (up) j))) pm (Ch.s (.d (.bool (!(qrB x sig (up) j)))) (.pure (.not _ _ rfl rfl)) (Ch.s (.d (.bool (!(qrB x sig (up) j)))) pm ?_)))
 cases h1 : (qrB x sig (up) j) with
 | true =>
  try have hqh := qrB_has (by assumption : qrB x sig up j = true)
  try have hxo := exB_has hqh.1
  try have hx := hxo.1
  try have hs := hxo.2
  try have hxl := hx.len
  try have hx8 := hx.eight
  try have hrg := regAt_in (by assumption : qrB x sig up j = true)
  try have hrg2 := exR_in _ hrg
  try have hrql2 : ((exR x sig up).getD j.toNat default).length ≤ 1048576 := by (show (regAt x sig up j).length ≤ 1048576; omega)
  refine Ch.s (.d (.str u)) pm (Ch.s (.ptr 5000 0) (.pure (.fldPtr _ _ _ rfl fld35_0 rfl)) (Ch.s (.d (.slice false 2 (x.sigs.map Sgn.d))) (.pure (.loadPtr1 _ _ rfl ag32 rfl rfl rfl)) (Ch.s (.d (.int .i64 (x.sigs.length : Int))) (.pure (.len _ _ 154 rfl Tryz.underlying32 (.sh _ _) (by simp))) (Ch.s (.d (.bool (cubeN u (x.sigs.length : Int)))) (.call 29000 127 _ _ _ en127 rfl (.inl rfl) (.cons (.d _) (.cons (.d _) .nil)) rfl rfl (sp_impl_isCube u (x.sigs.length : Int) a23) (.skip _ _ (.skip _ _ .nil)) rfl) (Ch.s (.d (.bool (!(cubeN u (x.sigs.length : Int))))) (.pure (.not _ _ rfl rfl)) (Ch.s (.d (.bool (!(cubeN u (x.sigs.length : Int))))) (.pure (.pickF _ _ _ rfl rfl rfl)) (Ch.nil ?_)))))))
  refine T_condN (b := (cubeN u (x.sigs.length : Int))) rfl (fun h2 => ?_) (fun h2 => ?_)
  ·
   try have hqh := qrB_has (by assumption : qrB x sig up j = true)
   try have hxo := exB_has hqh.1
   try have hx := hxo.1
   try have hs := hxo.2
   try have hxl := hx.len
   try have hx8 := hx.eight
   try have hrg := regAt_in (by assumption : qrB x sig up j = true)
   try have hrg2 := exR_in _ hrg
   try have hrql2 : ((exR x sig up).getD j.toNat default).length ≤ 1048576 := by (show (regAt x sig up j).length ≤ 1048576; omega)
   try have hcu : cubeN u (x.sigs.length : Int) = true := by (first | assumption | exact cubeN_of (by assumption) (by assumption))
   try have hul : u.length = x.sigs.length := cubeN_ln hcu
   refine T_seq (T_region hc (Ch.s (.d (.int .i64 0)) pa (Ch.s (.d (.bool false)) pa (Ch.nil (T_ret ?_)))))
   exact endR [(.d (.int .i64 0)), (.d (.bool false))] [] [] (.cons (.tmp 10 rfl) (.cons (.tmp 11 rfl) .nil)) (.cons (.any _) (.cons (.any _) (.cons (.any _) (.cons (.any _) (.cons (.any _) .nil))))) (.tup (.cons (Exp.of (congrArg (D.int .i64) a6) (.d _)) (.cons (Exp.of (congrArg D.bool a6) (.d _)) .nil))) rfl rfl
  ·
   try have hqh := qrB_has (by assumption : qrB x sig up j = true)
   try have hxo := exB_has hqh.1
   try have hx := hxo.1
   try have hs := hxo.2
   try have hxl := hx.len
   try have hx8 := hx.eight
   try have hrg := regAt_in (by assumption : qrB x sig up j = true)
   try have hrg2 := exR_in _ hrg
   try have hrql2 : ((exR x sig up).getD j.toNat default).length ≤ 1048576 := by (show (regAt x sig up j).length ≤ 1048576; omega)
   try have hcu : cubeN u (x.sigs.length : Int) = true := by (first | assumption | exact cubeN_of (by assumption) (by assumption))
   try have hul : u.length = x.sigs.length := cubeN_ln hcu
   refine T_skip (T_seq ?_)
   refine T_regionD hc (by kernel_rfl) ?_
   refine ChD.s (.agg (vX x)) [5000] (.pure (.loadPtrA _ _ rfl ag35 sz35 rfl rfl (lb rfl) rfl)) (ChD.s (.agg (vX x)) [5000] (.pure (.loadPtrA _ _ rfl ag35 sz35 rfl rfl (lb rfl) rfl)) (ChD.s (.d (.int .i64 sig)) [] pm (ChD.s (.d (.bool (up))) [] pm (ChD.s (.d (.slice false 1 ((exR x sig (up)).map intsD))) [] (.callFz 36000 88 _ _ _ en88 rfl (.inl rfl) (.cons lX (.cons (.d _) (.cons (.d _) .nil))) (solid_row intsU_sol _) (sp_impl_excitationRegions x sig (up) a39 (by assumption)) (slice_froz (frozs_to intsU_fz _)) rfl) (ChD.s (.d (.int .i64 j)) [] pm (ChD.s (.d (.ref (.slice false 1 (((exR x sig (up)).getD ((j).toNat) default).map (fun n : Int => D.int .i64 n))))) [] (.pure (.idx _ _ _ 55 ((j).toNat) rfl Tryz.underlying49 sz55 rfl rfl (by omega) get_mapA)) (ChD.s (.d (.slice false 1 (((exR x sig (up)).getD ((j).toNat) default).map (fun n : Int => D.int .i64 n)))) [] (.pure (.loadRef1 _ _ rfl ag55 rfl rfl)) ?_)))))))
   refine ChD.s (.row 19000) [] pm (ChD.s (.d (.str u)) [] pm (ChD.s (.d (.int .i64 (monN x ((exR x sig (up)).getD ((j).toNat) default) (qrV x sig (up) j) u : Int))) [19000] (.call 42000 128 _ _ _ en128 rfl (.inl rfl) (.cons lX (.cons (.d _) (.cons (.lend (.row rfl (frozs_map (fun _ => rfl) _))) (.cons (.d _) .nil)))) rfl rfl (sp_impl_monotonous x ((exR x sig (up)).getD ((j).toNat) default) (qrV x sig (up) j) u a39 (by assumption) a63 a39 a39 a113) (.skip _ _ (.skip _ _ (.skip _ _ (.skip _ _ .nil)))) rfl) (ChD.s (.d (.int .i64 (monN x ((exR x sig (up)).getD ((j).toNat) default) (qrV x sig (up) j) u : Int))) [] pa (ChD.s (.d (.bool true)) [] pa ?_))))
   refine ChD.nil (And.intro ?_ (by kernel_rfl))
   refine T_ret ?_
   exact endR [(.d (.int .i64 (monN x ((exR x sig (up)).getD ((j).toNat) default) (qrV x sig (up) j) u : Int))), (.d (.bool true))] [] [] (.cons (.tmp 10 rfl) (.cons (.tmp 11 rfl) .nil)) (.cons (.any _) (.cons (.any _) (.cons (.any _) (.cons (.any _) (.cons (.any _) .nil))))) (.tup (.cons (Exp.of (congrArg (D.int .i64) a6) (.d _)) (.cons (Exp.of (congrArg D.bool a6) (.d _)) .nil))) rfl rfl
 | false =>
  try have hqh := qrB_has (by assumption : qrB x sig up j = true)
  try have hxo := exB_has hqh.1
  try have hx := hxo.1
  try have hs := hxo.2
  try have hxl := hx.len
  try have hx8 := hx.eight
  try have hrg := regAt_in (by assumption : qrB x sig up j = true)
  try have hrg2 := exR_in _ hrg
  try have hrql2 : ((exR x sig up).getD j.toNat default).length ≤ 1048576 := by (show (regAt x sig up j).length ≤ 1048576; omega)
  refine Ch.skip rfl rfl (Ch.skip rfl rfl (Ch.skip rfl rfl (Ch.skip rfl rfl (Ch.skip rfl rfl (Ch.skip rfl rfl (Ch.s (.d (.bool true)) (.pure (.pickT _ _ _ rfl rfl rfl)) (Ch.nil ?_)))))))
  refine T_cond (b := true) rfl (fun _ => ?_) (fun h => nomatch h)
  refine T_seq (T_region hc (Ch.s (.d (.int .i64 0)) pa (Ch.s (.d (.bool false)) pa (Ch.nil (T_ret ?_)))))
  exact endR [(.d (.int .i64 0)), (.d (.bool false))] [] [] (.cons (.tmp 10 rfl) (.cons (.tmp 11 rfl) .nil)) (.cons (.any _) (.cons (.any _) (.cons (.any _) (.cons (.any _) (.cons (.any _) .nil))))) (.tup (.cons (Exp.of (congrArg (D.int .i64) a6) (.d _)) (.cons (Exp.of (congrArg D.bool a6) (.d _)) .nil))) rfl rfl

set_option maxHeartbeats 1000000 in
theorem sp_spec_CheckMonotonous (x : Sgr) (sig : Int) (up : Bool) (j : Int) (u : List UInt8) (hb : x.bulk ≤ 1048576) (hu0 : u.length ≤ 1048576) : Sp Tryz.prog 56 [(.agg [(.slice false 2 (x.sigs.map Sgn.d)), (.slice false 1 (x.codes.map D.str)), (.slice false 4 (x.arcs.map Arc.d))]), (.int .i64 sig), (.bool (up)), (.int .i64 j), (.str u)] [.any, .any, .any, .any, .any] (.tup [(.int .i64 (cmV x sig up j u : Int)), (.bool (cmB x sig up j u))]) := by
 refine Sp_intro (lend := true) Tryz.func56 rfl rfl rfl (fun _ => rfl) (fun c hc hX => ?_)
 obtain ⟨hp0, hp1, hp2⟩ := Sgr.parts hb
 have hn0 := bulkF_len hp0
 have hn1 := bulk_len hp1
 have hx1 := bulk_mem hp1
 have hn2 := bulkF_len hp2; have hev := (exV_small (x := x) (sig := sig) (up := up)).1; have hqle : (qrV x sig up j).length ≤ 1048576 := Nat.le_trans (qrV_le x sig up j) hn1
 refine T_seq (T_region hc (Ch.s (.ptr 5000 0) (.box 5000 _ _ rfl (.aggD _)) (Ch.s (.d (.int .i64 0)) pa (Ch.s (.d (.bool false)) pa (Ch.nil (T_seq (T_region hc ?_)))))))
 refine Ch.s (.agg (vX x)) (.pure (.loadPtrA _ _ rfl ag35 sz35 rfl rfl (lb rfl) rfl)) (Ch.s (.d (.int .i64 sig)) pm (Ch.s (.d (.bool (up))) pm (Ch.s (.d (.int .i64 j)) pm ?_)))
 refine Ch.step (v := (.tup [(.row 19000), (.d (.bool (qrB x sig (up) j)))])) rfl (.call 19000 37 _ _ _ en37 rfl (.inl rfl) (.cons lX (.cons (.d _) (.cons (.d _) (.cons (.d _) .nil)))) rfl (sol a98 rfl) (sp_spec_QuiescentRegion x sig (up) j a39) (.skip _ _ (.skip _ _ (.skip _ _ (.skip _ _ .nil)))) rfl) rfl rfl ?_
 refine Ch.s (.tup [(.row 19000), (.d (.bool (qrB x sig (up) j)))]) pm (Ch.s (.row 19000) (.pure (.extract _ rfl rfl rfl)) (Ch.s (.d (.bool (qrB x sig (up) j))) (.pure (.extract _ rfl rfl rfl)) (Ch.s (.row 19000) pa (Ch.s (.d (.bool (qrB x sig (up) j))) pa (Ch.nil (T_seq (T_seq ?_)))))))
 refine T_region hc (Ch.s (.d (.bool (qrB x sig (up) j))) pm (Ch.s (.d (.bool (!(qrB x sig (up) j)))) (.pure (.not _ _ rfl rfl)) (Ch.s (.d (.bool (!(qrB x sig (up) j)))) pm ?_)))
 cases h1 : (qrB x sig (up) j) with
 | true =>
  try have hqh := qrB_has (by assumption : qrB x sig up j = true)
  try have hxo := exB_has hqh.1
  try have hx := hxo.1
  try have hs := hxo.2
  try have hxl := hx.len
  try have hx8 := hx.eight
  try have hrg := regAt_in (by assumption : qrB x sig up j = true)
  try have hrg2 := exR_in _ hrg
  try have hrql2 : ((exR x sig up).getD j.toNat default).length ≤ 1048576 := by (show (regAt x sig up j).length ≤ 1048576; omega)
  refine Ch.s (.d (.str u)) pm (Ch.s (.d (.bool (cubeB u))) (.call 26000 125 _ _ _ en125 rfl (.inl rfl) (.cons (.d _) .nil) rfl rfl (sp_spec_l13Cube u a23) (.skip _ _ .nil) rfl) (Ch.s (.d (.bool (!(cubeB u)))) (.pure (.not _ _ rfl rfl)) (Ch.s (.d (.bool (!(cubeB u)))) (.pure (.pickF _ _ _ rfl rfl rfl)) (Ch.s (.d (.bool (!(cubeB u)))) pm ?_))))
  cases h2 : (cubeB u) with
  | true =>
   try have hqh := qrB_has (by assumption : qrB x sig up j = true)
   try have hxo := exB_has hqh.1
   try have hx := hxo.1
   try have hs := hxo.2
   try have hxl := hx.len
   try have hx8 := hx.eight
   try have hrg := regAt_in (by assumption : qrB x sig up j = true)
   try have hrg2 := exR_in _ hrg
   try have hrql2 : ((exR x sig up).getD j.toNat default).length ≤ 1048576 := by (show (regAt x sig up j).length ≤ 1048576; omega)
   try have hcu : cubeN u (x.sigs.length : Int) = true := by (first | assumption | exact cubeN_of (by assumption) (by assumption))
   try have hul : u.length = x.sigs.length := cubeN_ln hcu
   refine Ch.s (.d (.str u)) pm (Ch.s (.d (.int .i64 (u.length : Int))) (.pure (.lenStr _ _ rfl Tryz.underlying9 rfl)) (Ch.s (.ptr 5000 0) (.pure (.fldPtr _ _ _ rfl fld35_0 rfl)) (Ch.s (.d (.slice false 2 (x.sigs.map Sgn.d))) (.pure (.loadPtr1 _ _ rfl ag32 rfl rfl rfl)) (Ch.s (.d (.int .i64 (x.sigs.length : Int))) (.pure (.len _ _ 154 rfl Tryz.underlying32 (.sh _ _) (by simp))) (Ch.s (.d (.bool (!(decide ((u.length : Int) = (x.sigs.length : Int)))))) (iX rfl rfl rfl) (Ch.s (.d (.bool (!(decide ((u.length : Int) = (x.sigs.length : Int)))))) (.pure (.pickF _ _ _ rfl rfl rfl)) (Ch.nil ?_)))))))
   refine T_condN (b := (decide ((u.length : Int) = (x.sigs.length : Int)))) rfl (fun h3 => ?_) (fun h3 => ?_)
   ·
    replace h3 := of_decide_eq_false h3
    try have hcu : cubeN u (x.sigs.length : Int) = true := by (first | assumption | exact cubeN_of (by assumption) (by assumption))
    try have hul : u.length = x.sigs.length := cubeN_ln hcu
    refine T_seq (T_region hc (Ch.s (.d (.int .i64 0)) pa (Ch.s (.d (.bool false)) pa (Ch.nil (T_ret ?_)))))
    exact endR [(.d (.int .i64 0)), (.d (.bool false))] [] [] (.cons (.tmp 10 rfl) (.cons (.tmp 11 rfl) .nil)) (.cons (.any _) (.cons (.any _) (.cons (.any _) (.cons (.any _) (.cons (.any _) .nil))))) (.tup (.cons (Exp.of (congrArg (D.int .i64) a6) (.d _)) (.cons (Exp.of (congrArg D.bool a6) (.d _)) .nil))) rfl rfl
   ·
    replace h3 := of_decide_eq_true h3
    try have hcu : cubeN u (x.sigs.length : Int) = true := by (first | assumption | exact cubeN_of (by assumption) (by assumption))
    try have hul : u.length = x.sigs.length := cubeN_ln hcu
    refine T_skip (T_seq ?_)
    refine T_regionD hc (by kernel_rfl) ?_
    refine ChD.s (.agg (vX x)) [5000] (.pure (.loadPtrA _ _ rfl ag35 sz35 rfl rfl (lb rfl) rfl)) (ChD.s (.agg (vX x)) [5000] (.pure (.loadPtrA _ _ rfl ag35 sz35 rfl rfl (lb rfl) rfl)) (ChD.s (.d (.int .i64 sig)) [] pm (ChD.s (.d (.bool (up))) [] pm (ChD.s (.d (.slice false 1 ((exR x sig (up)).map intsD))) [] (.callFz 41000 86 _ _ _ en86 rfl (.inl rfl) (.cons lX (.cons (.d _) (.cons (.d _) .nil))) (solid_row intsU_sol _) (sp_spec_l17Regions x sig (up) a39 (by assumption) a113) (slice_froz (frozs_to intsU_fz _)) rfl) (ChD.s (.d (.int .i64 j)) [] pm (ChD.s (.d (.ref (.slice false 1 (((exR x sig (up)).getD ((j).toNat) default).map (fun n : Int => D.int .i64 n))))) [] (.pure (.idx _ _ _ 55 ((j).toNat) rfl Tryz.underlying49 sz55 rfl rfl (by omega) get_mapA)) (ChD.s (.d (.slice false 1 (((exR x sig (up)).getD ((j).toNat) default).map (fun n : Int => D.int .i64 n)))) [] (.pure (.loadRef1 _ _ rfl ag55 rfl rfl)) ?_)))))))
    refine ChD.s (.row 19000) [] pm (ChD.s (.d (.str u)) [] pm (ChD.s (.d (.int .i64 (monN x ((exR x sig (up)).getD ((j).toNat) default) (qrV x sig (up) j) u : Int))) [19000] (.call 47000 126 _ _ _ en126 rfl (.inl rfl) (.cons lX (.cons (.d _) (.cons (.lend (.row rfl (frozs_map (fun _ => rfl) _))) (.cons (.d _) .nil)))) rfl rfl (sp_spec_l17Why x ((exR x sig (up)).getD ((j).toNat) default) (qrV x sig (up) j) u a39 (by assumption) a63 a39 a39 a113) (.skip _ _ (.skip _ _ (.skip _ _ (.skip _ _ .nil)))) rfl) (ChD.s (.d (.int .i64 (monN x ((exR x sig (up)).getD ((j).toNat) default) (qrV x sig (up) j) u : Int))) [] pa (ChD.s (.d (.bool true)) [] pa ?_))))
    refine ChD.nil (And.intro ?_ (by kernel_rfl))
    refine T_ret ?_
    exact endR [(.d (.int .i64 (monN x ((exR x sig (up)).getD ((j).toNat) default) (qrV x sig (up) j) u : Int))), (.d (.bool true))] [] [] (.cons (.tmp 10 rfl) (.cons (.tmp 11 rfl) .nil)) (.cons (.any _) (.cons (.any _) (.cons (.any _) (.cons (.any _) (.cons (.any _) .nil))))) (.tup (.cons (Exp.of (congrArg (D.int .i64) a6) (.d _)) (.cons (Exp.of (congrArg D.bool a6) (.d _)) .nil))) rfl rfl
  | false =>
   try have hqh := qrB_has (by assumption : qrB x sig up j = true)
   try have hxo := exB_has hqh.1
   try have hx := hxo.1
   try have hs := hxo.2
   try have hxl := hx.len
   try have hx8 := hx.eight
   try have hrg := regAt_in (by assumption : qrB x sig up j = true)
   try have hrg2 := exR_in _ hrg
   try have hrql2 : ((exR x sig up).getD j.toNat default).length ≤ 1048576 := by (show (regAt x sig up j).length ≤ 1048576; omega)
   try have hcu : cubeN u (x.sigs.length : Int) = true := by (first | assumption | exact cubeN_of (by assumption) (by assumption))
   try have hul : u.length = x.sigs.length := cubeN_ln hcu
   refine Ch.skip rfl rfl (Ch.skip rfl rfl (Ch.skip rfl rfl (Ch.skip rfl rfl (Ch.skip rfl rfl (Ch.skip rfl rfl (Ch.s (.d (.bool true)) (.pure (.pickT _ _ _ rfl rfl rfl)) (Ch.nil ?_)))))))
   refine T_cond (b := true) rfl (fun _ => ?_) (fun h => nomatch h)
   refine T_seq (T_region hc (Ch.s (.d (.int .i64 0)) pa (Ch.s (.d (.bool false)) pa (Ch.nil (T_ret ?_)))))
   exact endR [(.d (.int .i64 0)), (.d (.bool false))] [] [] (.cons (.tmp 10 rfl) (.cons (.tmp 11 rfl) .nil)) (.cons (.any _) (.cons (.any _) (.cons (.any _) (.cons (.any _) (.cons (.any _) .nil))))) (.tup (.cons (Exp.of (congrArg (D.int .i64) a6) (.d _)) (.cons (Exp.of (congrArg D.bool a6) (.d _)) .nil))) rfl rfl
 | false =>
  try have hqh := qrB_has (by assumption : qrB x sig up j = true)
  try have hxo := exB_has hqh.1
  try have hx := hxo.1
  try have hs := hxo.2
  try have hxl := hx.len
  try have hx8 := hx.eight
  try have hrg := regAt_in (by assumption : qrB x sig up j = true)
  try have hrg2 := exR_in _ hrg
  try have hrql2 : ((exR x sig up).getD j.toNat default).length ≤ 1048576 := by (show (regAt x sig up j).length ≤ 1048576; omega)
  refine Ch.skip rfl rfl (Ch.skip rfl rfl (Ch.skip rfl rfl (Ch.s (.d (.bool true)) (.pure (.pickT _ _ _ rfl rfl rfl)) (Ch.s (.d (.bool true)) pm (Ch.skip rfl rfl (Ch.skip rfl rfl (Ch.skip rfl rfl ?_)))))))
  refine Ch.skip rfl rfl (Ch.skip rfl rfl (Ch.skip rfl rfl (Ch.s (.d (.bool true)) (.pure (.pickT _ _ _ rfl rfl rfl)) (Ch.nil ?_))))
  refine T_cond (b := true) rfl (fun _ => ?_) (fun h => nomatch h)
  refine T_seq (T_region hc (Ch.s (.d (.int .i64 0)) pa (Ch.s (.d (.bool false)) pa (Ch.nil (T_ret ?_)))))
  exact endR [(.d (.int .i64 0)), (.d (.bool false))] [] [] (.cons (.tmp 10 rfl) (.cons (.tmp 11 rfl) .nil)) (.cons (.any _) (.cons (.any _) (.cons (.any _) (.cons (.any _) (.cons (.any _) .nil))))) (.tup (.cons (Exp.of (congrArg (D.int .i64) a6) (.d _)) (.cons (Exp.of (congrArg D.bool a6) (.d _)) .nil))) rfl rfl

theorem en60 : Enters Tryz.prog 60 := ⟨_, Tryz.func60, by kernel_rfl, rfl⟩

theorem en61 : Enters Tryz.prog 61 := ⟨_, Tryz.func61, by kernel_rfl, rfl⟩

def amC (x : Sgr) (r : Rcv) (i : Nat) : Bool := cmB x r.sig r.up (i : Int) (r.cubes.getD i default) && decide (cmV x r.sig r.up (i : Int) (r.cubes.getD i default) = 0)

def amK (x : Sgr) (r : Rcv) : Bool := decide (r.cubes.length = (exR x r.sig r.up).length) && allB r.cubes.length (amC x r)

def amB (x : Sgr) (l : List Rcv) : Bool := madeB x && entB x l

def amV (x : Sgr) (l : List Rcv) : Bool := amB x l && allOf l (amK x)

theorem amB_yes {x : Sgr} {l : List Rcv} (h1 : madeB x = true) (h2 : entB x l = true) : amB x l = true := by rw [amB, h1, h2]; rfl

theorem amB_no1 {x : Sgr} {l : List Rcv} (h1 : madeB x = false) : amB x l = false := by rw [amB, h1]; rfl

theorem amB_no2 {x : Sgr} {l : List Rcv} (h2 : entB x l = false) : amB x l = false := by rw [amB, h2, Bool.and_false]

theorem amV_no {x : Sgr} {l : List Rcv} (h : amB x l = false) : amV x l = false := by rw [amV, h]; rfl

theorem amV_bad {x : Sgr} {l : List Rcv} (k : Nat) (hk : k < l.length) (h : amK x (l.getD k default) = false) : amV x l = false := by
 have : allOf l (amK x) = false := allB_no k hk h
 rw [amV, this, Bool.and_false]

theorem amV_yes {x : Sgr} {l : List Rcv} (h : amB x l = true) (h2 : ∀ j, j < l.length → amK x (l.getD j default) = true) : amV x l = true := by
 rw [amV, h]; exact allB_of h2

theorem amK_len {x : Sgr} {r : Rcv} (h : ¬ r.cubes.length = (exR x r.sig r.up).length) : amK x r = false := by rw [amK, decide_eq_false h]; rfl

theorem amK_bad {x : Sgr} {r : Rcv} (i : Nat) (hi : i < r.cubes.length) (h : amC x r i = false) : amK x r = false := by rw [amK, allB_no i hi h, Bool.and_false]

theorem amK_yes {x : Sgr} {r : Rcv} (h : r.cubes.length = (exR x r.sig r.up).length) (h2 : ∀ j, j < r.cubes.length → amC x r j = true) : amK x r = true := by rw [amK, decide_eq_true h, allB_of h2]; rfl

theorem amC_no1 {x : Sgr} {r : Rcv} {i : Nat} (h : cmB x r.sig r.up (i : Int) (r.cubes.getD i default) = false) : amC x r i = false := by rw [amC, h]; rfl

theorem amC_no2 {x : Sgr} {r : Rcv} {i : Nat} (h : ¬ ((cmV x r.sig r.up (i : Int) (r.cubes.getD i default) : Nat) : Int) = 0) : amC x r i = false := by rw [amC, decide_eq_false (by omega), Bool.and_false]

theorem amC_yes {x : Sgr} {r : Rcv} {i : Nat} (h : cmB x r.sig r.up (i : Int) (r.cubes.getD i default) = true) (h2 : ((cmV x r.sig r.up (i : Int) (r.cubes.getD i default) : Nat) : Int) = 0) : amC x r i = true := by rw [amC, h, decide_eq_true (by omega)]; rfl

set_option maxHeartbeats 2000000 in
theorem sp_impl_AreMonotonous (x : Sgr) (xs : List Rcv) (hb : x.bulk ≤ 1048576) (hcr : bulkF Rcv.bulk xs ≤ 1048576) : Sp Tryz.prog 61 [(.agg [(.slice false 2 (x.sigs.map Sgn.d)), (.slice false 1 (x.codes.map D.str)), (.slice false 4 (x.arcs.map Arc.d))]), (.slice false 3 (xs.map Rcv.d))] [.any, .any] (.tup [(.bool (amV x xs)), (.bool (amB x xs))]) := by
 refine Sp_intro (lend := true) Tryz.func61 rfl rfl rfl (fun _ => rfl) (fun c hc hX => ?_)
 obtain ⟨hp0, hp1, hp2⟩ := Sgr.parts hb
 have hn0 := bulkF_len hp0
 have hn1 := bulk_len hp1
 have hx1 := bulk_mem hp1
 have hn2 := bulkF_len hp2; have hnr := bulkF_len hcr; have hol := outs_len x.sigs
 refine T_seq (T_region hc (Ch.s (.ptr 2000 0) (.box 2000 _ _ rfl (.aggD _)) (Ch.s (.d (.bool false)) pa (Ch.s (.d (.bool false)) pa (Ch.nil (T_seq (T_seq ?_)))))))
 refine T_region hc (Ch.s (.agg (vX x)) (.pure (.loadPtrA _ _ rfl ag35 sz35 rfl rfl (lb rfl) rfl)) (Ch.s (.d (.bool (madeB x))) (.call 14000 111 _ _ _ en111 rfl (.inl rfl) (.cons lX .nil) rfl rfl (sp_impl_isMade x a39) (.skip _ _ .nil) rfl) (Ch.s (.d (.bool (!(madeB x)))) (.pure (.not _ _ rfl rfl)) (Ch.s (.d (.bool (!(madeB x)))) pm ?_))))
 cases h1 : (madeB x) with
 | true =>
  try have hx := sg_has a109
  try have h8 := hx.eight.2
  try have hxl := hx.len
  refine Ch.s (.agg (vX x)) (.pure (.loadPtrA _ _ rfl ag35 sz35 rfl rfl (lb rfl) rfl)) (Ch.s (.d (.slice false 3 (xs.map Rcv.d))) pm (Ch.s (.d (.bool (entB x xs))) (.call 19000 112 _ _ _ en112 rfl (.inl rfl) (.cons lX (.cons (.d _) .nil)) rfl rfl (sp_impl_isEntryList x xs a39 a39 a39) (.skip _ _ (.skip _ _ .nil)) rfl) (Ch.s (.d (.bool (!(entB x xs)))) (.pure (.not _ _ rfl rfl)) (Ch.s (.d (.bool (!(entB x xs)))) (.pure (.pickF _ _ _ rfl rfl rfl)) (Ch.nil ?_)))))
  refine T_condN (b := (entB x xs)) rfl (fun h2 => ?_) (fun h2 => ?_)
  ·
   try have hmd : madeB x = true := by first | assumption | (rw [madeB, h1, Bool.true_and]; exact decide_eq_true h2)
   try have het := ent_has (by assumption : entB x xs = true)
   try have hab := amB_yes hmd (by assumption : entB x xs = true)
   refine T_seq (T_region hc (Ch.s (.d (.bool false)) pa (Ch.s (.d (.bool false)) pa (Ch.nil (T_ret ?_)))))
   exact endR [(.d (.bool false)), (.d (.bool false))] [] [] (.cons (.tmp 4 rfl) (.cons (.tmp 5 rfl) .nil)) (.cons (.any _) (.cons (.any _) .nil)) (.tup (.cons (Exp.of (congrArg D.bool a2) (.d _)) (.cons (Exp.of (congrArg D.bool a2) (.d _)) .nil))) rfl rfl
  ·
   try have hmd : madeB x = true := by first | assumption | (rw [madeB, h1, Bool.true_and]; exact decide_eq_true h2)
   try have het := ent_has (by assumption : entB x xs = true)
   try have hab := amB_yes hmd (by assumption : entB x xs = true)
   refine T_skip (T_seq (T_seq (T_region hc (Ch.s (.d (.slice false 3 (xs.map Rcv.d))) pm (Ch.s (.d (.int .i64 (xs.length : Int))) (.pure (.len _ _ 121 rfl Tryz.underlying73 (.sh _ _) (by simp))) (Ch.s (.d (.int .i64 0)) pm (Ch.nil ?_)))))))
   refine T_block ?_
   refine T_loop (ι := Nat) (fun k => { n := 67, sl := [(2, (.ptr 2000 0)), (22, (.d (.slice false 3 (xs.map Rcv.d)))), (23, (.d (.int .i64 (xs.length : Int)))), (24, (.d (.int .i64 (k : Int))))], hp := [(2000, (some (.box (vX x))))], pin := [] }) (fun k => k ≤ xs.length ∧ ∀ j, j < k → amK x (xs.getD j default) = true) (fun k => xs.length - k) ⟨0, ⟨by omega, fun j hj => by omega⟩, (Wk.of rfl rfl (ai rfl (ai rfl (ai rfl (ai (vI a105) trivial)))) (ai rfl trivial))⟩ (fun k hp0 => ?_)
   refine T_seq (T_region hc (Ch.s (.d (.bool (decide ((k : Int) < (xs.length : Int))))) (iX rfl rfl rfl) (Ch.nil (T_seq ?_))))
   refine T_condD (p := ((k : Int) < (xs.length : Int))) rfl (fun h3 => ?_) (fun h3 => ?_)
   ·
    try have hmd : madeB x = true := by first | assumption | (rw [madeB, h1, Bool.true_and]; exact decide_eq_true h2)
    try have het := ent_has (by assumption : entB x xs = true)
    try have hab := amB_yes hmd (by assumption : entB x xs = true)
    try have hbk := bulkF_mem hcr _ (getD_mem (l := xs) (j := k) (d := default) (by omega))
    try have hck := bulk_len (show bulkS (xs.getD k default).cubes ≤ 1048576 from hbk)
    try have hcm := bulk_mem (show bulkS (xs.getD k default).cubes ≤ 1048576 from hbk)
    try have hs := het.2 _ (getD_mem (l := xs) (j := k) (d := default) (by omega))
    try have hexl := exR_le x (xs.getD k default).sig (xs.getD k default).up
    refine T_skip (T_seq (T_block (T_seq (T_region hc (Ch.s (.d (.ref (.agg [(.int .i64 ((xs.getD k default).sig)), (.bool ((xs.getD k default).up)), (.slice false 1 (((xs.getD k default).cubes).map D.str))]))) (.pure (.idx _ _ _ 121 (k) rfl Tryz.underlying73 sz121 rfl rfl rfl get_mapA)) (Ch.s (.d (.agg [(.int .i64 ((xs.getD k default).sig)), (.bool ((xs.getD k default).up)), (.slice false 1 (((xs.getD k default).cubes).map D.str))])) (.pure (.loadRefA _ _ rfl ag121 sz121 rfl)) (Ch.s (.ptr 7000 0) (.alloc 7000 _ rfl zer121) ?_)))))))
    refine Ch.s .junk (.storePtr _ _ _ rfl rfl rfl (.aggD _) sz121 (lb rfl)) (Ch.nil (T_seq (T_region hc (Ch.s (.agg (vX x)) (.pure (.loadPtrA _ _ rfl ag35 sz35 rfl rfl (lb rfl) rfl)) (Ch.s (.ptr 7000 0) (.pure (.fldPtr _ _ _ rfl fld121_0 rfl)) (Ch.s (.d (.int .i64 ((xs.getD k default).sig))) (.pure (.loadPtr1 _ _ rfl ag3 rfl rfl rfl)) (Ch.s (.ptr 7000 1) (.pure (.fldPtr _ _ _ rfl fld121_1 rfl)) ?_)))))))
    refine Ch.s (.d (.bool ((xs.getD k default).up))) (.pure (.loadPtr1 _ _ rfl ag4 rfl rfl rfl)) ?_
    refine Ch.step (v := (.row 33000)) rfl (.call 33000 88 _ _ _ en88 rfl (.inl rfl) (.cons lX (.cons (.d _) (.cons (.d _) .nil))) rfl (sol (solid_row intsU_sol _) rfl) (sp_impl_excitationRegions x ((xs.getD k default).sig) ((xs.getD k default).up) a39 (by assumption)) (.skip _ _ (.skip _ _ (.skip _ _ .nil))) rfl) rfl rfl ?_
    refine Ch.s (.row 33000) pa (Ch.nil (T_seq (T_seq (T_region hc (Ch.s (.ptr 7000 2) (.pure (.fldPtr _ _ _ rfl fld121_2 rfl)) (Ch.s (.d (.slice false 1 (((xs.getD k default).cubes).map D.str))) (.pure (.loadPtr1 _ _ rfl ag23 rfl rfl rfl)) (Ch.s (.d (.int .i64 (((xs.getD k default).cubes).length : Int))) (.pure (.len _ _ 9 rfl Tryz.underlying23 (.sh _ _) (by simp))) ?_)))))))
    refine Ch.s (.row 33000) pm (Ch.s (.d (.int .i64 ((exR x ((xs.getD k default).sig) ((xs.getD k default).up)).length : Int))) (.pure (.len _ _ 55 rfl Tryz.underlying49 (.row rfl) (by simp))) (Ch.s (.d (.bool (!(decide ((((xs.getD k default).cubes).length : Int) = ((exR x ((xs.getD k default).sig) ((xs.getD k default).up)).length : Int)))))) (iX rfl rfl rfl) (Ch.nil ?_)))
    refine T_condN (b := (decide ((((xs.getD k default).cubes).length : Int) = ((exR x ((xs.getD k default).sig) ((xs.getD k default).up)).length : Int)))) rfl (fun h4 => ?_) (fun h4 => ?_)
    ·
     replace h4 := of_decide_eq_false h4
     try have hbk := bulkF_mem hcr _ (getD_mem (l := xs) (j := k) (d := default) (by omega))
     try have hck := bulk_len (show bulkS (xs.getD k default).cubes ≤ 1048576 from hbk)
     try have hcm := bulk_mem (show bulkS (xs.getD k default).cubes ≤ 1048576 from hbk)
     try have hs := het.2 _ (getD_mem (l := xs) (j := k) (d := default) (by omega))
     try have hexl := exR_le x (xs.getD k default).sig (xs.getD k default).up
     refine T_seq (T_region hc (Ch.s (.d (.bool false)) pa (Ch.s (.d (.bool true)) pa (Ch.nil (T_ret ?_)))))
     exact endR [(.d (.bool false)), (.d (.bool true))] [] [] (.cons (.tmp 4 rfl) (.cons (.tmp 5 rfl) .nil)) (.cons (.any _) (.cons (.any _) .nil)) (.tup (.cons (Exp.of (congrArg D.bool a2) (.d _)) (.cons (Exp.of (congrArg D.bool a2) (.d _)) .nil))) rfl rfl
    ·
     replace h4 := of_decide_eq_true h4
     try have hbk := bulkF_mem hcr _ (getD_mem (l := xs) (j := k) (d := default) (by omega))
     try have hck := bulk_len (show bulkS (xs.getD k default).cubes ≤ 1048576 from hbk)
     try have hcm := bulk_mem (show bulkS (xs.getD k default).cubes ≤ 1048576 from hbk)
     try have hs := het.2 _ (getD_mem (l := xs) (j := k) (d := default) (by omega))
     try have hexl := exR_le x (xs.getD k default).sig (xs.getD k default).up
     refine T_skip (T_seq (T_region hc (Ch.s (.ptr 7000 2) (.pure (.fldPtr _ _ _ rfl fld121_2 rfl)) (Ch.s (.d (.slice false 1 (((xs.getD k default).cubes).map D.str))) (.pure (.loadPtr1 _ _ rfl ag23 rfl rfl rfl)) (Ch.s (.d (.int .i64 (((xs.getD k default).cubes).length : Int))) (.pure (.len _ _ 9 rfl Tryz.underlying23 (.sh _ _) (by simp))) (Ch.s (.d (.int .i64 0)) pm (Ch.nil ?_)))))))
     refine T_block ?_
     refine T_loop (ι := Nat) (fun m => { n := 67, sl := [(2, (.ptr 2000 0)), (7, (.ptr 7000 0)), (22, (.d (.slice false 3 (xs.map Rcv.d)))), (23, (.d (.int .i64 (xs.length : Int)))), (24, (.d (.int .i64 (k : Int)))), (41, (.d (.slice false 1 (((xs.getD k default).cubes).map D.str)))), (42, (.d (.int .i64 (((xs.getD k default).cubes).length : Int)))), (43, (.d (.int .i64 (m : Int))))], hp := [(2000, (some (.box (vX x)))), (7000, (some (.box [(.d (.int .i64 ((xs.getD k default).sig))), (.d (.bool ((xs.getD k default).up))), (.d (.slice false 1 (((xs.getD k default).cubes).map D.str)))])))], pin := [] }) (fun m => m ≤ (xs.getD k default).cubes.length ∧ ∀ j, j < m → amC x (xs.getD k default) j = true) (fun m => (xs.getD k default).cubes.length - m) ⟨0, ⟨by omega, fun j hj => by omega⟩, (Wk.of rfl rfl (ai rfl (ai rfl (ai rfl (ai rfl (ai rfl (ai rfl (ai rfl (ai (vI a105) trivial)))))))) (ai rfl (ai rfl trivial)))⟩ (fun m hp1 => ?_)
     refine T_seq (T_region hc (Ch.s (.d (.bool (decide ((m : Int) < (((xs.getD k default).cubes).length : Int))))) (iX rfl rfl rfl) (Ch.nil (T_seq ?_))))
     refine T_condD (p := ((m : Int) < (((xs.getD k default).cubes).length : Int))) rfl (fun h5 => ?_) (fun h5 => ?_)
     ·
      try have hum := hcm _ (getD_mem (l := (xs.getD k default).cubes) (j := m) (d := default) (by omega))
      refine T_skip (T_seq (T_block (T_seq (T_region hc (Ch.s (.d (.int .i64 (m : Int))) pm (Ch.s (.d (.ref (.str (((xs.getD k default).cubes).getD m default)))) (.pure (.idx _ _ _ 9 (m) rfl Tryz.underlying23 sz9 rfl rfl rfl get_mapA)) (Ch.s (.d (.str (((xs.getD k default).cubes).getD m default))) (.pure (.loadRef1 _ _ rfl ag9 rfl rfl)) ?_)))))))
      refine Ch.s (.d (.int .i64 (m : Int))) pa (Ch.s (.d (.str (((xs.getD k default).cubes).getD m default))) pa (Ch.nil (T_seq (T_region hc (Ch.s (.agg (vX x)) (.pure (.loadPtrA _ _ rfl ag35 sz35 rfl rfl (lb rfl) rfl)) (Ch.s (.ptr 7000 0) (.pure (.fldPtr _ _ _ rfl fld121_0 rfl)) (Ch.s (.d (.int .i64 ((xs.getD k default).sig))) (.pure (.loadPtr1 _ _ rfl ag3 rfl rfl rfl)) ?_)))))))
      refine Ch.s (.ptr 7000 1) (.pure (.fldPtr _ _ _ rfl fld121_1 rfl)) (Ch.s (.d (.bool ((xs.getD k default).up))) (.pure (.loadPtr1 _ _ rfl ag4 rfl rfl rfl)) (Ch.s (.d (.int .i64 (m : Int))) pm (Ch.s (.d (.str (((xs.getD k default).cubes).getD m default))) pm (Ch.s (.tup [(.d (.int .i64 ((cmV x ((xs.getD k default).sig) ((xs.getD k default).up) (m : Int) (((xs.getD k default).cubes).getD m default) : Nat) : Int))), (.d (.bool (cmB x ((xs.getD k default).sig) ((xs.getD k default).up) (m : Int) (((xs.getD k default).cubes).getD m default))))]) (.call 56000 57 _ _ _ en57 rfl (.inl rfl) (.cons lX (.cons (.d _) (.cons (.d _) (.cons (.d _) (.cons (.d _) .nil))))) rfl rfl (sp_impl_CheckMonotonous x ((xs.getD k default).sig) ((xs.getD k default).up) (m : Int) (((xs.getD k default).cubes).getD m default) a39 a39) (.skip _ _ (.skip _ _ (.skip _ _ (.skip _ _ (.skip _ _ .nil))))) rfl) (Ch.s (.tup [(.d (.int .i64 ((cmV x ((xs.getD k default).sig) ((xs.getD k default).up) (m : Int) (((xs.getD k default).cubes).getD m default) : Nat) : Int))), (.d (.bool (cmB x ((xs.getD k default).sig) ((xs.getD k default).up) (m : Int) (((xs.getD k default).cubes).getD m default))))]) pm (Ch.s (.d (.int .i64 ((cmV x ((xs.getD k default).sig) ((xs.getD k default).up) (m : Int) (((xs.getD k default).cubes).getD m default) : Nat) : Int))) (.pure (.extract _ rfl rfl rfl)) (Ch.s (.d (.bool (cmB x ((xs.getD k default).sig) ((xs.getD k default).up) (m : Int) (((xs.getD k default).cubes).getD m default)))) (.pure (.extract _ rfl rfl rfl)) ?_)))))))
      refine Ch.s (.d (.int .i64 ((cmV x ((xs.getD k default).sig) ((xs.getD k default).up) (m : Int) (((xs.getD k default).cubes).getD m default) : Nat) : Int))) pa (Ch.s (.d (.bool (cmB x ((xs.getD k default).sig) ((xs.getD k default).up) (m : Int) (((xs.getD k default).cubes).getD m default)))) pa (Ch.nil (T_seq (T_region hc (Ch.s (.d (.bool (cmB x ((xs.getD k default).sig) ((xs.getD k default).up) (m : Int) (((xs.getD k default).cubes).getD m default)))) pm (Ch.s (.d (.bool (!(cmB x ((xs.getD k default).sig) ((xs.getD k default).up) (m : Int) (((xs.getD k default).cubes).getD m default))))) (.pure (.not _ _ rfl rfl)) (Ch.s (.d (.bool (!(cmB x ((xs.getD k default).sig) ((xs.getD k default).up) (m : Int) (((xs.getD k default).cubes).getD m default))))) pm ?_)))))))
      cases h6 : (cmB x ((xs.getD k default).sig) ((xs.getD k default).up) (m : Int) (((xs.getD k default).cubes).getD m default)) with
      | true =>
       try have hum := hcm _ (getD_mem (l := (xs.getD k default).cubes) (j := m) (d := default) (by omega))
       refine Ch.s (.d (.int .i64 ((cmV x ((xs.getD k default).sig) ((xs.getD k default).up) (m : Int) (((xs.getD k default).cubes).getD m default) : Nat) : Int))) pm (Ch.s (.d (.bool (!(decide (((cmV x ((xs.getD k default).sig) ((xs.getD k default).up) (m : Int) (((xs.getD k default).cubes).getD m default) : Nat) : Int) = 0))))) (iX rfl rfl rfl) (Ch.s (.d (.bool (!(decide (((cmV x ((xs.getD k default).sig) ((xs.getD k default).up) (m : Int) (((xs.getD k default).cubes).getD m default) : Nat) : Int) = 0))))) (.pure (.pickF _ _ _ rfl rfl rfl)) (Ch.nil ?_)))
       refine T_condN (b := (decide (((cmV x ((xs.getD k default).sig) ((xs.getD k default).up) (m : Int) (((xs.getD k default).cubes).getD m default) : Nat) : Int) = 0))) rfl (fun h7 => ?_) (fun h7 => ?_)
       ·
        replace h7 := of_decide_eq_false h7
        refine T_seq (T_region hc (Ch.s (.d (.bool false)) pa (Ch.s (.d (.bool true)) pa (Ch.nil (T_ret ?_)))))
        exact endR [(.d (.bool false)), (.d (.bool true))] [] [] (.cons (.tmp 4 rfl) (.cons (.tmp 5 rfl) .nil)) (.cons (.any _) (.cons (.any _) .nil)) (.tup (.cons (Exp.of (congrArg D.bool a2) (.d _)) (.cons (Exp.of (congrArg D.bool a2) (.d _)) .nil))) rfl rfl
       ·
        replace h7 := of_decide_eq_true h7
        refine T_skip (T_region hc (Ch.s (.d (.int .i64 ((m : Int) + 1))) (iX rfl rfl intV_addA) (Ch.s (.d (.int .i64 ((m : Int) + 1))) pm (Ch.nil ?_))))
        exact nx (m + 1) ⟨by omega, upto_succ hp1.2 a74⟩ (Wk.of rfl rfl (ai rfl (ai rfl (ai rfl (ai rfl (ai rfl (ai rfl (ai rfl (ai (vI a105) trivial)))))))) (ai rfl (ai rfl trivial)))
      | false =>
       try have hum := hcm _ (getD_mem (l := (xs.getD k default).cubes) (j := m) (d := default) (by omega))
       refine Ch.skip rfl rfl (Ch.skip rfl rfl (Ch.s (.d (.bool true)) (.pure (.pickT _ _ _ rfl rfl rfl)) (Ch.nil ?_)))
       refine T_cond (b := true) rfl (fun _ => ?_) (fun h => nomatch h)
       refine T_seq (T_region hc (Ch.s (.d (.bool false)) pa (Ch.s (.d (.bool true)) pa (Ch.nil (T_ret ?_)))))
       exact endR [(.d (.bool false)), (.d (.bool true))] [] [] (.cons (.tmp 4 rfl) (.cons (.tmp 5 rfl) .nil)) (.cons (.any _) (.cons (.any _) .nil)) (.tup (.cons (Exp.of (congrArg D.bool a2) (.d _)) (.cons (Exp.of (congrArg D.bool a2) (.d _)) .nil))) rfl rfl
     ·
      try have hum := hcm _ (getD_mem (l := (xs.getD k default).cubes) (j := m) (d := default) (by omega))
      refine T_exit (T_region hc (Ch.s (.d (.int .i64 ((k : Int) + 1))) (iX rfl rfl intV_addA) (Ch.s (.d (.int .i64 ((k : Int) + 1))) pm (Ch.nil ?_))))
      exact nx (k + 1) ⟨by omega, upto_succ hp0.2 (amK_yes (by omega) (fun j hj => hp1.2 j (by omega)))⟩ (Wk.of rfl rfl (ai rfl (ai rfl (ai rfl (ai (vI a105) trivial)))) (ai rfl trivial))
   ·
    try have hmd : madeB x = true := by first | assumption | (rw [madeB, h1, Bool.true_and]; exact decide_eq_true h2)
    try have het := ent_has (by assumption : entB x xs = true)
    try have hab := amB_yes hmd (by assumption : entB x xs = true)
    try have hbk := bulkF_mem hcr _ (getD_mem (l := xs) (j := k) (d := default) (by omega))
    try have hck := bulk_len (show bulkS (xs.getD k default).cubes ≤ 1048576 from hbk)
    try have hcm := bulk_mem (show bulkS (xs.getD k default).cubes ≤ 1048576 from hbk)
    try have hs := het.2 _ (getD_mem (l := xs) (j := k) (d := default) (by omega))
    try have hexl := exR_le x (xs.getD k default).sig (xs.getD k default).up
    refine T_exit (T_seq (T_region hc (Ch.s (.d (.bool true)) pa (Ch.s (.d (.bool true)) pa (Ch.nil (T_ret ?_))))))
    exact endR [(.d (.bool true)), (.d (.bool true))] [] [] (.cons (.tmp 4 rfl) (.cons (.tmp 5 rfl) .nil)) (.cons (.any _) (.cons (.any _) .nil)) (.tup (.cons (Exp.of (congrArg D.bool a2) (.d _)) (.cons (Exp.of (congrArg D.bool a2) (.d _)) .nil))) rfl rfl
 | false =>
  try have hx := sg_has a109
  try have h8 := hx.eight.2
  try have hxl := hx.len
  refine Ch.skip rfl rfl (Ch.skip rfl rfl (Ch.skip rfl rfl (Ch.skip rfl rfl (Ch.s (.d (.bool true)) (.pure (.pickT _ _ _ rfl rfl rfl)) (Ch.nil ?_)))))
  refine T_cond (b := true) rfl (fun _ => ?_) (fun h => nomatch h)
  refine T_seq (T_region hc (Ch.s (.d (.bool false)) pa (Ch.s (.d (.bool false)) pa (Ch.nil (T_ret ?_)))))
  exact endR [(.d (.bool false)), (.d (.bool false))] [] [] (.cons (.tmp 4 rfl) (.cons (.tmp 5 rfl) .nil)) (.cons (.any _) (.cons (.any _) .nil)) (.tup (.cons (Exp.of (congrArg D.bool a2) (.d _)) (.cons (Exp.of (congrArg D.bool a2) (.d _)) .nil))) rfl rfl

set_option maxHeartbeats 2000000 in
theorem sp_spec_AreMonotonous (x : Sgr) (xs : List Rcv) (hb : x.bulk ≤ 1048576) (hcr : bulkF Rcv.bulk xs ≤ 1048576) : Sp Tryz.prog 60 [(.agg [(.slice false 2 (x.sigs.map Sgn.d)), (.slice false 1 (x.codes.map D.str)), (.slice false 4 (x.arcs.map Arc.d))]), (.slice false 3 (xs.map Rcv.d))] [.any, .any] (.tup [(.bool (amV x xs)), (.bool (amB x xs))]) := by
 refine Sp_intro (lend := true) Tryz.func60 rfl rfl rfl (fun _ => rfl) (fun c hc hX => ?_)
 obtain ⟨hp0, hp1, hp2⟩ := Sgr.parts hb
 have hn0 := bulkF_len hp0
 have hn1 := bulk_len hp1
 have hx1 := bulk_mem hp1
 have hn2 := bulkF_len hp2; have hnr := bulkF_len hcr; have hol := outs_len x.sigs
 refine T_seq (T_region hc (Ch.s (.ptr 2000 0) (.box 2000 _ _ rfl (.aggD _)) (Ch.s (.d (.bool false)) pa (Ch.s (.d (.bool false)) pa (Ch.nil (T_seq (T_seq ?_)))))))
 refine T_region hc (Ch.s (.agg (vX x)) (.pure (.loadPtrA _ _ rfl ag35 sz35 rfl rfl (lb rfl) rfl)) (Ch.s (.d (.bool (sgB x))) (.call 14000 93 _ _ _ en93 rfl (.inl rfl) (.cons lX .nil) rfl rfl (sp_spec_l5Good x a39) (.skip _ _ .nil) rfl) (Ch.s (.d (.bool (!(sgB x)))) (.pure (.not _ _ rfl rfl)) (Ch.s (.d (.bool (!(sgB x)))) pm ?_))))
 cases h1 : (sgB x) with
 | true =>
  try have hx := sg_has a109
  try have h8 := hx.eight.2
  try have hxl := hx.len
  refine Ch.s (.agg (vX x)) (.pure (.loadPtrA _ _ rfl ag35 sz35 rfl rfl (lb rfl) rfl)) (Ch.s (.d (.str (whyW x))) (.call 18000 94 _ _ _ en94 rfl (.inl rfl) (.cons lX .nil) rfl rfl (sp_spec_l6Why x a39 (by assumption)) (.skip _ _ .nil) rfl) (Ch.s (.d (.bool (!(decide ((whyW x) = [109, 97, 100, 101]))))) (.pure (.str _ _ _ _ _ rfl rfl rfl rfl)) (Ch.s (.d (.bool (!(decide ((whyW x) = [109, 97, 100, 101]))))) (.pure (.pickF _ _ _ rfl rfl rfl)) (Ch.s (.d (.bool (!(decide ((whyW x) = [109, 97, 100, 101]))))) pm ?_))))
  cases h2 : (decide ((whyW x) = [109, 97, 100, 101])) with
  | true =>
   replace h2 := of_decide_eq_true h2
   try have hmd : madeB x = true := by first | assumption | (rw [madeB, h1, Bool.true_and]; exact decide_eq_true h2)
   try have het := ent_has (by assumption : entB x xs = true)
   try have hab := amB_yes hmd (by assumption : entB x xs = true)
   refine Ch.s (.agg (vX x)) (.pure (.loadPtrA _ _ rfl ag35 sz35 rfl rfl (lb rfl) rfl)) (Ch.s (.d (.slice false 3 (xs.map Rcv.d))) pm (Ch.s (.d (.bool (entB x xs))) (.call 24000 106 _ _ _ en106 rfl (.inl rfl) (.cons lX (.cons (.d _) .nil)) rfl rfl (sp_spec_l17List x xs a39 a39 a39) (.skip _ _ (.skip _ _ .nil)) rfl) (Ch.s (.d (.bool (!(entB x xs)))) (.pure (.not _ _ rfl rfl)) (Ch.s (.d (.bool (!(entB x xs)))) (.pure (.pickF _ _ _ rfl rfl rfl)) (Ch.nil ?_)))))
   refine T_condN (b := (entB x xs)) rfl (fun h3 => ?_) (fun h3 => ?_)
   ·
    try have hmd : madeB x = true := by first | assumption | (rw [madeB, h1, Bool.true_and]; exact decide_eq_true h2)
    try have het := ent_has (by assumption : entB x xs = true)
    try have hab := amB_yes hmd (by assumption : entB x xs = true)
    try have hbk := bulkF_mem hcr _ (getD_mem (l := xs) (j := k) (d := default) (by omega))
    try have hck := bulk_len (show bulkS (xs.getD k default).cubes ≤ 1048576 from hbk)
    try have hcm := bulk_mem (show bulkS (xs.getD k default).cubes ≤ 1048576 from hbk)
    try have hs := het.2 _ (getD_mem (l := xs) (j := k) (d := default) (by omega))
    try have hexl := exR_le x (xs.getD k default).sig (xs.getD k default).up
    refine T_seq (T_region hc (Ch.s (.d (.bool false)) pa (Ch.s (.d (.bool false)) pa (Ch.nil (T_ret ?_)))))
    exact endR [(.d (.bool false)), (.d (.bool false))] [] [] (.cons (.tmp 4 rfl) (.cons (.tmp 5 rfl) .nil)) (.cons (.any _) (.cons (.any _) .nil)) (.tup (.cons (Exp.of (congrArg D.bool a2) (.d _)) (.cons (Exp.of (congrArg D.bool a2) (.d _)) .nil))) rfl rfl
   ·
    try have hmd : madeB x = true := by first | assumption | (rw [madeB, h1, Bool.true_and]; exact decide_eq_true h2)
    try have het := ent_has (by assumption : entB x xs = true)
    try have hab := amB_yes hmd (by assumption : entB x xs = true)
    try have hbk := bulkF_mem hcr _ (getD_mem (l := xs) (j := k) (d := default) (by omega))
    try have hck := bulk_len (show bulkS (xs.getD k default).cubes ≤ 1048576 from hbk)
    try have hcm := bulk_mem (show bulkS (xs.getD k default).cubes ≤ 1048576 from hbk)
    try have hs := het.2 _ (getD_mem (l := xs) (j := k) (d := default) (by omega))
    try have hexl := exR_le x (xs.getD k default).sig (xs.getD k default).up
    refine T_skip (T_seq (T_seq (T_region hc (Ch.s (.d (.slice false 3 (xs.map Rcv.d))) pm (Ch.s (.d (.int .i64 (xs.length : Int))) (.pure (.len _ _ 121 rfl Tryz.underlying73 (.sh _ _) (by simp))) (Ch.s (.d (.int .i64 0)) pm (Ch.nil ?_)))))))
    refine T_block ?_
    refine T_loop (ι := Nat) (fun k => { n := 72, sl := [(2, (.ptr 2000 0)), (27, (.d (.slice false 3 (xs.map Rcv.d)))), (28, (.d (.int .i64 (xs.length : Int)))), (29, (.d (.int .i64 (k : Int))))], hp := [(2000, (some (.box (vX x))))], pin := [] }) (fun k => k ≤ xs.length ∧ ∀ j, j < k → amK x (xs.getD j default) = true) (fun k => xs.length - k) ⟨0, ⟨by omega, fun j hj => by omega⟩, (Wk.of rfl rfl (ai rfl (ai rfl (ai rfl (ai (vI a105) trivial)))) (ai rfl trivial))⟩ (fun k hp0 => ?_)
    refine T_seq (T_region hc (Ch.s (.d (.bool (decide ((k : Int) < (xs.length : Int))))) (iX rfl rfl rfl) (Ch.nil (T_seq ?_))))
    refine T_condD (p := ((k : Int) < (xs.length : Int))) rfl (fun h4 => ?_) (fun h4 => ?_)
    ·
     try have hbk := bulkF_mem hcr _ (getD_mem (l := xs) (j := k) (d := default) (by omega))
     try have hck := bulk_len (show bulkS (xs.getD k default).cubes ≤ 1048576 from hbk)
     try have hcm := bulk_mem (show bulkS (xs.getD k default).cubes ≤ 1048576 from hbk)
     try have hs := het.2 _ (getD_mem (l := xs) (j := k) (d := default) (by omega))
     try have hexl := exR_le x (xs.getD k default).sig (xs.getD k default).up
     refine T_skip (T_seq (T_block (T_seq (T_region hc (Ch.s (.d (.ref (.agg [(.int .i64 ((xs.getD k default).sig)), (.bool ((xs.getD k default).up)), (.slice false 1 (((xs.getD k default).cubes).map D.str))]))) (.pure (.idx _ _ _ 121 (k) rfl Tryz.underlying73 sz121 rfl rfl rfl get_mapA)) (Ch.s (.d (.agg [(.int .i64 ((xs.getD k default).sig)), (.bool ((xs.getD k default).up)), (.slice false 1 (((xs.getD k default).cubes).map D.str))])) (.pure (.loadRefA _ _ rfl ag121 sz121 rfl)) (Ch.s (.ptr 7000 0) (.alloc 7000 _ rfl zer121) ?_)))))))
     refine Ch.s .junk (.storePtr _ _ _ rfl rfl rfl (.aggD _) sz121 (lb rfl)) (Ch.nil (T_seq (T_region hc (Ch.s (.agg (vX x)) (.pure (.loadPtrA _ _ rfl ag35 sz35 rfl rfl (lb rfl) rfl)) (Ch.s (.ptr 7000 0) (.pure (.fldPtr _ _ _ rfl fld121_0 rfl)) (Ch.s (.d (.int .i64 ((xs.getD k default).sig))) (.pure (.loadPtr1 _ _ rfl ag3 rfl rfl rfl)) (Ch.s (.ptr 7000 1) (.pure (.fldPtr _ _ _ rfl fld121_1 rfl)) ?_)))))))
     refine Ch.s (.d (.bool ((xs.getD k default).up))) (.pure (.loadPtr1 _ _ rfl ag4 rfl rfl rfl)) ?_
     refine Ch.step (v := (.row 38000)) rfl (.call 38000 86 _ _ _ en86 rfl (.inl rfl) (.cons lX (.cons (.d _) (.cons (.d _) .nil))) rfl (sol (solid_row intsU_sol _) rfl) (sp_spec_l17Regions x ((xs.getD k default).sig) ((xs.getD k default).up) a39 (by assumption) a113) (.skip _ _ (.skip _ _ (.skip _ _ .nil))) rfl) rfl rfl ?_
     refine Ch.s (.row 38000) pa (Ch.nil (T_seq (T_seq (T_region hc (Ch.s (.ptr 7000 2) (.pure (.fldPtr _ _ _ rfl fld121_2 rfl)) (Ch.s (.d (.slice false 1 (((xs.getD k default).cubes).map D.str))) (.pure (.loadPtr1 _ _ rfl ag23 rfl rfl rfl)) (Ch.s (.d (.int .i64 (((xs.getD k default).cubes).length : Int))) (.pure (.len _ _ 9 rfl Tryz.underlying23 (.sh _ _) (by simp))) ?_)))))))
     refine Ch.s (.row 38000) pm (Ch.s (.d (.int .i64 ((exR x ((xs.getD k default).sig) ((xs.getD k default).up)).length : Int))) (.pure (.len _ _ 55 rfl Tryz.underlying49 (.row rfl) (by simp))) (Ch.s (.d (.bool (!(decide ((((xs.getD k default).cubes).length : Int) = ((exR x ((xs.getD k default).sig) ((xs.getD k default).up)).length : Int)))))) (iX rfl rfl rfl) (Ch.nil ?_)))
     refine T_condN (b := (decide ((((xs.getD k default).cubes).length : Int) = ((exR x ((xs.getD k default).sig) ((xs.getD k default).up)).length : Int)))) rfl (fun h5 => ?_) (fun h5 => ?_)
     ·
      replace h5 := of_decide_eq_false h5
      try have hum := hcm _ (getD_mem (l := (xs.getD k default).cubes) (j := m) (d := default) (by omega))
      refine T_seq (T_region hc (Ch.s (.d (.bool false)) pa (Ch.s (.d (.bool true)) pa (Ch.nil (T_ret ?_)))))
      exact endR [(.d (.bool false)), (.d (.bool true))] [] [] (.cons (.tmp 4 rfl) (.cons (.tmp 5 rfl) .nil)) (.cons (.any _) (.cons (.any _) .nil)) (.tup (.cons (Exp.of (congrArg D.bool a2) (.d _)) (.cons (Exp.of (congrArg D.bool a2) (.d _)) .nil))) rfl rfl
     ·
      replace h5 := of_decide_eq_true h5
      try have hum := hcm _ (getD_mem (l := (xs.getD k default).cubes) (j := m) (d := default) (by omega))
      refine T_skip (T_seq (T_region hc (Ch.s (.ptr 7000 2) (.pure (.fldPtr _ _ _ rfl fld121_2 rfl)) (Ch.s (.d (.slice false 1 (((xs.getD k default).cubes).map D.str))) (.pure (.loadPtr1 _ _ rfl ag23 rfl rfl rfl)) (Ch.s (.d (.int .i64 (((xs.getD k default).cubes).length : Int))) (.pure (.len _ _ 9 rfl Tryz.underlying23 (.sh _ _) (by simp))) (Ch.s (.d (.int .i64 0)) pm (Ch.nil ?_)))))))
      refine T_block ?_
      refine T_loop (ι := Nat) (fun m => { n := 72, sl := [(2, (.ptr 2000 0)), (7, (.ptr 7000 0)), (27, (.d (.slice false 3 (xs.map Rcv.d)))), (28, (.d (.int .i64 (xs.length : Int)))), (29, (.d (.int .i64 (k : Int)))), (46, (.d (.slice false 1 (((xs.getD k default).cubes).map D.str)))), (47, (.d (.int .i64 (((xs.getD k default).cubes).length : Int)))), (48, (.d (.int .i64 (m : Int))))], hp := [(2000, (some (.box (vX x)))), (7000, (some (.box [(.d (.int .i64 ((xs.getD k default).sig))), (.d (.bool ((xs.getD k default).up))), (.d (.slice false 1 (((xs.getD k default).cubes).map D.str)))])))], pin := [] }) (fun m => m ≤ (xs.getD k default).cubes.length ∧ ∀ j, j < m → amC x (xs.getD k default) j = true) (fun m => (xs.getD k default).cubes.length - m) ⟨0, ⟨by omega, fun j hj => by omega⟩, (Wk.of rfl rfl (ai rfl (ai rfl (ai rfl (ai rfl (ai rfl (ai rfl (ai rfl (ai (vI a105) trivial)))))))) (ai rfl (ai rfl trivial)))⟩ (fun m hp1 => ?_)
      refine T_seq (T_region hc (Ch.s (.d (.bool (decide ((m : Int) < (((xs.getD k default).cubes).length : Int))))) (iX rfl rfl rfl) (Ch.nil (T_seq ?_))))
      refine T_condD (p := ((m : Int) < (((xs.getD k default).cubes).length : Int))) rfl (fun h6 => ?_) (fun h6 => ?_)
      ·
       try have hum := hcm _ (getD_mem (l := (xs.getD k default).cubes) (j := m) (d := default) (by omega))
       refine T_skip (T_seq (T_block (T_seq (T_region hc (Ch.s (.d (.int .i64 (m : Int))) pm (Ch.s (.d (.ref (.str (((xs.getD k default).cubes).getD m default)))) (.pure (.idx _ _ _ 9 (m) rfl Tryz.underlying23 sz9 rfl rfl rfl get_mapA)) (Ch.s (.d (.str (((xs.getD k default).cubes).getD m default))) (.pure (.loadRef1 _ _ rfl ag9 rfl rfl)) ?_)))))))
       refine Ch.s (.d (.int .i64 (m : Int))) pa (Ch.s (.d (.str (((xs.getD k default).cubes).getD m default))) pa (Ch.nil (T_seq (T_region hc (Ch.s (.agg (vX x)) (.pure (.loadPtrA _ _ rfl ag35 sz35 rfl rfl (lb rfl) rfl)) (Ch.s (.ptr 7000 0) (.pure (.fldPtr _ _ _ rfl fld121_0 rfl)) (Ch.s (.d (.int .i64 ((xs.getD k default).sig))) (.pure (.loadPtr1 _ _ rfl ag3 rfl rfl rfl)) ?_)))))))
       refine Ch.s (.ptr 7000 1) (.pure (.fldPtr _ _ _ rfl fld121_1 rfl)) (Ch.s (.d (.bool ((xs.getD k default).up))) (.pure (.loadPtr1 _ _ rfl ag4 rfl rfl rfl)) (Ch.s (.d (.int .i64 (m : Int))) pm (Ch.s (.d (.str (((xs.getD k default).cubes).getD m default))) pm (Ch.s (.tup [(.d (.int .i64 ((cmV x ((xs.getD k default).sig) ((xs.getD k default).up) (m : Int) (((xs.getD k default).cubes).getD m default) : Nat) : Int))), (.d (.bool (cmB x ((xs.getD k default).sig) ((xs.getD k default).up) (m : Int) (((xs.getD k default).cubes).getD m default))))]) (.call 61000 56 _ _ _ en56 rfl (.inl rfl) (.cons lX (.cons (.d _) (.cons (.d _) (.cons (.d _) (.cons (.d _) .nil))))) rfl rfl (sp_spec_CheckMonotonous x ((xs.getD k default).sig) ((xs.getD k default).up) (m : Int) (((xs.getD k default).cubes).getD m default) a39 a39) (.skip _ _ (.skip _ _ (.skip _ _ (.skip _ _ (.skip _ _ .nil))))) rfl) (Ch.s (.tup [(.d (.int .i64 ((cmV x ((xs.getD k default).sig) ((xs.getD k default).up) (m : Int) (((xs.getD k default).cubes).getD m default) : Nat) : Int))), (.d (.bool (cmB x ((xs.getD k default).sig) ((xs.getD k default).up) (m : Int) (((xs.getD k default).cubes).getD m default))))]) pm (Ch.s (.d (.int .i64 ((cmV x ((xs.getD k default).sig) ((xs.getD k default).up) (m : Int) (((xs.getD k default).cubes).getD m default) : Nat) : Int))) (.pure (.extract _ rfl rfl rfl)) (Ch.s (.d (.bool (cmB x ((xs.getD k default).sig) ((xs.getD k default).up) (m : Int) (((xs.getD k default).cubes).getD m default)))) (.pure (.extract _ rfl rfl rfl)) ?_)))))))
       refine Ch.s (.d (.int .i64 ((cmV x ((xs.getD k default).sig) ((xs.getD k default).up) (m : Int) (((xs.getD k default).cubes).getD m default) : Nat) : Int))) pa (Ch.s (.d (.bool (cmB x ((xs.getD k default).sig) ((xs.getD k default).up) (m : Int) (((xs.getD k default).cubes).getD m default)))) pa (Ch.nil (T_seq (T_region hc (Ch.s (.d (.bool (cmB x ((xs.getD k default).sig) ((xs.getD k default).up) (m : Int) (((xs.getD k default).cubes).getD m default)))) pm (Ch.s (.d (.bool (!(cmB x ((xs.getD k default).sig) ((xs.getD k default).up) (m : Int) (((xs.getD k default).cubes).getD m default))))) (.pure (.not _ _ rfl rfl)) (Ch.s (.d (.bool (!(cmB x ((xs.getD k default).sig) ((xs.getD k default).up) (m : Int) (((xs.getD k default).cubes).getD m default))))) pm ?_)))))))
       cases h7 : (cmB x ((xs.getD k default).sig) ((xs.getD k default).up) (m : Int) (((xs.getD k default).cubes).getD m default)) with
       | true =>
        refine Ch.s (.d (.int .i64 ((cmV x ((xs.getD k default).sig) ((xs.getD k default).up) (m : Int) (((xs.getD k default).cubes).getD m default) : Nat) : Int))) pm (Ch.s (.d (.bool (!(decide (((cmV x ((xs.getD k default).sig) ((xs.getD k default).up) (m : Int) (((xs.getD k default).cubes).getD m default) : Nat) : Int) = 0))))) (iX rfl rfl rfl) (Ch.s (.d (.bool (!(decide (((cmV x ((xs.getD k default).sig) ((xs.getD k default).up) (m : Int) (((xs.getD k default).cubes).getD m default) : Nat) : Int) = 0))))) (.pure (.pickF _ _ _ rfl rfl rfl)) (Ch.nil ?_)))
        refine T_condN (b := (decide (((cmV x ((xs.getD k default).sig) ((xs.getD k default).up) (m : Int) (((xs.getD k default).cubes).getD m default) : Nat) : Int) = 0))) rfl (fun h8 => ?_) (fun h8 => ?_)
        ·
         replace h8 := of_decide_eq_false h8
         refine T_seq (T_region hc (Ch.s (.d (.bool false)) pa (Ch.s (.d (.bool true)) pa (Ch.nil (T_ret ?_)))))
         exact endR [(.d (.bool false)), (.d (.bool true))] [] [] (.cons (.tmp 4 rfl) (.cons (.tmp 5 rfl) .nil)) (.cons (.any _) (.cons (.any _) .nil)) (.tup (.cons (Exp.of (congrArg D.bool a2) (.d _)) (.cons (Exp.of (congrArg D.bool a2) (.d _)) .nil))) rfl rfl
        ·
         replace h8 := of_decide_eq_true h8
         refine T_skip (T_region hc (Ch.s (.d (.int .i64 ((m : Int) + 1))) (iX rfl rfl intV_addA) (Ch.s (.d (.int .i64 ((m : Int) + 1))) pm (Ch.nil ?_))))
         exact nx (m + 1) ⟨by omega, upto_succ hp1.2 a74⟩ (Wk.of rfl rfl (ai rfl (ai rfl (ai rfl (ai rfl (ai rfl (ai rfl (ai rfl (ai (vI a105) trivial)))))))) (ai rfl (ai rfl trivial)))
       | false =>
        refine Ch.skip rfl rfl (Ch.skip rfl rfl (Ch.s (.d (.bool true)) (.pure (.pickT _ _ _ rfl rfl rfl)) (Ch.nil ?_)))
        refine T_cond (b := true) rfl (fun _ => ?_) (fun h => nomatch h)
        refine T_seq (T_region hc (Ch.s (.d (.bool false)) pa (Ch.s (.d (.bool true)) pa (Ch.nil (T_ret ?_)))))
        exact endR [(.d (.bool false)), (.d (.bool true))] [] [] (.cons (.tmp 4 rfl) (.cons (.tmp 5 rfl) .nil)) (.cons (.any _) (.cons (.any _) .nil)) (.tup (.cons (Exp.of (congrArg D.bool a2) (.d _)) (.cons (Exp.of (congrArg D.bool a2) (.d _)) .nil))) rfl rfl
      ·
       try have hum := hcm _ (getD_mem (l := (xs.getD k default).cubes) (j := m) (d := default) (by omega))
       refine T_exit (T_region hc (Ch.s (.d (.int .i64 ((k : Int) + 1))) (iX rfl rfl intV_addA) (Ch.s (.d (.int .i64 ((k : Int) + 1))) pm (Ch.nil ?_))))
       exact nx (k + 1) ⟨by omega, upto_succ hp0.2 (amK_yes (by omega) (fun j hj => hp1.2 j (by omega)))⟩ (Wk.of rfl rfl (ai rfl (ai rfl (ai rfl (ai (vI a105) trivial)))) (ai rfl trivial))
    ·
     try have hbk := bulkF_mem hcr _ (getD_mem (l := xs) (j := k) (d := default) (by omega))
     try have hck := bulk_len (show bulkS (xs.getD k default).cubes ≤ 1048576 from hbk)
     try have hcm := bulk_mem (show bulkS (xs.getD k default).cubes ≤ 1048576 from hbk)
     try have hs := het.2 _ (getD_mem (l := xs) (j := k) (d := default) (by omega))
     try have hexl := exR_le x (xs.getD k default).sig (xs.getD k default).up
     refine T_exit (T_seq (T_region hc (Ch.s (.d (.bool true)) pa (Ch.s (.d (.bool true)) pa (Ch.nil (T_ret ?_))))))
     exact endR [(.d (.bool true)), (.d (.bool true))] [] [] (.cons (.tmp 4 rfl) (.cons (.tmp 5 rfl) .nil)) (.cons (.any _) (.cons (.any _) .nil)) (.tup (.cons (Exp.of (congrArg D.bool a2) (.d _)) (.cons (Exp.of (congrArg D.bool a2) (.d _)) .nil))) rfl rfl
  | false =>
   replace h2 := of_decide_eq_false h2
   try have hmd : madeB x = true := by first | assumption | (rw [madeB, h1, Bool.true_and]; exact decide_eq_true h2)
   try have het := ent_has (by assumption : entB x xs = true)
   try have hab := amB_yes hmd (by assumption : entB x xs = true)
   refine Ch.skip rfl rfl (Ch.skip rfl rfl (Ch.skip rfl rfl (Ch.skip rfl rfl (Ch.s (.d (.bool true)) (.pure (.pickT _ _ _ rfl rfl rfl)) (Ch.nil ?_)))))
   refine T_cond (b := true) rfl (fun _ => ?_) (fun h => nomatch h)
   refine T_seq (T_region hc (Ch.s (.d (.bool false)) pa (Ch.s (.d (.bool false)) pa (Ch.nil (T_ret ?_)))))
   exact endR [(.d (.bool false)), (.d (.bool false))] [] [] (.cons (.tmp 4 rfl) (.cons (.tmp 5 rfl) .nil)) (.cons (.any _) (.cons (.any _) .nil)) (.tup (.cons (Exp.of (congrArg D.bool a2) (.d _)) (.cons (Exp.of (congrArg D.bool a2) (.d _)) .nil))) rfl rfl
 | false =>
  try have hx := sg_has a109
  try have h8 := hx.eight.2
  try have hxl := hx.len
  refine Ch.skip rfl rfl (Ch.skip rfl rfl (Ch.skip rfl rfl (Ch.s (.d (.bool true)) (.pure (.pickT _ _ _ rfl rfl rfl)) (Ch.s (.d (.bool true)) pm (Ch.skip rfl rfl (Ch.skip rfl rfl (Ch.skip rfl rfl ?_)))))))
  refine Ch.skip rfl rfl (Ch.s (.d (.bool true)) (.pure (.pickT _ _ _ rfl rfl rfl)) (Ch.nil ?_))
  refine T_cond (b := true) rfl (fun _ => ?_) (fun h => nomatch h)
  refine T_seq (T_region hc (Ch.s (.d (.bool false)) pa (Ch.s (.d (.bool false)) pa (Ch.nil (T_ret ?_)))))
  exact endR [(.d (.bool false)), (.d (.bool false))] [] [] (.cons (.tmp 4 rfl) (.cons (.tmp 5 rfl) .nil)) (.cons (.any _) (.cons (.any _) .nil)) (.tup (.cons (Exp.of (congrArg D.bool a2) (.d _)) (.cons (Exp.of (congrArg D.bool a2) (.d _)) .nil))) rfl rfl

set_option maxHeartbeats 1000000 in
theorem sp_laws_FnExactAreMonotonous (x : Sgr) (xs : List Rcv) (hwx : x.wide) (hn : xs.length ≤ 9223372036854775807) (hx : ∀ y ∈ xs, y.wide) : Sp Tryz.prog 14 [(.agg [(.slice false 2 (x.sigs.map Sgn.d)), (.slice false 1 (x.codes.map D.str)), (.slice false 4 (x.arcs.map Arc.d))]), (.slice false 3 (xs.map Rcv.d))] [.any, .any] (.bool true) := by
 refine Sp_intro (lend := true) Tryz.func14 rfl rfl rfl (fun _ => rfl) (fun c hc hX => ?_)
 refine T_seq (T_region hc (Ch.s (.ptr 2000 0) (.box 2000 _ _ rfl (.aggD _)) (Ch.s (.d (.bool false)) pa (Ch.nil (T_seq (T_region hc (Ch.s (.d (.int .i64 1048576)) pa ?_)))))))
 refine Ch.nil (T_seq (T_region hc (Ch.s (.agg (vX x)) (.pure (.loadPtrA _ _ rfl ag26 sz26 rfl rfl (lb rfl) rfl)) (Ch.s (.d (.int .i64 1048576)) pm (Ch.s (.d (.int .i64 (szR x.bulk 1048576))) (.call 14000 16 _ _ _ en16 rfl (.inl rfl) (.cons lX (.cons (.d _) .nil)) rfl rfl (sp_laws_szStateGraph x 1048576 a23 a23 a45) (.skip _ _ (.skip _ _ .nil)) rfl) (Ch.s (.d (.int .i64 (szR x.bulk 1048576))) pa (Ch.nil ?_)))))))
 refine T_seq (T_seq (T_region hc (Ch.s (.d (.int .i64 (szR x.bulk 1048576))) pm (Ch.s (.d (.bool (decide ((szR x.bulk 1048576) < 0)))) (iX rfl rfl rfl) (Ch.nil ?_)))))
 refine T_condD (p := ((szR x.bulk 1048576) < 0)) rfl (fun h1 => ?_) (fun h1 => ?_)
 ·
  try have hz := szR_ok (t := x.bulk) (left := 1048576) h1 (by omega)
  try have hb : x.bulk ≤ 1048576 := by omega
  try have hl := hz.2
  refine T_seq (T_region hc (Ch.s (.d (.bool true)) pa (Ch.nil (T_ret ?_))))
  exact endR [(.d (.bool true))] [] [] (.cons (.tmp 4 rfl) .nil) (.cons (.any _) (.cons (.any _) .nil)) (.d _) rfl rfl
 ·
  try have hz := szR_ok (t := x.bulk) (left := 1048576) h1 (by omega)
  try have hb : x.bulk ≤ 1048576 := by omega
  try have hl := hz.2
  refine T_skip (T_seq (T_region hc (Ch.s (.d (.slice false 3 (xs.map Rcv.d))) pm (Ch.s (.d (.int .i64 (szR x.bulk 1048576))) pm (Ch.s (.d (.int .i64 (szR (bulkF Rcv.bulk xs) (szR x.bulk 1048576)))) (.call 19000 49 _ _ _ en49 rfl (.inl rfl) (.cons (.d _) (.cons (.d _) .nil)) rfl rfl (sp_laws_szRegionCoversS xs (szR x.bulk 1048576) a23 a23 a45 a45) (.skip _ _ (.skip _ _ .nil)) rfl) (Ch.s (.d (.int .i64 (szR (bulkF Rcv.bulk xs) (szR x.bulk 1048576)))) pa (Ch.nil ?_)))))))
  refine T_seq (T_seq (T_region hc (Ch.s (.d (.int .i64 (szR (bulkF Rcv.bulk xs) (szR x.bulk 1048576)))) pm (Ch.s (.d (.bool (decide ((szR (bulkF Rcv.bulk xs) (szR x.bulk 1048576)) < 0)))) (iX rfl rfl rfl) (Ch.nil ?_)))))
  refine T_condD (p := ((szR (bulkF Rcv.bulk xs) (szR x.bulk 1048576)) < 0)) rfl (fun h2 => ?_) (fun h2 => ?_)
  ·
   try have hzy := szR_ok (t := bulkF Rcv.bulk xs) (left := (szR x.bulk 1048576)) h2 (by omega)
   try have hby : bulkF Rcv.bulk xs ≤ 1048576 := by omega
   try have hly := hzy.2
   refine T_seq (T_region hc (Ch.s (.d (.bool true)) pa (Ch.nil (T_ret ?_))))
   exact endR [(.d (.bool true))] [] [] (.cons (.tmp 4 rfl) .nil) (.cons (.any _) (.cons (.any _) .nil)) (.d _) rfl rfl
  ·
   try have hzy := szR_ok (t := bulkF Rcv.bulk xs) (left := (szR x.bulk 1048576)) h2 (by omega)
   try have hby : bulkF Rcv.bulk xs ≤ 1048576 := by omega
   try have hly := hzy.2
   refine T_skip (T_seq (T_region hc (Ch.s (.agg (vX x)) (.pure (.loadPtrA _ _ rfl ag26 sz26 rfl rfl (lb rfl) rfl)) ?_)))
   refine Ch.step (v := (.agg [(.row 24000), (.row 24001), (.row 24002)])) rfl (.call 24000 18 _ _ _ en18 rfl (.inl rfl) (.cons lX .nil) rfl (sol (Sgr.sol _) rfl) (sp_laws_toStateGraph x a39) (.skip _ _ .nil) rfl) rfl rfl ?_
   refine Ch.s (.d (.slice false 3 (xs.map Rcv.d))) pm ?_
   refine Ch.step (v := (.row 26000)) rfl (.call 26000 51 _ _ _ en51 rfl (.inl rfl) (.cons (.d _) .nil) rfl (sol (solid_row Rcv.sol _) rfl) (sp_laws_toRegionCoversS xs a39) (.skip _ _ .nil) rfl) rfl rfl ?_
   refine Ch.s (.tup [(.d (.bool (amV x xs))), (.d (.bool (amB x xs)))]) (.call 27000 60 _ _ _ en60 rfl (.inl rfl) (.cons (.lend (.agg (.cons (.row rfl (frozs_map (fun _ => rfl) _)) (.cons (.row rfl (frozs_map (fun _ => rfl) _)) (.cons (.row rfl (frozs_map (fun _ => rfl) _)) .nil))) rfl)) (.cons (.lend (.row rfl (frozs_to Rcv.fz _))) .nil)) rfl rfl (sp_spec_AreMonotonous x xs a39 a39) (.skip _ _ (.skip _ _ .nil)) rfl) (Ch.s (.tup [(.d (.bool (amV x xs))), (.d (.bool (amB x xs)))]) pm (Ch.s (.d (.bool (amV x xs))) (.pure (.extract _ rfl rfl rfl)) (Ch.s (.d (.bool (amB x xs))) (.pure (.extract _ rfl rfl rfl)) (Ch.s (.d (.bool (amV x xs))) pa (Ch.s (.d (.bool (amB x xs))) pa (Ch.nil (T_seq ?_)))))))
   refine T_region hc (Ch.s (.agg (vX x)) (.pure (.loadPtrA _ _ rfl ag26 sz26 rfl rfl (lb rfl) rfl)) ?_)
   refine Ch.step (v := (.agg [(.row 31000), (.row 31001), (.row 31002)])) rfl (.call 31000 18 _ _ _ en18 rfl (.inl rfl) (.cons lX .nil) rfl (sol (Sgr.sol _) rfl) (sp_laws_toStateGraph x a39) (.skip _ _ .nil) rfl) rfl rfl ?_
   refine Ch.s (.ptr 8000 0) (.alloc 8000 _ rfl zer35) (Ch.s .junk (.storePtr _ _ _ rfl rfl rfl (.agg _ rfl) sz35 (lb rfl)) (Ch.nil (T_seq (T_region hc (Ch.s (.d (.slice false 3 (xs.map Rcv.d))) pm ?_)))))
   refine Ch.step (v := (.row 33000)) rfl (.call 33000 51 _ _ _ en51 rfl (.inl rfl) (.cons (.d _) .nil) rfl (sol (solid_row Rcv.sol _) rfl) (sp_laws_toRegionCoversS xs a39) (.skip _ _ .nil) rfl) rfl rfl ?_
   refine Ch.s (.row 33000) pa (Ch.nil (T_seq (T_region hc (Ch.s (.agg [(.row 31000), (.row 31001), (.row 31002)]) (.pure (.loadPtrA _ _ rfl ag35 sz35 rfl rfl (lb rfl) rfl)) (Ch.s (.row 33000) pm (Ch.s (.tup [(.d (.bool (amV x xs))), (.d (.bool (amB x xs)))]) (.call 37000 61 _ _ _ en61 rfl (.inl rfl) (.cons (.lend (.agg (.cons (.row rfl (frozs_map (fun _ => rfl) _)) (.cons (.row rfl (frozs_map (fun _ => rfl) _)) (.cons (.row rfl (frozs_map (fun _ => rfl) _)) .nil))) rfl)) (.cons (.lend (.row rfl (frozs_to Rcv.fz _))) .nil)) rfl rfl (sp_impl_AreMonotonous x xs a39 a39) (.skip _ _ (.skip _ _ .nil)) rfl) (Ch.s (.tup [(.d (.bool (amV x xs))), (.d (.bool (amB x xs)))]) pm ?_)))))))
   refine Ch.s (.d (.bool (amV x xs))) (.pure (.extract _ rfl rfl rfl)) (Ch.s (.d (.bool (amB x xs))) (.pure (.extract _ rfl rfl rfl)) (Ch.s (.d (.bool (amV x xs))) pa (Ch.s (.d (.bool (amB x xs))) pa (Ch.nil (T_seq (T_seq (T_region hc ?_)))))))
   refine Ch.s (.d (.bool (amV x xs))) pm (Ch.s (.d (.bool (amV x xs))) pm (Ch.s (.d (.bool (!(decide ((amV x xs) = (amV x xs)))))) (.pure (.neB _ _ _ _ rfl Tryz.underlying4 rfl rfl)) (Ch.s (.d (.bool (!(decide ((amV x xs) = (amV x xs)))))) pm ?_)))
   cases h3 : (decide ((amV x xs) = (amV x xs))) with
   | true =>
    replace h3 := of_decide_eq_true h3
    refine Ch.s (.d (.bool (amB x xs))) pm (Ch.s (.d (.bool (amB x xs))) pm (Ch.s (.d (.bool (!(decide ((amB x xs) = (amB x xs)))))) (.pure (.neB _ _ _ _ rfl Tryz.underlying4 rfl rfl)) (Ch.s (.d (.bool (!(decide ((amB x xs) = (amB x xs)))))) (.pure (.pickF _ _ _ rfl rfl rfl)) (Ch.nil ?_))))
    refine T_condN (b := (decide ((amB x xs) = (amB x xs)))) rfl (fun h4 => ?_) (fun h4 => ?_)
    ·
     replace h4 := of_decide_eq_false h4
     refine T_seq (T_region hc (Ch.s (.d (.bool false)) pa (Ch.nil (T_ret ?_))))
     exact endR [(.d (.bool false))] [] [] (.cons (.tmp 4 rfl) .nil) (.cons (.any _) (.cons (.any _) .nil)) (Exp.of (congrArg D.bool a75) (.d _)) rfl rfl
    ·
     replace h4 := of_decide_eq_true h4
     refine T_skip (T_seq (T_seq ?_))
     refine T_regionD hc (by kernel_rfl) ?_
     refine ChD.s (.agg [(.row 31000), (.row 31001), (.row 31002)]) [8000, 31000, 31001, 31002] (.pure (.loadPtrA _ _ rfl ag35 sz35 rfl rfl (lb rfl) rfl)) (ChD.s (.agg (vX x)) [2000] (.pure (.loadPtrA _ _ rfl ag26 sz26 rfl rfl (lb rfl) rfl)) (ChD.s (.agg [(.row 50000), (.row 50001), (.row 50002)]) [] (.call 50000 18 _ _ _ en18 rfl (.inl rfl) (.cons lX .nil) rfl (sol (Sgr.sol _) rfl) (sp_laws_toStateGraph x a39) (.skip _ _ .nil) rfl) (ChD.s (.d (.bool (decide (x = x)))) [31000, 31001, 31002, 50000, 50001, 50002] (.call 51000 21 _ _ _ en21 rfl (.inl rfl) (.cons (.lend (.agg (.cons (.row rfl (frozs_map (fun _ => rfl) _)) (.cons (.row rfl (frozs_map (fun _ => rfl) _)) (.cons (.row rfl (frozs_map (fun _ => rfl) _)) .nil))) rfl)) (.cons (.lend (.agg (.cons (.row rfl (frozs_map (fun _ => rfl) _)) (.cons (.row rfl (frozs_map (fun _ => rfl) _)) (.cons (.row rfl (frozs_map (fun _ => rfl) _)) .nil))) rfl)) .nil)) rfl rfl (sp_laws_eqStateGraph x x a39) (.skip _ _ (.skip _ _ .nil)) rfl) (ChD.s (.d (.bool (!(decide (x = x))))) [] (.pure (.not _ _ rfl rfl)) ?_))))
     refine ChD.nil (And.intro ?_ (by kernel_rfl))
     refine T_condN (b := (decide (x = x))) rfl (fun h5 => ?_) (fun h5 => ?_)
     ·
      replace h5 := of_decide_eq_false h5
      refine T_seq (T_region hc (Ch.s (.d (.bool false)) pa (Ch.nil (T_ret ?_))))
      exact endR [(.d (.bool false))] [] [] (.cons (.tmp 4 rfl) .nil) (.cons (.any _) (.cons (.any _) .nil)) (Exp.of (congrArg D.bool a75) (.d _)) rfl rfl
     ·
      replace h5 := of_decide_eq_true h5
      refine T_skip (T_seq (T_seq (T_region hc (Ch.s (.row 33000) pm (Ch.s (.d (.slice false 3 (xs.map Rcv.d))) pm ?_)))))
      refine Ch.step (v := (.row 55000)) rfl (.call 55000 51 _ _ _ en51 rfl (.inl rfl) (.cons (.d _) .nil) rfl (sol (solid_row Rcv.sol _) rfl) (sp_laws_toRegionCoversS xs a39) (.skip _ _ .nil) rfl) rfl rfl ?_
      refine Ch.s (.d (.bool (decide (xs = xs)))) (.call 56000 53 _ _ _ en53 rfl (.inl rfl) (.cons (.lend (.row rfl (frozs_to Rcv.fz _))) (.cons (.lend (.row rfl (frozs_to Rcv.fz _))) .nil)) rfl rfl (sp_laws_eqRegionCoversS xs xs a39) (.skip _ _ (.skip _ _ .nil)) rfl) (Ch.s (.d (.bool (!(decide (xs = xs))))) (.pure (.not _ _ rfl rfl)) (Ch.nil ?_))
      refine T_condN (b := (decide (xs = xs))) rfl (fun h6 => ?_) (fun h6 => ?_)
      ·
       replace h6 := of_decide_eq_false h6
       refine T_seq (T_region hc (Ch.s (.d (.bool false)) pa (Ch.nil (T_ret ?_))))
       exact endR [(.d (.bool false))] [] [] (.cons (.tmp 4 rfl) .nil) (.cons (.any _) (.cons (.any _) .nil)) (Exp.of (congrArg D.bool a75) (.d _)) rfl rfl
      ·
       replace h6 := of_decide_eq_true h6
       refine T_skip (T_seq (T_region hc (Ch.s (.d (.bool true)) pa (Ch.nil (T_ret ?_)))))
       exact endR [(.d (.bool true))] [] [] (.cons (.tmp 4 rfl) .nil) (.cons (.any _) (.cons (.any _) .nil)) (.d _) rfl rfl
   | false =>
    replace h3 := of_decide_eq_false h3
    refine Ch.skip rfl rfl (Ch.skip rfl rfl (Ch.skip rfl rfl (Ch.s (.d (.bool true)) (.pure (.pickT _ _ _ rfl rfl rfl)) (Ch.nil ?_))))
    refine T_cond (b := true) rfl (fun _ => ?_) (fun h => nomatch h)
    refine T_seq (T_region hc (Ch.s (.d (.bool false)) pa (Ch.nil (T_ret ?_))))
    exact endR [(.d (.bool false))] [] [] (.cons (.tmp 4 rfl) .nil) (.cons (.any _) (.cons (.any _) .nil)) (Exp.of (congrArg D.bool a75) (.d _)) rfl rfl

end Go.AM
