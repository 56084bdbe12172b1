/-
  The contracts that the law FnExactInsertionPartition needs.
-/
import Derived.Test.YtogmlhclonlnpaaZInsertionPartition4
namespace Go.AM
open Go.Proofs
set_option linter.unusedVariables false
set_option linter.unusedSimpArgs false

set_option maxHeartbeats 1000000 in
theorem sp_impl_partitionFor (x : Sgr) (s r : Lab) (hb : x.bulk ≤ 1048576) (hx : SgOk x) : Sp Try.prog 50 [(.agg [(.slice false 2 (x.sigs.map Sgn.d)), (.slice false 1 (x.codes.map D.str)), (.slice false 4 (x.arcs.map Arc.d))]), (.agg [(.int .i64 s.sig), (.bool (s.up))]), (.agg [(.int .i64 r.sig), (.bool (r.up))])] [.any, .any, .any] (.tup [(.str (opV x s r)), (.bool (okP x s r))]) := by
 refine Sp_intro (lend := true) Try.func50 rfl rfl rfl (fun _ => rfl) (fun c hc hX => ?_)
 obtain ⟨hp0, hp1, hp2⟩ := Sgr.parts hb
 have hn0 := bulkF_len hp0
 have hn1 := bulk_len hp1
 have hx1 := bulk_mem hp1
 have hn2 := bulkF_len hp2; have hx8 := hx.eight; have hxl := hx.len; have hxf := hx.few; have hen := hx.ends; have hbl := blkL_le hen s r; have hcl := crossTo_len x (blkL x s r); have hgl := signsF_len hen (blkL x s r); have hen2 : ends (signsF x (blkL x s r)).length x.arcs := (by rw [hgl]; exact hen)
 refine T_seq ?_
 refine T_region hc ?_
 refine Ch.s (.ptr 3000 0) (.box 3000 _ _ rfl (.aggD _)) ?_
 refine Ch.s (.ptr 4000 0) (.box 4000 _ _ rfl (.aggD _)) ?_
 refine Ch.s (.ptr 5000 0) (.box 5000 _ _ rfl (.aggD _)) ?_
 refine Ch.s (.d (.str [])) (.pure (.assign _ rfl rfl)) ?_
 refine Ch.s (.d (.bool false)) (.pure (.assign _ rfl rfl)) ?_
 refine Ch.nil ?_
 refine T_seq ?_
 refine T_region hc ?_
 refine Ch.s (.agg [(.d (.slice false 2 (x.sigs.map Sgn.d))), (.d (.slice false 1 (x.codes.map D.str))), (.d (.slice false 4 (x.arcs.map Arc.d)))]) (.pure (.loadPtrA _ _ rfl ag34 sz34 rfl rfl (Nat.le_of_ble_eq_true rfl) rfl)) ?_
 refine Ch.s (.agg [(.d (.int .i64 s.sig)), (.d (.bool (s.up)))]) (.pure (.loadPtrA _ _ rfl ag46 sz46 rfl rfl (Nat.le_of_ble_eq_true rfl) rfl)) ?_
 refine Ch.s (.agg [(.d (.int .i64 r.sig)), (.d (.bool (r.up)))]) (.pure (.loadPtrA _ _ rfl ag46 sz46 rfl rfl (Nat.le_of_ble_eq_true rfl) rfl)) ?_
 refine Ch.step (v := (.row 13000)) rfl (.call 13000 48 _ _ _ en48 rfl (.inl rfl) (.cons (.lend (.agg (.cons (.d _) (.cons (.d _) (.cons (.d _) .nil))) rfl)) (.cons (.lend (.agg (.cons (.d _) (.cons (.d _) .nil)) rfl)) (.cons (.lend (.agg (.cons (.d _) (.cons (.d _) .nil)) rfl)) .nil))) rfl (sol (solid_row (fun _ => rfl) _) rfl) (sp_impl_setBlock x s r (by first | assumption | omega | (rw [List.length_take]; omega) | (have := bulkF_mem hb _ (getD_mem (d := default) (by omega)); assumption) | (unfold bulkS at *; omega) | (simp_all; done)) (by assumption)) (.skip _ _ (.skip _ _ (.skip _ _ .nil))) rfl) rfl rfl ?_
 refine Ch.s (.row 13000) (.pure (.assign _ rfl rfl)) ?_
 refine Ch.nil ?_
 refine T_seq ?_
 refine T_region hc ?_
 refine Ch.s (.agg [(.d (.slice false 2 (x.sigs.map Sgn.d))), (.d (.slice false 1 (x.codes.map D.str))), (.d (.slice false 4 (x.arcs.map Arc.d)))]) (.pure (.loadPtrA _ _ rfl ag34 sz34 rfl rfl (Nat.le_of_ble_eq_true rfl) rfl)) ?_
 refine Ch.s (.row 13000) (.pure (.move _ rfl rfl)) ?_
 refine Ch.s (.d (.str (signsF x (blkL x s r)))) (.call 16000 90 _ _ _ en90 rfl (.inl rfl) (.cons (.lend (.agg (.cons (.d _) (.cons (.d _) (.cons (.d _) .nil))) rfl)) (.cons (.lend (.row rfl (frozs_map (fun _ => rfl) _))) .nil)) rfl rfl (sp_impl_blockSigns x (blkL x s r) (by first | assumption | omega | (rw [List.length_take]; omega) | (have := bulkF_mem hb _ (getD_mem (d := default) (by omega)); assumption) | (unfold bulkS at *; omega) | (simp_all; done)) (by assumption) (by first | assumption | omega | (rw [List.length_take]; omega) | (have := bulkF_mem hb _ (getD_mem (d := default) (by omega)); assumption) | (unfold bulkS at *; omega) | (simp_all; done))) (.skip _ _ (.skip _ _ .nil)) rfl) ?_
 refine Ch.s (.d (.str (signsF x (blkL x s r)))) (.pure (.assign _ rfl rfl)) ?_
 refine Ch.nil ?_
 refine T_seq ?_
 refine T_seq ?_
 refine T_region hc ?_
 refine Ch.s (.row 13000) (.pure (.move _ rfl rfl)) ?_
 refine Ch.s (.d (.int .i64 (((blkL x s r).length : Nat) : Int))) (.pure (.len _ _ 3 rfl Try.underlying43 (.row rfl) (by simp))) ?_
 refine Ch.s (.ptr 3000 1) (.pure (.fldPtr _ _ _ rfl fld34_1 rfl)) ?_
 refine Ch.s (.d (.slice false 1 (x.codes.map D.str))) (.pure (.loadPtr1 _ _ rfl ag23 rfl rfl rfl)) ?_
 refine Ch.s (.d (.int .i64 ((x.codes.length : Nat) : Int))) (.pure (.len _ _ 9 rfl Try.underlying23 (.sh _ _) (by simp))) ?_
 refine Ch.s (.d (.int .i64 (((x.codes.length : Nat) : Int) - 1))) (.pure (.int _ _ _ _ _ rfl rfl rfl intV_subA)) ?_
 refine Ch.s (.d (.bool (withinB (((blkL x s r).length : Nat) : Int) 1 (((x.codes.length : Nat) : Int) - 1)))) (.call 23000 83 _ _ _ en83 rfl (.inl rfl) (.cons (.d _) (.cons (.d _) (.cons (.d _) .nil))) rfl rfl (sp_impl_within (((blkL x s r).length : Nat) : Int) 1 (((x.codes.length : Nat) : Int) - 1)) (.skip _ _ (.skip _ _ (.skip _ _ .nil))) rfl) ?_
 refine Ch.s (.d (.bool (!(withinB (((blkL x s r).length : Nat) : Int) 1 (((x.codes.length : Nat) : Int) - 1))))) (.pure (.not _ _ rfl rfl)) ?_
 refine Ch.s (.d (.bool (!(withinB (((blkL x s r).length : Nat) : Int) 1 (((x.codes.length : Nat) : Int) - 1))))) (.pure (.move _ rfl rfl)) ?_
 cases h1 : (withinB (((blkL x s r).length : Nat) : Int) 1 (((x.codes.length : Nat) : Int) - 1)) with
 | true =>
  refine Ch.s (.agg [(.d (.slice false 2 (x.sigs.map Sgn.d))), (.d (.slice false 1 (x.codes.map D.str))), (.d (.slice false 4 (x.arcs.map Arc.d)))]) (.pure (.loadPtrA _ _ rfl ag34 sz34 rfl rfl (Nat.le_of_ble_eq_true rfl) rfl)) ?_
  refine Ch.s (.d (.str (signsF x (blkL x s r)))) (.pure (.move _ rfl rfl)) ?_
  refine Ch.s (.d (.bool (partB x (signsF x (blkL x s r))))) (.call 28000 91 _ _ _ en91 rfl (.inl rfl) (.cons (.lend (.agg (.cons (.d _) (.cons (.d _) (.cons (.d _) .nil))) rfl)) (.cons (.d _) .nil)) rfl rfl (sp_impl_isPartition x (signsF x (blkL x s r)) (by first | assumption | omega | (rw [List.length_take]; omega) | (have := bulkF_mem hb _ (getD_mem (d := default) (by omega)); assumption) | (unfold bulkS at *; omega) | (simp_all; done)) (by first | assumption | omega | (rw [List.length_take]; omega) | (have := bulkF_mem hb _ (getD_mem (d := default) (by omega)); assumption) | (unfold bulkS at *; omega) | (simp_all; done)) (by assumption)) (.skip _ _ (.skip _ _ .nil)) rfl) ?_
  refine Ch.s (.d (.bool (!(partB x (signsF x (blkL x s r)))))) (.pure (.not _ _ rfl rfl)) ?_
  refine Ch.s (.d (.bool (!(partB x (signsF x (blkL x s r)))))) (.pure (.pickF _ _ _ rfl rfl rfl)) ?_
  refine Ch.nil ?_
  refine T_cond (b := (!(partB x (signsF x (blkL x s r))))) rfl (fun h2 => ?_) (fun h2 => ?_)
  ·
   replace h2 := nott h2
   refine T_seq ?_
   refine T_region hc ?_
   refine Ch.s (.d (.str [])) (.pure (.assign _ rfl rfl)) ?_
   refine Ch.s (.d (.bool false)) (.pure (.assign _ rfl rfl)) ?_
   refine Ch.nil ?_
   refine T_ret ?_
   refine And.intro (.inr rfl) ?_
   exact Exists.intro [(.d (.str [])), (.d (.bool false))] (Exists.intro [] (Exists.intro [] (And.intro (.cons (.tmp 6 rfl) (.cons (.tmp 7 rfl) .nil)) (And.intro (.cons (.any _) (.cons (.any _) (.cons (.any _) .nil))) (And.intro (.tup (.cons (Exp.of (congrArg D.str (by first | (rw [opV, okP_out (by assumption)]; rfl) | (rw [okP_out (by assumption)]; done) | (rw [opV, okP_in (by assumption) (by assumption)]; rfl) | (rw [okP_in (by assumption) (by assumption)]; done))) (.d _)) (.cons (Exp.of (congrArg D.bool (by first | (rw [opV, okP_out (by assumption)]; rfl) | (rw [okP_out (by assumption)]; done) | (rw [opV, okP_in (by assumption) (by assumption)]; rfl) | (rw [okP_in (by assumption) (by assumption)]; done))) (.d _)) .nil))) (And.intro rfl rfl))))))
  ·
   replace h2 := notf h2
   refine T_skip ?_
   refine T_seq ?_
   refine T_region hc ?_
   refine Ch.s (.d (.str (signsF x (blkL x s r)))) (.pure (.move _ rfl rfl)) ?_
   refine Ch.s (.d (.str (signsF x (blkL x s r)))) (.pure (.assign _ rfl rfl)) ?_
   refine Ch.s (.d (.bool true)) (.pure (.assign _ rfl rfl)) ?_
   refine Ch.nil ?_
   refine T_ret ?_
   refine And.intro (.inr rfl) ?_
   exact Exists.intro [(.d (.str (signsF x (blkL x s r)))), (.d (.bool true))] (Exists.intro [] (Exists.intro [] (And.intro (.cons (.tmp 6 rfl) (.cons (.tmp 7 rfl) .nil)) (And.intro (.cons (.any _) (.cons (.any _) (.cons (.any _) .nil))) (And.intro (.tup (.cons (Exp.of (congrArg D.str (by first | (rw [opV, okP_out (by assumption)]; rfl) | (rw [okP_out (by assumption)]; done) | (rw [opV, okP_in (by assumption) (by assumption)]; rfl) | (rw [okP_in (by assumption) (by assumption)]; done))) (.d _)) (.cons (Exp.of (congrArg D.bool (by first | (rw [opV, okP_out (by assumption)]; rfl) | (rw [okP_out (by assumption)]; done) | (rw [opV, okP_in (by assumption) (by assumption)]; rfl) | (rw [okP_in (by assumption) (by assumption)]; done))) (.d _)) .nil))) (And.intro rfl rfl))))))
 | false =>
  refine Ch.skip rfl rfl ?_
  refine Ch.skip rfl rfl ?_
  refine Ch.skip rfl rfl ?_
  refine Ch.skip rfl rfl ?_
  refine Ch.s (.d (.bool true)) (.pure (.pickT _ _ _ rfl rfl rfl)) ?_
  refine Ch.nil ?_
  refine T_cond (b := true) rfl (fun _ => ?_) (fun h => nomatch h)
  refine T_seq ?_
  refine T_region hc ?_
  refine Ch.s (.d (.str [])) (.pure (.assign _ rfl rfl)) ?_
  refine Ch.s (.d (.bool false)) (.pure (.assign _ rfl rfl)) ?_
  refine Ch.nil ?_
  refine T_ret ?_
  refine And.intro (.inr rfl) ?_
  exact Exists.intro [(.d (.str [])), (.d (.bool false))] (Exists.intro [] (Exists.intro [] (And.intro (.cons (.tmp 6 rfl) (.cons (.tmp 7 rfl) .nil)) (And.intro (.cons (.any _) (.cons (.any _) (.cons (.any _) .nil))) (And.intro (.tup (.cons (Exp.of (congrArg D.str (by first | (rw [opV, okP_out (by assumption)]; rfl) | (rw [okP_out (by assumption)]; done) | (rw [opV, okP_in (by assumption) (by assumption)]; rfl) | (rw [okP_in (by assumption) (by assumption)]; done))) (.d _)) (.cons (Exp.of (congrArg D.bool (by first | (rw [opV, okP_out (by assumption)]; rfl) | (rw [okP_out (by assumption)]; done) | (rw [opV, okP_in (by assumption) (by assumption)]; rfl) | (rw [okP_in (by assumption) (by assumption)]; done))) (.d _)) .nil))) (And.intro rfl rfl))))))

theorem sp_impl_InsertionPartition (x : Sgr) (s r : Lab) (hb : x.bulk ≤ 1048576) : Sp Try.prog 24 [(.agg [(.slice false 2 (x.sigs.map Sgn.d)), (.slice false 1 (x.codes.map D.str)), (.slice false 4 (x.arcs.map Arc.d))]), (.agg [(.int .i64 s.sig), (.bool (s.up))]), (.agg [(.int .i64 r.sig), (.bool (r.up))])] [.any, .any, .any] (.tup [(.str (ipV x s r)), (.bool (ipB x s r))]) := by
 refine Sp_intro (lend := true) Try.func24 rfl rfl rfl (fun _ => rfl) (fun c hc hX => ?_)
 obtain ⟨hp0, hp1, hp2⟩ := Sgr.parts hb
 have hn0 := bulkF_len hp0
 have hn1 := bulk_len hp1
 have hx1 := bulk_mem hp1
 have hn2 := bulkF_len hp2
 refine T_seq ?_
 refine T_region hc ?_
 refine Ch.s (.ptr 3000 0) (.box 3000 _ _ rfl (.aggD _)) ?_
 refine Ch.s (.ptr 4000 0) (.box 4000 _ _ rfl (.aggD _)) ?_
 refine Ch.s (.ptr 5000 0) (.box 5000 _ _ rfl (.aggD _)) ?_
 refine Ch.s (.d (.str [])) (.pure (.assign _ rfl rfl)) ?_
 refine Ch.s (.d (.bool false)) (.pure (.assign _ rfl rfl)) ?_
 refine Ch.nil ?_
 refine T_seq ?_
 refine T_seq ?_
 refine T_region hc ?_
 refine Ch.s (.agg [(.d (.slice false 2 (x.sigs.map Sgn.d))), (.d (.slice false 1 (x.codes.map D.str))), (.d (.slice false 4 (x.arcs.map Arc.d)))]) (.pure (.loadPtrA _ _ rfl ag34 sz34 rfl rfl (Nat.le_of_ble_eq_true rfl) rfl)) ?_
 refine Ch.s (.agg [(.d (.int .i64 s.sig)), (.d (.bool (s.up)))]) (.pure (.loadPtrA _ _ rfl ag46 sz46 rfl rfl (Nat.le_of_ble_eq_true rfl) rfl)) ?_
 refine Ch.s (.agg [(.d (.int .i64 r.sig)), (.d (.bool (r.up)))]) (.pure (.loadPtrA _ _ rfl ag46 sz46 rfl rfl (Nat.le_of_ble_eq_true rfl) rfl)) ?_
 refine Ch.step (v := (.tup [(.row 14000), (.d (.bool (sbB x s r)))])) rfl (.call 14000 19 _ _ _ en19 rfl (.inl rfl) (.cons (.lend (.agg (.cons (.d _) (.cons (.d _) (.cons (.d _) .nil))) rfl)) (.cons (.lend (.agg (.cons (.d _) (.cons (.d _) .nil)) rfl)) (.cons (.lend (.agg (.cons (.d _) (.cons (.d _) .nil)) rfl)) .nil))) rfl (sol (by rw [D.solid]; exact solids_c (solid_row (fun _ => rfl) _) rfl) rfl) (sp_impl_SetBlock x s r (by first | assumption | omega | (rw [List.length_take]; omega) | (have := bulkF_mem hb _ (getD_mem (d := default) (by omega)); assumption) | (unfold bulkS at *; omega) | (simp_all; done))) (.skip _ _ (.skip _ _ (.skip _ _ .nil))) rfl) rfl rfl ?_
 refine Ch.s (.tup [(.row 14000), (.d (.bool (sbB x s r)))]) (.pure (.move _ rfl rfl)) ?_
 refine Ch.s (.row 14000) (.pure (.extract _ rfl rfl rfl)) ?_
 refine Ch.s (.d (.bool (sbB x s r))) (.pure (.extract _ rfl rfl rfl)) ?_
 refine Ch.s (.row 14000) (.pure (.assign _ rfl rfl)) ?_
 refine Ch.s (.d (.bool (sbB x s r))) (.pure (.assign _ rfl rfl)) ?_
 refine Ch.nil ?_
 refine T_seq ?_
 refine T_region hc ?_
 refine Ch.s (.d (.bool (sbB x s r))) (.pure (.move _ rfl rfl)) ?_
 refine Ch.s (.d (.bool (!(sbB x s r)))) (.pure (.not _ _ rfl rfl)) ?_
 refine Ch.nil ?_
 refine T_cond (b := (!(sbB x s r))) rfl (fun h1 => ?_) (fun h1 => ?_)
 ·
  replace h1 := nott h1
  try have hx := sg_has (sbB_has h1).1
  refine T_seq ?_
  refine T_region hc ?_
  refine Ch.s (.d (.str [])) (.pure (.assign _ rfl rfl)) ?_
  refine Ch.s (.d (.bool false)) (.pure (.assign _ rfl rfl)) ?_
  refine Ch.nil ?_
  refine T_ret ?_
  refine And.intro (.inr rfl) ?_
  exact Exists.intro [(.d (.str [])), (.d (.bool false))] (Exists.intro [] (Exists.intro [] (And.intro (.cons (.tmp 6 rfl) (.cons (.tmp 7 rfl) .nil)) (And.intro (.cons (.any _) (.cons (.any _) (.cons (.any _) .nil))) (And.intro (.tup (.cons (Exp.of (congrArg D.str (by first | (rw [ipV, ipB, h1, h2]; rfl) | (rw [ipB, h1, h2]; rfl) | (rw [ipV, ipB, h1]; rfl) | (rw [ipB, h1]; rfl) | (rw [ipV, ipB, h1, opV]; rfl))) (.d _)) (.cons (Exp.of (congrArg D.bool (by first | (rw [ipV, ipB, h1, h2]; rfl) | (rw [ipB, h1, h2]; rfl) | (rw [ipV, ipB, h1]; rfl) | (rw [ipB, h1]; rfl) | (rw [ipV, ipB, h1, opV]; rfl))) (.d _)) .nil))) (And.intro rfl rfl))))))
 ·
  replace h1 := notf h1
  try have hx := sg_has (sbB_has h1).1
  refine T_skip ?_
  refine T_seq ?_
  refine T_region hc ?_
  refine Ch.s (.agg [(.d (.slice false 2 (x.sigs.map Sgn.d))), (.d (.slice false 1 (x.codes.map D.str))), (.d (.slice false 4 (x.arcs.map Arc.d)))]) (.pure (.loadPtrA _ _ rfl ag34 sz34 rfl rfl (Nat.le_of_ble_eq_true rfl) rfl)) ?_
  refine Ch.s (.agg [(.d (.int .i64 s.sig)), (.d (.bool (s.up)))]) (.pure (.loadPtrA _ _ rfl ag46 sz46 rfl rfl (Nat.le_of_ble_eq_true rfl) rfl)) ?_
  refine Ch.s (.agg [(.d (.int .i64 r.sig)), (.d (.bool (r.up)))]) (.pure (.loadPtrA _ _ rfl ag46 sz46 rfl rfl (Nat.le_of_ble_eq_true rfl) rfl)) ?_
  refine Ch.s (.tup [(.d (.str (opV x s r))), (.d (.bool (okP x s r)))]) (.call 22000 50 _ _ _ en50 rfl (.inl rfl) (.cons (.lend (.agg (.cons (.d _) (.cons (.d _) (.cons (.d _) .nil))) rfl)) (.cons (.lend (.agg (.cons (.d _) (.cons (.d _) .nil)) rfl)) (.cons (.lend (.agg (.cons (.d _) (.cons (.d _) .nil)) rfl)) .nil))) rfl rfl (sp_impl_partitionFor x s r (by first | assumption | omega | (rw [List.length_take]; omega) | (have := bulkF_mem hb _ (getD_mem (d := default) (by omega)); assumption) | (unfold bulkS at *; omega) | (simp_all; done)) (by assumption)) (.skip _ _ (.skip _ _ (.skip _ _ .nil))) rfl) ?_
  refine Ch.s (.d (.str (opV x s r))) (.pure (.extract _ rfl rfl rfl)) ?_
  refine Ch.s (.d (.bool (okP x s r))) (.pure (.extract _ rfl rfl rfl)) ?_
  refine Ch.s (.d (.str (opV x s r))) (.pure (.assign _ rfl rfl)) ?_
  refine Ch.s (.d (.bool (okP x s r))) (.pure (.assign _ rfl rfl)) ?_
  refine Ch.nil ?_
  refine T_ret ?_
  refine And.intro (.inr rfl) ?_
  exact Exists.intro [(.d (.str (opV x s r))), (.d (.bool (okP x s r)))] (Exists.intro [] (Exists.intro [] (And.intro (.cons (.tmp 6 rfl) (.cons (.tmp 7 rfl) .nil)) (And.intro (.cons (.any _) (.cons (.any _) (.cons (.any _) .nil))) (And.intro (.tup (.cons (Exp.of (congrArg D.str (by first | (rw [ipV, ipB, h1, h2]; rfl) | (rw [ipB, h1, h2]; rfl) | (rw [ipV, ipB, h1]; rfl) | (rw [ipB, h1]; rfl) | (rw [ipV, ipB, h1, opV]; rfl))) (.d _)) (.cons (Exp.of (congrArg D.bool (by first | (rw [ipV, ipB, h1, h2]; rfl) | (rw [ipB, h1, h2]; rfl) | (rw [ipV, ipB, h1]; rfl) | (rw [ipB, h1]; rfl) | (rw [ipV, ipB, h1, opV]; rfl))) (.d _)) .nil))) (And.intro rfl rfl))))))

theorem sp_spec_InsertionPartition (x : Sgr) (s r : Lab) (hb : x.bulk ≤ 1048576) : Sp Try.prog 23 [(.agg [(.slice false 2 (x.sigs.map Sgn.d)), (.slice false 1 (x.codes.map D.str)), (.slice false 4 (x.arcs.map Arc.d))]), (.agg [(.int .i64 s.sig), (.bool (s.up))]), (.agg [(.int .i64 r.sig), (.bool (r.up))])] [.any, .any, .any] (.tup [(.str (ipV x s r)), (.bool (ipB x s r))]) := by
 refine Sp_intro (lend := true) Try.func23 rfl rfl rfl (fun _ => rfl) (fun c hc hX => ?_)
 obtain ⟨hp0, hp1, hp2⟩ := Sgr.parts hb
 have hn0 := bulkF_len hp0
 have hn1 := bulk_len hp1
 have hx1 := bulk_mem hp1
 have hn2 := bulkF_len hp2
 refine T_seq ?_
 refine T_region hc ?_
 refine Ch.s (.ptr 3000 0) (.box 3000 _ _ rfl (.aggD _)) ?_
 refine Ch.s (.ptr 4000 0) (.box 4000 _ _ rfl (.aggD _)) ?_
 refine Ch.s (.ptr 5000 0) (.box 5000 _ _ rfl (.aggD _)) ?_
 refine Ch.s (.d (.str [])) (.pure (.assign _ rfl rfl)) ?_
 refine Ch.s (.d (.bool false)) (.pure (.assign _ rfl rfl)) ?_
 refine Ch.nil ?_
 refine T_seq ?_
 refine T_seq ?_
 refine T_region hc ?_
 refine Ch.s (.agg [(.d (.slice false 2 (x.sigs.map Sgn.d))), (.d (.slice false 1 (x.codes.map D.str))), (.d (.slice false 4 (x.arcs.map Arc.d)))]) (.pure (.loadPtrA _ _ rfl ag34 sz34 rfl rfl (Nat.le_of_ble_eq_true rfl) rfl)) ?_
 refine Ch.s (.agg [(.d (.int .i64 s.sig)), (.d (.bool (s.up)))]) (.pure (.loadPtrA _ _ rfl ag46 sz46 rfl rfl (Nat.le_of_ble_eq_true rfl) rfl)) ?_
 refine Ch.s (.agg [(.d (.int .i64 r.sig)), (.d (.bool (r.up)))]) (.pure (.loadPtrA _ _ rfl ag46 sz46 rfl rfl (Nat.le_of_ble_eq_true rfl) rfl)) ?_
 refine Ch.s (.d (.bool (sbB x s r))) (.call 13000 45 _ _ _ en45 rfl (.inl rfl) (.cons (.lend (.agg (.cons (.d _) (.cons (.d _) (.cons (.d _) .nil))) rfl)) (.cons (.lend (.agg (.cons (.d _) (.cons (.d _) .nil)) rfl)) (.cons (.lend (.agg (.cons (.d _) (.cons (.d _) .nil)) rfl)) .nil))) rfl rfl (sp_spec_l12Asked x s r (by first | assumption | omega | (rw [List.length_take]; omega) | (have := bulkF_mem hb _ (getD_mem (d := default) (by omega)); assumption) | (unfold bulkS at *; omega) | (simp_all; done))) (.skip _ _ (.skip _ _ (.skip _ _ .nil))) rfl) ?_
 refine Ch.s (.d (.bool (!(sbB x s r)))) (.pure (.not _ _ rfl rfl)) ?_
 refine Ch.nil ?_
 refine T_cond (b := (!(sbB x s r))) rfl (fun h1 => ?_) (fun h1 => ?_)
 ·
  replace h1 := nott h1
  try have hx := sg_has (sbB_has h1).1
  refine T_seq ?_
  refine T_region hc ?_
  refine Ch.s (.d (.str [])) (.pure (.assign _ rfl rfl)) ?_
  refine Ch.s (.d (.bool false)) (.pure (.assign _ rfl rfl)) ?_
  refine Ch.nil ?_
  refine T_ret ?_
  refine And.intro (.inr rfl) ?_
  exact Exists.intro [(.d (.str [])), (.d (.bool false))] (Exists.intro [] (Exists.intro [] (And.intro (.cons (.tmp 6 rfl) (.cons (.tmp 7 rfl) .nil)) (And.intro (.cons (.any _) (.cons (.any _) (.cons (.any _) .nil))) (And.intro (.tup (.cons (Exp.of (congrArg D.str (by first | (rw [ipV, ipB, h1, h2]; rfl) | (rw [ipB, h1, h2]; rfl) | (rw [ipV, ipB, h1]; rfl) | (rw [ipB, h1]; rfl) | (rw [ipV, ipB, h1, opV]; rfl))) (.d _)) (.cons (Exp.of (congrArg D.bool (by first | (rw [ipV, ipB, h1, h2]; rfl) | (rw [ipB, h1, h2]; rfl) | (rw [ipV, ipB, h1]; rfl) | (rw [ipB, h1]; rfl) | (rw [ipV, ipB, h1, opV]; rfl))) (.d _)) .nil))) (And.intro rfl rfl))))))
 ·
  replace h1 := notf h1
  try have hx := sg_has (sbB_has h1).1
  refine T_skip ?_
  refine T_seq ?_
  refine T_region hc ?_
  refine Ch.s (.agg [(.d (.slice false 2 (x.sigs.map Sgn.d))), (.d (.slice false 1 (x.codes.map D.str))), (.d (.slice false 4 (x.arcs.map Arc.d)))]) (.pure (.loadPtrA _ _ rfl ag34 sz34 rfl rfl (Nat.le_of_ble_eq_true rfl) rfl)) ?_
  refine Ch.s (.agg [(.d (.int .i64 s.sig)), (.d (.bool (s.up)))]) (.pure (.loadPtrA _ _ rfl ag46 sz46 rfl rfl (Nat.le_of_ble_eq_true rfl) rfl)) ?_
  refine Ch.s (.agg [(.d (.int .i64 r.sig)), (.d (.bool (r.up)))]) (.pure (.loadPtrA _ _ rfl ag46 sz46 rfl rfl (Nat.le_of_ble_eq_true rfl) rfl)) ?_
  refine Ch.s (.tup [(.d (.str (signsF x (blkL x s r)))), (.d (.bool (okP x s r)))]) (.call 19000 49 _ _ _ en49 rfl (.inl rfl) (.cons (.lend (.agg (.cons (.d _) (.cons (.d _) (.cons (.d _) .nil))) rfl)) (.cons (.lend (.agg (.cons (.d _) (.cons (.d _) .nil)) rfl)) (.cons (.lend (.agg (.cons (.d _) (.cons (.d _) .nil)) rfl)) .nil))) rfl rfl (sp_spec_l12SignsFor x s r (by first | assumption | omega | (rw [List.length_take]; omega) | (have := bulkF_mem hb _ (getD_mem (d := default) (by omega)); assumption) | (unfold bulkS at *; omega) | (simp_all; done)) (by assumption)) (.skip _ _ (.skip _ _ (.skip _ _ .nil))) rfl) ?_
  refine Ch.s (.tup [(.d (.str (signsF x (blkL x s r)))), (.d (.bool (okP x s r)))]) (.pure (.move _ rfl rfl)) ?_
  refine Ch.s (.d (.str (signsF x (blkL x s r)))) (.pure (.extract _ rfl rfl rfl)) ?_
  refine Ch.s (.d (.bool (okP x s r))) (.pure (.extract _ rfl rfl rfl)) ?_
  refine Ch.s (.d (.str (signsF x (blkL x s r)))) (.pure (.assign _ rfl rfl)) ?_
  refine Ch.s (.d (.bool (okP x s r))) (.pure (.assign _ rfl rfl)) ?_
  refine Ch.nil ?_
  refine T_seq ?_
  refine T_seq ?_
  refine T_region hc ?_
  refine Ch.s (.d (.bool (okP x s r))) (.pure (.move _ rfl rfl)) ?_
  refine Ch.s (.d (.bool (!(okP x s r)))) (.pure (.not _ _ rfl rfl)) ?_
  refine Ch.nil ?_
  refine T_cond (b := (!(okP x s r))) rfl (fun h2 => ?_) (fun h2 => ?_)
  ·
   replace h2 := nott h2
   refine T_seq ?_
   refine T_region hc ?_
   refine Ch.s (.d (.str [])) (.pure (.assign _ rfl rfl)) ?_
   refine Ch.s (.d (.bool false)) (.pure (.assign _ rfl rfl)) ?_
   refine Ch.nil ?_
   refine T_ret ?_
   refine And.intro (.inr rfl) ?_
   exact Exists.intro [(.d (.str [])), (.d (.bool false))] (Exists.intro [] (Exists.intro [] (And.intro (.cons (.tmp 6 rfl) (.cons (.tmp 7 rfl) .nil)) (And.intro (.cons (.any _) (.cons (.any _) (.cons (.any _) .nil))) (And.intro (.tup (.cons (Exp.of (congrArg D.str (by first | (rw [ipV, ipB, h1, h2]; rfl) | (rw [ipB, h1, h2]; rfl) | (rw [ipV, ipB, h1]; rfl) | (rw [ipB, h1]; rfl) | (rw [ipV, ipB, h1, opV]; rfl))) (.d _)) (.cons (Exp.of (congrArg D.bool (by first | (rw [ipV, ipB, h1, h2]; rfl) | (rw [ipB, h1, h2]; rfl) | (rw [ipV, ipB, h1]; rfl) | (rw [ipB, h1]; rfl) | (rw [ipV, ipB, h1, opV]; rfl))) (.d _)) .nil))) (And.intro rfl rfl))))))
  ·
   replace h2 := notf h2
   refine T_skip ?_
   refine T_seq ?_
   refine T_region hc ?_
   refine Ch.s (.d (.str (signsF x (blkL x s r)))) (.pure (.move _ rfl rfl)) ?_
   refine Ch.s (.d (.str (signsF x (blkL x s r)))) (.pure (.assign _ rfl rfl)) ?_
   refine Ch.s (.d (.bool true)) (.pure (.assign _ rfl rfl)) ?_
   refine Ch.nil ?_
   refine T_ret ?_
   refine And.intro (.inr rfl) ?_
   exact Exists.intro [(.d (.str (signsF x (blkL x s r)))), (.d (.bool true))] (Exists.intro [] (Exists.intro [] (And.intro (.cons (.tmp 6 rfl) (.cons (.tmp 7 rfl) .nil)) (And.intro (.cons (.any _) (.cons (.any _) (.cons (.any _) .nil))) (And.intro (.tup (.cons (Exp.of (congrArg D.str (by first | (rw [ipV, ipB, h1, h2]; rfl) | (rw [ipB, h1, h2]; rfl) | (rw [ipV, ipB, h1]; rfl) | (rw [ipB, h1]; rfl) | (rw [ipV, ipB, h1, opV]; rfl))) (.d _)) (.cons (Exp.of (congrArg D.bool (by first | (rw [ipV, ipB, h1, h2]; rfl) | (rw [ipB, h1, h2]; rfl) | (rw [ipV, ipB, h1]; rfl) | (rw [ipB, h1]; rfl) | (rw [ipV, ipB, h1, opV]; rfl))) (.d _)) .nil))) (And.intro rfl rfl))))))

set_option maxHeartbeats 1000000 in
theorem sp_laws_FnExactInsertionPartition (x : Sgr) (s r : Lab) (hwx : x.wide) (hws : s.wide) (hwr : r.wide) : Sp Try.prog 5 [(.agg [(.slice false 2 (x.sigs.map Sgn.d)), (.slice false 1 (x.codes.map D.str)), (.slice false 4 (x.arcs.map Arc.d))]), (.agg [(.int .i64 s.sig), (.bool (s.up))]), (.agg [(.int .i64 r.sig), (.bool (r.up))])] [.any, .any, .any] (.bool true) := by
 refine Sp_intro (lend := true) Try.func5 rfl rfl rfl (fun _ => rfl) (fun c hc hX => ?_)
 have hs0 : s.bulk ≤ 1048576 := Nat.zero_le _; have hr0 : r.bulk ≤ 1048576 := Nat.zero_le _
 refine T_seq ?_
 refine T_region hc ?_
 refine Ch.s (.ptr 3000 0) (.box 3000 _ _ rfl (.aggD _)) ?_
 refine Ch.s (.ptr 4000 0) (.box 4000 _ _ rfl (.aggD _)) ?_
 refine Ch.s (.ptr 5000 0) (.box 5000 _ _ rfl (.aggD _)) ?_
 refine Ch.s (.d (.bool false)) (.pure (.assign _ rfl rfl)) ?_
 refine Ch.nil ?_
 refine T_seq ?_
 refine T_region hc ?_
 refine Ch.s (.d (.int .i64 1048576)) (.pure (.assign _ rfl rfl)) ?_
 refine Ch.nil ?_
 refine T_seq ?_
 refine T_region hc ?_
 refine Ch.s (.agg [(.d (.slice false 2 (x.sigs.map Sgn.d))), (.d (.slice false 1 (x.codes.map D.str))), (.d (.slice false 4 (x.arcs.map Arc.d)))]) (.pure (.loadPtrA _ _ rfl ag26 sz26 rfl rfl (Nat.le_of_ble_eq_true rfl) rfl)) ?_
 refine Ch.s (.d (.int .i64 1048576)) (.pure (.move _ rfl rfl)) ?_
 refine Ch.s (.d (.int .i64 (szR x.bulk 1048576))) (.call 15000 8 _ _ _ en8 rfl (.inl rfl) (.cons (.lend (.agg (.cons (.d _) (.cons (.d _) (.cons (.d _) .nil))) rfl)) (.cons (.d _) .nil)) rfl rfl (sp_laws_szStateGraph x 1048576 (by first | omega | assumption | (exact hx _ (getD_mem (by omega))) | (exact hx _ (by assumption)) | (exact Nat.le_trans (hx _ (by assumption)) (by omega)) | (simp only [List.length_append, List.length_take, List.length_drop, List.length_cons, List.length_nil]; omega) | (simp_all; done)) (by first | omega | assumption | (exact hx _ (getD_mem (by omega))) | (exact hx _ (by assumption)) | (exact Nat.le_trans (hx _ (by assumption)) (by omega)) | (simp only [List.length_append, List.length_take, List.length_drop, List.length_cons, List.length_nil]; omega) | (simp_all; done)) (by first | assumption | omega | trivial | (simp_all; done) | (exact fun _ _ => trivial) | (exact hx _ (by assumption)) | (refine ⟨?_, ?_⟩ <;> first | assumption | omega))) (.skip _ _ (.skip _ _ .nil)) rfl) ?_
 refine Ch.s (.d (.int .i64 (szR x.bulk 1048576))) (.pure (.assign _ rfl rfl)) ?_
 refine Ch.nil ?_
 refine T_seq ?_
 refine T_seq ?_
 refine T_region hc ?_
 refine Ch.s (.d (.int .i64 (szR x.bulk 1048576))) (.pure (.move _ rfl rfl)) ?_
 refine Ch.s (.d (.bool (decide ((szR x.bulk 1048576) < 0)))) (.pure (.int _ _ _ _ _ rfl rfl rfl rfl)) ?_
 refine Ch.nil ?_
 refine T_cond (b := (decide ((szR x.bulk 1048576) < 0))) rfl (fun h1 => ?_) (fun h1 => ?_)
 ·
  replace h1 := of_decide_eq_true h1
  try have hz := szR_ok (t := x.bulk) (left := 1048576) h1 (by omega)
  try have hb : x.bulk ≤ 1048576 := by omega
  try have hl := hz.2
  refine T_seq ?_
  refine T_region hc ?_
  refine Ch.s (.d (.bool true)) (.pure (.assign _ rfl rfl)) ?_
  refine Ch.nil ?_
  refine T_ret ?_
  refine And.intro (.inr rfl) ?_
  exact Exists.intro [(.d (.bool true))] (Exists.intro [] (Exists.intro [] (And.intro (.cons (.tmp 6 rfl) .nil) (And.intro (.cons (.any _) (.cons (.any _) (.cons (.any _) .nil))) (And.intro (.d _) (And.intro rfl rfl))))))
 ·
  replace h1 := of_decide_eq_false h1
  try have hz := szR_ok (t := x.bulk) (left := 1048576) h1 (by omega)
  try have hb : x.bulk ≤ 1048576 := by omega
  try have hl := hz.2
  refine T_skip ?_
  refine T_seq ?_
  refine T_regionD hc (by kernel_rfl) ?_
  refine ChD.s (.agg [(.d (.slice false 2 (x.sigs.map Sgn.d))), (.d (.slice false 1 (x.codes.map D.str))), (.d (.slice false 4 (x.arcs.map Arc.d)))]) [3000] (.pure (.loadPtrA _ _ rfl ag26 sz26 rfl rfl (Nat.le_of_ble_eq_true rfl) rfl)) ?_
  refine ChD.s (.agg [(.row 20000), (.row 20001), (.row 20002)]) [] (.call 20000 10 _ _ _ en10 rfl (.inl rfl) (.cons (.lend (.agg (.cons (.d _) (.cons (.d _) (.cons (.d _) .nil))) rfl)) .nil) rfl (sol (Sgr.sol _) rfl) (sp_laws_toStateGraph x (by first | assumption | omega | (rw [List.length_take]; omega) | (have := bulkF_mem hb _ (getD_mem (d := default) (by omega)); assumption) | (unfold bulkS at *; omega) | (simp_all; done))) (.skip _ _ .nil) rfl) ?_
  refine ChD.s (.agg [(.d (.int .i64 s.sig)), (.d (.bool (s.up)))]) [4000] (.pure (.loadPtrA _ _ rfl ag42 sz42 rfl rfl (Nat.le_of_ble_eq_true rfl) rfl)) ?_
  refine ChD.s (.d (.agg [(.int .i64 s.sig), (.bool (s.up))])) [] (.call 22000 18 _ _ _ en18 rfl (.inl rfl) (.cons (.lend (.agg (.cons (.d _) (.cons (.d _) .nil)) rfl)) .nil) rfl rfl (sp_laws_toLabel s (by first | assumption | omega | (rw [List.length_take]; omega) | (have := bulkF_mem hb _ (getD_mem (d := default) (by omega)); assumption) | (unfold bulkS at *; omega) | (simp_all; done))) (.skip _ _ .nil) rfl) ?_
  refine ChD.s (.agg [(.d (.int .i64 r.sig)), (.d (.bool (r.up)))]) [5000] (.pure (.loadPtrA _ _ rfl ag42 sz42 rfl rfl (Nat.le_of_ble_eq_true rfl) rfl)) ?_
  refine ChD.s (.d (.agg [(.int .i64 r.sig), (.bool (r.up))])) [] (.call 24000 18 _ _ _ en18 rfl (.inl rfl) (.cons (.lend (.agg (.cons (.d _) (.cons (.d _) .nil)) rfl)) .nil) rfl rfl (sp_laws_toLabel r (by first | assumption | omega | (rw [List.length_take]; omega) | (have := bulkF_mem hb _ (getD_mem (d := default) (by omega)); assumption) | (unfold bulkS at *; omega) | (simp_all; done))) (.skip _ _ .nil) rfl) ?_
  refine ChD.s (.tup [(.d (.str (ipV x s r))), (.d (.bool (ipB x s r)))]) [20000, 20001, 20002] (.call 25000 23 _ _ _ en23 rfl (.inl rfl) (.cons (.lend (.agg (.cons (.row rfl (frozs_map (fun _ => rfl) _)) (.cons (.row rfl (frozs_map (fun _ => rfl) _)) (.cons (.row rfl (frozs_map (fun _ => rfl) _)) .nil))) rfl)) (.cons (.d _) (.cons (.d _) .nil))) rfl rfl (sp_spec_InsertionPartition x s r (by first | assumption | omega | (rw [List.length_take]; omega) | (have := bulkF_mem hb _ (getD_mem (d := default) (by omega)); assumption) | (unfold bulkS at *; omega) | (simp_all; done))) (.skip _ _ (.skip _ _ (.skip _ _ .nil))) rfl) ?_
  refine ChD.s (.tup [(.d (.str (ipV x s r))), (.d (.bool (ipB x s r)))]) [] (.pure (.move _ rfl rfl)) ?_
  refine ChD.s (.d (.str (ipV x s r))) [] (.pure (.extract _ rfl rfl rfl)) ?_
  refine ChD.s (.d (.bool (ipB x s r))) [] (.pure (.extract _ rfl rfl rfl)) ?_
  refine ChD.s (.d (.str (ipV x s r))) [] (.pure (.assign _ rfl rfl)) ?_
  refine ChD.s (.d (.bool (ipB x s r))) [] (.pure (.assign _ rfl rfl)) ?_
  refine ChD.nil (And.intro ?_ (by kernel_rfl))
  refine T_seq ?_
  refine T_region hc ?_
  refine Ch.s (.agg [(.d (.slice false 2 (x.sigs.map Sgn.d))), (.d (.slice false 1 (x.codes.map D.str))), (.d (.slice false 4 (x.arcs.map Arc.d)))]) (.pure (.loadPtrA _ _ rfl ag26 sz26 rfl rfl (Nat.le_of_ble_eq_true rfl) rfl)) ?_
  refine Ch.step (v := (.agg [(.row 29000), (.row 29001), (.row 29002)])) rfl (.call 29000 10 _ _ _ en10 rfl (.inl rfl) (.cons (.lend (.agg (.cons (.d _) (.cons (.d _) (.cons (.d _) .nil))) rfl)) .nil) rfl (sol (Sgr.sol _) rfl) (sp_laws_toStateGraph x (by first | assumption | omega | (rw [List.length_take]; omega) | (have := bulkF_mem hb _ (getD_mem (d := default) (by omega)); assumption) | (unfold bulkS at *; omega) | (simp_all; done))) (.skip _ _ .nil) rfl) rfl rfl ?_
  refine Ch.s (.ptr 10000 0) (.alloc 10000 _ rfl zer34) ?_
  refine Ch.s .junk (.storePtr _ _ _ rfl rfl rfl (.agg _ rfl) sz34 (Nat.le_of_ble_eq_true rfl)) ?_
  refine Ch.nil ?_
  refine T_seq ?_
  refine T_regionD hc (by kernel_rfl) ?_
  refine ChD.s (.agg [(.row 29000), (.row 29001), (.row 29002)]) [10000, 29000, 29001, 29002] (.pure (.loadPtrA _ _ rfl ag34 sz34 rfl rfl (Nat.le_of_ble_eq_true rfl) rfl)) ?_
  refine ChD.s (.agg [(.d (.int .i64 s.sig)), (.d (.bool (s.up)))]) [4000] (.pure (.loadPtrA _ _ rfl ag42 sz42 rfl rfl (Nat.le_of_ble_eq_true rfl) rfl)) ?_
  refine ChD.s (.d (.agg [(.int .i64 s.sig), (.bool (s.up))])) [] (.call 33000 18 _ _ _ en18 rfl (.inl rfl) (.cons (.lend (.agg (.cons (.d _) (.cons (.d _) .nil)) rfl)) .nil) rfl rfl (sp_laws_toLabel s (by first | assumption | omega | (rw [List.length_take]; omega) | (have := bulkF_mem hb _ (getD_mem (d := default) (by omega)); assumption) | (unfold bulkS at *; omega) | (simp_all; done))) (.skip _ _ .nil) rfl) ?_
  refine ChD.s (.agg [(.d (.int .i64 r.sig)), (.d (.bool (r.up)))]) [5000] (.pure (.loadPtrA _ _ rfl ag42 sz42 rfl rfl (Nat.le_of_ble_eq_true rfl) rfl)) ?_
  refine ChD.s (.d (.agg [(.int .i64 r.sig), (.bool (r.up))])) [] (.call 35000 18 _ _ _ en18 rfl (.inl rfl) (.cons (.lend (.agg (.cons (.d _) (.cons (.d _) .nil)) rfl)) .nil) rfl rfl (sp_laws_toLabel r (by first | assumption | omega | (rw [List.length_take]; omega) | (have := bulkF_mem hb _ (getD_mem (d := default) (by omega)); assumption) | (unfold bulkS at *; omega) | (simp_all; done))) (.skip _ _ .nil) rfl) ?_
  refine ChD.s (.tup [(.d (.str (ipV x s r))), (.d (.bool (ipB x s r)))]) [29000, 29001, 29002] (.call 36000 24 _ _ _ en24 rfl (.inl rfl) (.cons (.lend (.agg (.cons (.row rfl (frozs_map (fun _ => rfl) _)) (.cons (.row rfl (frozs_map (fun _ => rfl) _)) (.cons (.row rfl (frozs_map (fun _ => rfl) _)) .nil))) rfl)) (.cons (.d _) (.cons (.d _) .nil))) rfl rfl (sp_impl_InsertionPartition x s r (by first | assumption | omega | (rw [List.length_take]; omega) | (have := bulkF_mem hb _ (getD_mem (d := default) (by omega)); assumption) | (unfold bulkS at *; omega) | (simp_all; done))) (.skip _ _ (.skip _ _ (.skip _ _ .nil))) rfl) ?_
  refine ChD.s (.tup [(.d (.str (ipV x s r))), (.d (.bool (ipB x s r)))]) [] (.pure (.move _ rfl rfl)) ?_
  refine ChD.s (.d (.str (ipV x s r))) [] (.pure (.extract _ rfl rfl rfl)) ?_
  refine ChD.s (.d (.bool (ipB x s r))) [] (.pure (.extract _ rfl rfl rfl)) ?_
  refine ChD.s (.d (.str (ipV x s r))) [] (.pure (.assign _ rfl rfl)) ?_
  refine ChD.s (.d (.bool (ipB x s r))) [] (.pure (.assign _ rfl rfl)) ?_
  refine ChD.nil (And.intro ?_ (by kernel_rfl))
  refine T_seq ?_
  refine T_seq ?_
  refine T_region hc ?_
  refine Ch.s (.d (.str (ipV x s r))) (.pure (.move _ rfl rfl)) ?_
  refine Ch.s (.d (.str (ipV x s r))) (.pure (.move _ rfl rfl)) ?_
  refine Ch.s (.d (.bool (!(decide ((ipV x s r) = (ipV x s r)))))) (.pure (.str _ _ _ _ _ rfl rfl rfl rfl)) ?_
  refine Ch.s (.d (.bool (!(decide ((ipV x s r) = (ipV x s r)))))) (.pure (.move _ rfl rfl)) ?_
  cases h2 : (decide ((ipV x s r) = (ipV x s r))) with
  | true =>
   replace h2 := of_decide_eq_true h2
   refine Ch.s (.d (.bool (ipB x s r))) (.pure (.move _ rfl rfl)) ?_
   refine Ch.s (.d (.bool (ipB x s r))) (.pure (.move _ rfl rfl)) ?_
   refine Ch.s (.d (.bool (!(decide ((ipB x s r) = (ipB x s r)))))) (.pure (.neB _ _ _ _ rfl Try.underlying4 rfl rfl)) ?_
   refine Ch.s (.d (.bool (!(decide ((ipB x s r) = (ipB x s r)))))) (.pure (.pickF _ _ _ rfl rfl rfl)) ?_
   refine Ch.nil ?_
   refine T_cond (b := (!(decide ((ipB x s r) = (ipB x s r))))) rfl (fun h3 => ?_) (fun h3 => ?_)
   ·
    replace h3 := nott h3
    replace h3 := of_decide_eq_false h3
    refine T_seq ?_
    refine T_region hc ?_
    refine Ch.s (.d (.bool false)) (.pure (.assign _ rfl rfl)) ?_
    refine Ch.nil ?_
    refine T_ret ?_
    refine And.intro (.inr rfl) ?_
    exact Exists.intro [(.d (.bool false))] (Exists.intro [] (Exists.intro [] (And.intro (.cons (.tmp 6 rfl) .nil) (And.intro (.cons (.any _) (.cons (.any _) (.cons (.any _) .nil))) (And.intro (Exp.of (congrArg D.bool (by first | rfl | contradiction | (exfalso; omega) | (simp_all; done) | (exfalso; simp_all; omega))) (.d _)) (And.intro rfl rfl))))))
   ·
    replace h3 := notf h3
    replace h3 := of_decide_eq_true h3
    refine T_skip ?_
    refine T_seq ?_
    refine T_seq ?_
    refine T_regionD hc (by kernel_rfl) ?_
    refine ChD.s (.agg [(.row 29000), (.row 29001), (.row 29002)]) [10000, 29000, 29001, 29002] (.pure (.loadPtrA _ _ rfl ag34 sz34 rfl rfl (Nat.le_of_ble_eq_true rfl) rfl)) ?_
    refine ChD.s (.agg [(.d (.slice false 2 (x.sigs.map Sgn.d))), (.d (.slice false 1 (x.codes.map D.str))), (.d (.slice false 4 (x.arcs.map Arc.d)))]) [3000] (.pure (.loadPtrA _ _ rfl ag26 sz26 rfl rfl (Nat.le_of_ble_eq_true rfl) rfl)) ?_
    refine ChD.s (.agg [(.row 49000), (.row 49001), (.row 49002)]) [] (.call 49000 10 _ _ _ en10 rfl (.inl rfl) (.cons (.lend (.agg (.cons (.d _) (.cons (.d _) (.cons (.d _) .nil))) rfl)) .nil) rfl (sol (Sgr.sol _) rfl) (sp_laws_toStateGraph x (by first | assumption | omega | (rw [List.length_take]; omega) | (have := bulkF_mem hb _ (getD_mem (d := default) (by omega)); assumption) | (unfold bulkS at *; omega) | (simp_all; done))) (.skip _ _ .nil) rfl) ?_
    refine ChD.s (.d (.bool (decide (x = x)))) [29000, 29001, 29002, 49000, 49001, 49002] (.call 50000 13 _ _ _ en13 rfl (.inl rfl) (.cons (.lend (.agg (.cons (.row rfl (frozs_map (fun _ => rfl) _)) (.cons (.row rfl (frozs_map (fun _ => rfl) _)) (.cons (.row rfl (frozs_map (fun _ => rfl) _)) .nil))) rfl)) (.cons (.lend (.agg (.cons (.row rfl (frozs_map (fun _ => rfl) _)) (.cons (.row rfl (frozs_map (fun _ => rfl) _)) (.cons (.row rfl (frozs_map (fun _ => rfl) _)) .nil))) rfl)) .nil)) rfl rfl (sp_laws_eqStateGraph x x (by first | assumption | omega | (rw [List.length_take]; omega) | (have := bulkF_mem hb _ (getD_mem (d := default) (by omega)); assumption) | (unfold bulkS at *; omega) | (simp_all; done))) (.skip _ _ (.skip _ _ .nil)) rfl) ?_
    refine ChD.s (.d (.bool (!(decide (x = x))))) [] (.pure (.not _ _ rfl rfl)) ?_
    refine ChD.nil (And.intro ?_ (by kernel_rfl))
    refine T_cond (b := (!(decide (x = x)))) rfl (fun h4 => ?_) (fun h4 => ?_)
    ·
     replace h4 := nott h4
     replace h4 := of_decide_eq_false h4
     refine T_seq ?_
     refine T_region hc ?_
     refine Ch.s (.d (.bool false)) (.pure (.assign _ rfl rfl)) ?_
     refine Ch.nil ?_
     refine T_ret ?_
     refine And.intro (.inr rfl) ?_
     exact Exists.intro [(.d (.bool false))] (Exists.intro [] (Exists.intro [] (And.intro (.cons (.tmp 6 rfl) .nil) (And.intro (.cons (.any _) (.cons (.any _) (.cons (.any _) .nil))) (And.intro (Exp.of (congrArg D.bool (by first | rfl | contradiction | (exfalso; omega) | (simp_all; done) | (exfalso; simp_all; omega))) (.d _)) (And.intro rfl rfl))))))
    ·
     replace h4 := notf h4
     replace h4 := of_decide_eq_true h4
     refine T_skip ?_
     refine T_seq ?_
     refine T_region hc ?_
     refine Ch.s (.d (.bool true)) (.pure (.assign _ rfl rfl)) ?_
     refine Ch.nil ?_
     refine T_ret ?_
     refine And.intro (.inr rfl) ?_
     exact Exists.intro [(.d (.bool true))] (Exists.intro [] (Exists.intro [] (And.intro (.cons (.tmp 6 rfl) .nil) (And.intro (.cons (.any _) (.cons (.any _) (.cons (.any _) .nil))) (And.intro (.d _) (And.intro rfl rfl))))))
  | false =>
   replace h2 := of_decide_eq_false h2
   refine Ch.skip rfl rfl ?_
   refine Ch.skip rfl rfl ?_
   refine Ch.skip rfl rfl ?_
   refine Ch.s (.d (.bool true)) (.pure (.pickT _ _ _ rfl rfl rfl)) ?_
   refine Ch.nil ?_
   refine T_cond (b := true) rfl (fun _ => ?_) (fun h => nomatch h)
   refine T_seq ?_
   refine T_region hc ?_
   refine Ch.s (.d (.bool false)) (.pure (.assign _ rfl rfl)) ?_
   refine Ch.nil ?_
   refine T_ret ?_
   refine And.intro (.inr rfl) ?_
   exact Exists.intro [(.d (.bool false))] (Exists.intro [] (Exists.intro [] (And.intro (.cons (.tmp 6 rfl) .nil) (And.intro (.cons (.any _) (.cons (.any _) (.cons (.any _) .nil))) (And.intro (Exp.of (congrArg D.bool (by first | rfl | contradiction | (exfalso; omega) | (simp_all; done) | (exfalso; simp_all; omega))) (.d _)) (And.intro rfl rfl))))))

end Go.AM
