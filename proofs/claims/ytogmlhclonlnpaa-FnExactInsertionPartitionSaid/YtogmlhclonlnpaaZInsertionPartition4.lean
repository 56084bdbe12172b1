/-
  The contracts that the law FnExactInsertionPartition needs.
-/
import Derived.Test.YtogmlhclonlnpaaZInsertionPartition3
namespace Go.AM
open Go.Proofs
set_option linter.unusedVariables false
set_option linter.unusedSimpArgs false

set_option maxHeartbeats 4000000 in
theorem sp_impl_blockSigns (x : Sgr) (block : List Int) (hb : x.bulk ≤ 1048576) (hx : SgOk x) (hbl : block.length ≤ 1048576) : Sp Try.prog 90 [(.agg [(.slice false 2 (x.sigs.map Sgn.d)), (.slice false 1 (x.codes.map D.str)), (.slice false 4 (x.arcs.map Arc.d))]), (.slice false 1 (block.map (fun n : Int => D.int .i64 n)))] [.any, .any] (.str (signsF x block)) := by
 refine Sp_intro (lend := true) Try.func90 rfl rfl rfl (fun _ => rfl) (fun c hc hX => ?_)
 obtain ⟨hp0, hp1, hp2⟩ := Sgr.parts hb
 have hn0 := bulkF_len hp0
 have hn1 := bulk_len hp1
 have hx1 := bulk_mem hp1
 have hn2 := bulkF_len hp2; have hx8 := hx.eight; have hxl := hx.len; have hxf := hx.few; have hen := hx.ends; have hsd := sideTo_len block x.codes.length; have hcl := crossTo_len x block
 refine T_seq ?_
 refine T_region hc ?_
 refine Ch.s (.ptr 2000 0) (.box 2000 _ _ rfl (.aggD _)) ?_
 refine Ch.s (.d (.str [])) (.pure (.assign _ rfl rfl)) ?_
 refine Ch.nil ?_
 refine T_seq ?_
 refine T_region hc ?_
 refine Ch.s (.row 15000) (.slice 15000 _ 5 _ rfl sty102 (xs := []) rfl rfl .nil rfl rfl (by decide)) ?_
 refine Ch.s (.row 15000) (.pure (.assign _ rfl rfl)) ?_
 refine Ch.nil ?_
 refine T_seq ?_
 refine T_seq ?_
 refine T_region hc ?_
 refine Ch.s (.ptr 2000 1) (.pure (.fldPtr _ _ _ rfl fld34_1 rfl)) ?_
 refine Ch.s (.d (.slice false 1 (x.codes.map D.str))) (.pure (.loadPtr1 _ _ rfl ag23 rfl rfl rfl)) ?_
 refine Ch.s (.d (.int .i64 ((x.codes.length : Nat) : Int))) (.pure (.len _ _ 9 rfl Try.underlying23 (.sh _ _) (by simp))) ?_
 refine Ch.s (.d (.int .i64 0)) (.pure (.move _ rfl rfl)) ?_
 refine Ch.nil ?_
 refine T_block ?_
 refine T_loop (ι := Nat) (fun k => { n := 145, sl := [(1, (.d (.slice false 1 (block.map (fun n : Int => D.int .i64 n))))), (2, (.ptr 2000 0)), (5, (.row 5)), (18, (.d (.int .i64 ((x.codes.length : Nat) : Int)))), (19, (.d (.int .i64 ((k : Nat) : Int))))], hp := [(5, (some (.row 1 ((sideTo block k).map byteD)))), (2000, (some (.box [(.d (.slice false 2 (x.sigs.map Sgn.d))), (.d (.slice false 1 (x.codes.map D.str))), (.d (.slice false 4 (x.arcs.map Arc.d)))])))], pin := [] }) (fun k => k ≤ x.codes.length) (fun k => x.codes.length - k) ⟨0, (by omega), (Wk.ren [(5, 15000)] rfl rfl rfl rfl (And.intro rfl (And.intro rfl (And.intro rfl (And.intro rfl (And.intro (vI (by first | rfl | omega | (simp; done) | (simp; omega))) trivial))))) (And.intro (oR (by first | rfl | (exact push rfl (by rw [← hsu, sideCh, (by assumption : hasI block (k : Int) = true)]; rfl)) | (exact push rfl (by rw [← hsu, sideCh, (by assumption : hasI block (k : Int) = false)]; rfl)))) (And.intro rfl trivial)))⟩ (fun k hp0 => ?_)
 have hsk0 := sideTo_len block k; have hsu := sideTo_succ block k
 refine T_seq ?_
 refine T_region hc ?_
 refine Ch.s (.d (.bool (decide (((k : Nat) : Int) < ((x.codes.length : Nat) : Int))))) (.pure (.int _ _ _ _ _ rfl rfl rfl rfl)) ?_
 refine Ch.nil ?_
 refine T_seq ?_
 refine T_cond (b := (decide (((k : Nat) : Int) < ((x.codes.length : Nat) : Int)))) rfl (fun h1 => ?_) (fun h1 => ?_)
 ·
  replace h1 := of_decide_eq_true h1
  refine T_skip ?_
  refine T_seq ?_
  refine T_block ?_
  refine T_seq ?_
  refine T_region hc ?_
  refine Ch.s (.d (.int .i64 ((k : Nat) : Int))) (.pure (.move _ rfl rfl)) ?_
  refine Ch.s (.d (.int .i64 ((k : Nat) : Int))) (.pure (.assign _ rfl rfl)) ?_
  refine Ch.nil ?_
  refine T_seq ?_
  refine T_region hc ?_
  refine Ch.s (.d (.int .i64 0)) (.pure (.assign _ rfl rfl)) ?_
  refine Ch.nil ?_
  refine T_seq ?_
  refine T_seq ?_
  refine T_region hc ?_
  refine Ch.s (.d (.slice false 1 (block.map (fun n : Int => D.int .i64 n)))) (.pure (.move _ rfl rfl)) ?_
  refine Ch.s (.d (.int .i64 ((k : Nat) : Int))) (.pure (.move _ rfl rfl)) ?_
  refine Ch.s (.d (.bool (hasI block ((k : Nat) : Int)))) (.call 24000 114 _ _ _ en114 rfl (.inl rfl) (.cons (.d _) (.cons (.d _) .nil)) rfl rfl (sp_Contains_int block ((k : Nat) : Int) (by first | assumption | omega | (rw [List.length_take]; omega) | (have := bulkF_mem hb _ (getD_mem (d := default) (by omega)); assumption) | (unfold bulkS at *; omega) | (simp_all; done))) (.skip _ _ (.skip _ _ .nil)) rfl) ?_
  refine Ch.nil ?_
  refine T_cond (b := (hasI block ((k : Nat) : Int))) rfl (fun h2 => ?_) (fun h2 => ?_)
  ·
   refine T_region hc ?_
   refine Ch.s (.d (.int .i64 2)) (.pure (.assign _ rfl rfl)) ?_
   refine Ch.nil ?_
   refine T_region hc ?_
   refine Ch.s (.row 5) (.pure (.move _ rfl rfl)) ?_
   refine Ch.s (.d (.int .i64 2)) (.pure (.move _ rfl rfl)) ?_
   refine Ch.s (.d (.int .u8 ((49 : UInt8).toNat : Int))) (.pure (.idxStr _ _ _ (2) rfl Try.underlying9 rfl rfl rfl rfl)) ?_
   refine Ch.s (.row 28000) (.slice 28000 _ 5 _ rfl sty102 (xs := [.tmp 27]) rfl rfl (.cons (.d _) .nil) rfl rfl (by decide)) ?_
   refine Ch.step (v := (.row 29000)) rfl (.append 29000 _ _ _ 5 rfl sty102 (by decide) (.rowK rfl) (.inr ⟨_, rfl, rfl⟩) (.row rfl rfl) rfl (by first | omega | (simp only [List.length_append, List.length_map, List.length_cons, List.length_nil]; omega) | (simp; omega) | (simp; done))) rfl rfl ?_
   refine Ch.s (.row 29000) (.pure (.assign _ rfl rfl)) ?_
   refine Ch.nil ?_
   refine T_region hc ?_
   refine Ch.s (.d (.int .i64 (((k : Nat) : Int) + 1))) (.pure (.int _ _ _ _ _ rfl rfl rfl intV_addA)) ?_
   refine Ch.s (.d (.int .i64 (((k : Nat) : Int) + 1))) (.pure (.move _ rfl rfl)) ?_
   refine Ch.nil ?_
   refine Exists.intro (k + 1) (And.intro (by omega) (And.intro (by first | omega | (dsimp only; omega)) (Wk.ren [(5, 29000)] rfl rfl rfl rfl (And.intro rfl (And.intro rfl (And.intro rfl (And.intro rfl (And.intro (vI (by first | rfl | omega | (simp; done) | (simp; omega))) trivial))))) (And.intro (oR (by first | rfl | (exact push rfl (by rw [← hsu, sideCh, (by assumption : hasI block (k : Int) = true)]; rfl)) | (exact push rfl (by rw [← hsu, sideCh, (by assumption : hasI block (k : Int) = false)]; rfl)))) (And.intro rfl trivial)))))
  ·
   refine T_skip ?_
   refine T_region hc ?_
   refine Ch.s (.row 5) (.pure (.move _ rfl rfl)) ?_
   refine Ch.s (.d (.int .i64 0)) (.pure (.move _ rfl rfl)) ?_
   refine Ch.s (.d (.int .u8 ((48 : UInt8).toNat : Int))) (.pure (.idxStr _ _ _ (0) rfl Try.underlying9 rfl rfl rfl rfl)) ?_
   refine Ch.s (.row 28000) (.slice 28000 _ 5 _ rfl sty102 (xs := [.tmp 27]) rfl rfl (.cons (.d _) .nil) rfl rfl (by decide)) ?_
   refine Ch.step (v := (.row 29000)) rfl (.append 29000 _ _ _ 5 rfl sty102 (by decide) (.rowK rfl) (.inr ⟨_, rfl, rfl⟩) (.row rfl rfl) rfl (by first | omega | (simp only [List.length_append, List.length_map, List.length_cons, List.length_nil]; omega) | (simp; omega) | (simp; done))) rfl rfl ?_
   refine Ch.s (.row 29000) (.pure (.assign _ rfl rfl)) ?_
   refine Ch.nil ?_
   refine T_region hc ?_
   refine Ch.s (.d (.int .i64 (((k : Nat) : Int) + 1))) (.pure (.int _ _ _ _ _ rfl rfl rfl intV_addA)) ?_
   refine Ch.s (.d (.int .i64 (((k : Nat) : Int) + 1))) (.pure (.move _ rfl rfl)) ?_
   refine Ch.nil ?_
   refine Exists.intro (k + 1) (And.intro (by omega) (And.intro (by first | omega | (dsimp only; omega)) (Wk.ren [(5, 29000)] rfl rfl rfl rfl (And.intro rfl (And.intro rfl (And.intro rfl (And.intro rfl (And.intro (vI (by first | rfl | omega | (simp; done) | (simp; omega))) trivial))))) (And.intro (oR (by first | rfl | (exact push rfl (by rw [← hsu, sideCh, (by assumption : hasI block (k : Int) = true)]; rfl)) | (exact push rfl (by rw [← hsu, sideCh, (by assumption : hasI block (k : Int) = false)]; rfl)))) (And.intro rfl trivial)))))
 ·
  replace h1 := of_decide_eq_false h1
  refine T_exit ?_
  refine T_seq ?_
  refine T_region hc ?_
  refine Ch.s (.row 5) (.pure (.move _ rfl rfl)) ?_
  refine Ch.s (.d (.str (sideTo block k))) (.string (l := sideTo block k) _ _ _ _ rfl Try.underlying102 Try.underlying5 Try.underlying9 (.row rfl (noUs_map (fun _ => rfl) _))) ?_
  refine Ch.s (.d (.str (sideTo block k))) (.pure (.assign _ rfl rfl)) ?_
  refine Ch.nil ?_
  refine T_seq ?_
  refine T_seq ?_
  refine T_region hc ?_
  refine Ch.s (.ptr 2000 2) (.pure (.fldPtr _ _ _ rfl fld34_2 rfl)) ?_
  refine Ch.s (.d (.slice false 4 (x.arcs.map Arc.d))) (.pure (.loadPtr1 _ _ rfl ag32 rfl rfl rfl)) ?_
  refine Ch.s (.d (.int .i64 ((x.arcs.length : Nat) : Int))) (.pure (.len _ _ 85 rfl Try.underlying32 (.sh _ _) (by simp))) ?_
  refine Ch.s (.d (.int .i64 0)) (.pure (.move _ rfl rfl)) ?_
  refine Ch.nil ?_
  refine T_block ?_
  refine T_loop (ι := Nat) (fun m => { n := 145, sl := [(2, (.ptr 2000 0)), (5, (.row 5)), (8, (.d (.str (sideTo block k)))), (34, (.d (.slice false 4 (x.arcs.map Arc.d)))), (35, (.d (.int .i64 ((x.arcs.length : Nat) : Int)))), (36, (.d (.int .i64 ((m : Nat) : Int))))], hp := [(5, (some (.row 1 ((crossTo x block m).map byteD)))), (2000, (some (.box [(.d (.slice false 2 (x.sigs.map Sgn.d))), (.d (.slice false 1 (x.codes.map D.str))), (.d (.slice false 4 (x.arcs.map Arc.d)))])))], pin := [] }) (fun m => m ≤ x.arcs.length) (fun m => x.arcs.length - m) ⟨0, (by omega), (Wk.of rfl rfl (And.intro rfl (And.intro rfl (And.intro rfl (And.intro rfl (And.intro rfl (And.intro (vI (by first | rfl | omega | (simp; done) | (simp; omega))) trivial)))))) (And.intro (oR (by first | (rw [show k = x.codes.length by omega]; rfl) | (exact cross_in (k := k) (by omega) hen (by omega) (by assumption) (by assumption)) | (exact cross_out (k := k) (by omega) hen (by omega) (by assumption) (by assumption)) | (exact congrArg (List.map _) (cross_no (k := k) (by omega) hen (by omega) (fun e => by first | exact absurd e.1 (by assumption) | exact absurd e.2 (by assumption)) (fun e => by first | exact absurd e.1 (by assumption) | exact absurd e.2 (by assumption)))) | (exact congrArg (List.map _) (cross_no (k := k) (by omega) hen (by omega) (fun e => by simp_all; done) (fun e => by simp_all; done))) | (exfalso; simp_all; done))) (And.intro rfl trivial)))⟩ (fun m hp1 => ?_)
  have hcm := hcl m
  refine T_seq ?_
  refine T_region hc ?_
  refine Ch.s (.d (.bool (decide (((m : Nat) : Int) < ((x.arcs.length : Nat) : Int))))) (.pure (.int _ _ _ _ _ rfl rfl rfl rfl)) ?_
  refine Ch.nil ?_
  refine T_seq ?_
  refine T_cond (b := (decide (((m : Nat) : Int) < ((x.arcs.length : Nat) : Int)))) rfl (fun h3 => ?_) (fun h3 => ?_)
  ·
   replace h3 := of_decide_eq_true h3
   try have hek := hen _ (getD_mem (l := x.arcs) (j := m) (d := default) (by omega))
   try have hsk := (hx.sig _ (getD_mem (l := x.arcs) (j := m) (d := default) (by omega))).1
   try have hss := (hx.sig _ (getD_mem (l := x.arcs) (j := m) (d := default) (by omega))).2
   try have hst := stay_side (x := x) (block := block) (k := k) (by omega) hek
   refine T_skip ?_
   refine T_seq ?_
   refine T_block ?_
   refine T_seq ?_
   refine T_region hc ?_
   refine Ch.s (.d (.ref (.agg [(.int .i64 ((x.arcs.getD m default).src)), (.int .i64 ((x.arcs.getD m default).sig)), (.bool ((x.arcs.getD m default).up)), (.int .i64 ((x.arcs.getD m default).dst))]))) (.pure (.idx _ _ _ 85 (m) rfl Try.underlying32 sz85 rfl rfl rfl get_mapA)) ?_
   refine Ch.s (.d (.agg [(.int .i64 ((x.arcs.getD m default).src)), (.int .i64 ((x.arcs.getD m default).sig)), (.bool ((x.arcs.getD m default).up)), (.int .i64 ((x.arcs.getD m default).dst))])) (.pure (.loadRefA _ _ rfl ag85 sz85 rfl)) ?_
   refine Ch.s (.ptr 10000 0) (.alloc 10000 _ rfl zer85) ?_
   refine Ch.s .junk (.storePtr _ _ _ rfl rfl rfl (.aggD _) sz85 (Nat.le_of_ble_eq_true rfl)) ?_
   refine Ch.nil ?_
   refine T_block ?_
   refine T_seq ?_
   refine T_region hc ?_
   refine Ch.s (.d (.str (sideTo block k))) (.pure (.move _ rfl rfl)) ?_
   refine Ch.s (.ptr 10000 0) (.pure (.fldPtr _ _ _ rfl fld85_0 rfl)) ?_
   refine Ch.s (.d (.int .i64 ((x.arcs.getD m default).src))) (.pure (.loadPtr1 _ _ rfl ag3 rfl rfl rfl)) ?_
   refine Ch.s (.d (.int .u8 (((sideTo block k).getD ((((x.arcs.getD m default).src)).toNat) 0).toNat : Int))) (.pure (.idxStr _ _ _ ((((x.arcs.getD m default).src)).toNat) rfl Try.underlying9 rfl rfl (by omega) get_strA)) ?_
   refine Ch.s (.d (.bool (decide ((((sideTo block k).getD ((((x.arcs.getD m default).src)).toNat) 0) : UInt8) = 48)))) (.pure (.int _ _ _ _ _ rfl rfl rfl (u8_eql (((sideTo block k).getD ((((x.arcs.getD m default).src)).toNat) 0) : UInt8) 48 rfl rfl))) ?_
   refine Ch.s (.d (.bool (decide ((((sideTo block k).getD ((((x.arcs.getD m default).src)).toNat) 0) : UInt8) = 48)))) (.pure (.move _ rfl rfl)) ?_
   cases h4 : (decide ((((sideTo block k).getD ((((x.arcs.getD m default).src)).toNat) 0) : UInt8) = 48)) with
   | true =>
    replace h4 := of_decide_eq_true h4
    refine Ch.s (.d (.str (sideTo block k))) (.pure (.move _ rfl rfl)) ?_
    refine Ch.s (.ptr 10000 3) (.pure (.fldPtr _ _ _ rfl fld85_3 rfl)) ?_
    refine Ch.s (.d (.int .i64 ((x.arcs.getD m default).dst))) (.pure (.loadPtr1 _ _ rfl ag3 rfl rfl rfl)) ?_
    refine Ch.s (.d (.int .u8 (((sideTo block k).getD ((((x.arcs.getD m default).dst)).toNat) 0).toNat : Int))) (.pure (.idxStr _ _ _ ((((x.arcs.getD m default).dst)).toNat) rfl Try.underlying9 rfl rfl (by omega) get_strA)) ?_
    refine Ch.s (.d (.bool (decide ((((sideTo block k).getD ((((x.arcs.getD m default).dst)).toNat) 0) : UInt8) = 49)))) (.pure (.int _ _ _ _ _ rfl rfl rfl (u8_eql (((sideTo block k).getD ((((x.arcs.getD m default).dst)).toNat) 0) : UInt8) 49 rfl rfl))) ?_
    refine Ch.s (.d (.bool (decide ((((sideTo block k).getD ((((x.arcs.getD m default).dst)).toNat) 0) : UInt8) = 49)))) (.pure (.pickT _ _ _ rfl rfl rfl)) ?_
    refine Ch.s (.d (.bool (decide ((((sideTo block k).getD ((((x.arcs.getD m default).dst)).toNat) 0) : UInt8) = 49)))) (.pure (.assign _ rfl rfl)) ?_
    refine Ch.nil ?_
    refine T_cond (b := (decide ((((sideTo block k).getD ((((x.arcs.getD m default).dst)).toNat) 0) : UInt8) = 49))) rfl (fun h5 => ?_) (fun h5 => ?_)
    ·
     replace h5 := of_decide_eq_true h5
     refine T_region hc ?_
     refine Ch.s (.row 5) (.pure (.move _ rfl rfl)) ?_
     refine Ch.s (.ptr 10000 3) (.pure (.fldPtr _ _ _ rfl fld85_3 rfl)) ?_
     refine Ch.s (.d (.int .i64 ((x.arcs.getD m default).dst))) (.pure (.loadPtr1 _ _ rfl ag3 rfl rfl rfl)) ?_
     refine Ch.s (.el 5 1 ((((x.arcs.getD m default).dst)).toNat) 0) (.pure (.idxRow _ _ _ 5 ((((x.arcs.getD m default).dst)).toNat) rfl Try.underlying102 sz5 rfl rfl rfl (by omega) (by first | omega | (simp only [List.length_map, List.length_set]; omega) | (simp; omega)))) ?_
     refine Ch.s .junk (.storeEl (y' := (.int .u8 43)) _ _ _ rfl rfl rfl (.d _) rfl sz5 rfl get_mapA rfl rfl) ?_
     refine Ch.nil ?_
     refine T_region hc ?_
     refine Ch.s (.d (.int .i64 (((m : Nat) : Int) + 1))) (.pure (.int _ _ _ _ _ rfl rfl rfl intV_addA)) ?_
     refine Ch.s (.d (.int .i64 (((m : Nat) : Int) + 1))) (.pure (.move _ rfl rfl)) ?_
     refine Ch.nil ?_
     refine Exists.intro (m + 1) (And.intro (by omega) (And.intro (by first | omega | (dsimp only; omega)) (Wk.of rfl rfl (And.intro rfl (And.intro rfl (And.intro rfl (And.intro rfl (And.intro rfl (And.intro (vI (by first | rfl | omega | (simp; done) | (simp; omega))) trivial)))))) (And.intro (oR (by first | (rw [show k = x.codes.length by omega]; rfl) | (exact cross_in (k := k) (by omega) hen (by omega) (by assumption) (by assumption)) | (exact cross_out (k := k) (by omega) hen (by omega) (by assumption) (by assumption)) | (exact congrArg (List.map _) (cross_no (k := k) (by omega) hen (by omega) (fun e => by first | exact absurd e.1 (by assumption) | exact absurd e.2 (by assumption)) (fun e => by first | exact absurd e.1 (by assumption) | exact absurd e.2 (by assumption)))) | (exact congrArg (List.map _) (cross_no (k := k) (by omega) hen (by omega) (fun e => by simp_all; done) (fun e => by simp_all; done))) | (exfalso; simp_all; done))) (And.intro rfl trivial)))))
    ·
     replace h5 := of_decide_eq_false h5
     refine T_seq ?_
     refine T_region hc ?_
     refine Ch.s (.d (.str (sideTo block k))) (.pure (.move _ rfl rfl)) ?_
     refine Ch.s (.ptr 10000 0) (.pure (.fldPtr _ _ _ rfl fld85_0 rfl)) ?_
     refine Ch.s (.d (.int .i64 ((x.arcs.getD m default).src))) (.pure (.loadPtr1 _ _ rfl ag3 rfl rfl rfl)) ?_
     refine Ch.s (.d (.int .u8 (((sideTo block k).getD ((((x.arcs.getD m default).src)).toNat) 0).toNat : Int))) (.pure (.idxStr _ _ _ ((((x.arcs.getD m default).src)).toNat) rfl Try.underlying9 rfl rfl (by omega) get_strA)) ?_
     refine Ch.s (.d (.bool (decide ((((sideTo block k).getD ((((x.arcs.getD m default).src)).toNat) 0) : UInt8) = 49)))) (.pure (.int _ _ _ _ _ rfl rfl rfl (u8_eql (((sideTo block k).getD ((((x.arcs.getD m default).src)).toNat) 0) : UInt8) 49 rfl rfl))) ?_
     refine Ch.s (.d (.bool (decide ((((sideTo block k).getD ((((x.arcs.getD m default).src)).toNat) 0) : UInt8) = 49)))) (.pure (.move _ rfl rfl)) ?_
     cases h6 : (decide ((((sideTo block k).getD ((((x.arcs.getD m default).src)).toNat) 0) : UInt8) = 49)) with
     | true =>
      replace h6 := of_decide_eq_true h6
      refine Ch.s (.d (.str (sideTo block k))) (.pure (.move _ rfl rfl)) ?_
      refine Ch.s (.ptr 10000 3) (.pure (.fldPtr _ _ _ rfl fld85_3 rfl)) ?_
      refine Ch.s (.d (.int .i64 ((x.arcs.getD m default).dst))) (.pure (.loadPtr1 _ _ rfl ag3 rfl rfl rfl)) ?_
      refine Ch.s (.d (.int .u8 (((sideTo block k).getD ((((x.arcs.getD m default).dst)).toNat) 0).toNat : Int))) (.pure (.idxStr _ _ _ ((((x.arcs.getD m default).dst)).toNat) rfl Try.underlying9 rfl rfl (by omega) get_strA)) ?_
      refine Ch.s (.d (.bool (decide ((((sideTo block k).getD ((((x.arcs.getD m default).dst)).toNat) 0) : UInt8) = 48)))) (.pure (.int _ _ _ _ _ rfl rfl rfl (u8_eql (((sideTo block k).getD ((((x.arcs.getD m default).dst)).toNat) 0) : UInt8) 48 rfl rfl))) ?_
      refine Ch.s (.d (.bool (decide ((((sideTo block k).getD ((((x.arcs.getD m default).dst)).toNat) 0) : UInt8) = 48)))) (.pure (.pickT _ _ _ rfl rfl rfl)) ?_
      refine Ch.s (.d (.bool (decide ((((sideTo block k).getD ((((x.arcs.getD m default).dst)).toNat) 0) : UInt8) = 48)))) (.pure (.assign _ rfl rfl)) ?_
      refine Ch.nil ?_
      refine T_cond (b := (decide ((((sideTo block k).getD ((((x.arcs.getD m default).dst)).toNat) 0) : UInt8) = 48))) rfl (fun h7 => ?_) (fun h7 => ?_)
      ·
       replace h7 := of_decide_eq_true h7
       refine T_region hc ?_
       refine Ch.s (.row 5) (.pure (.move _ rfl rfl)) ?_
       refine Ch.s (.ptr 10000 3) (.pure (.fldPtr _ _ _ rfl fld85_3 rfl)) ?_
       refine Ch.s (.d (.int .i64 ((x.arcs.getD m default).dst))) (.pure (.loadPtr1 _ _ rfl ag3 rfl rfl rfl)) ?_
       refine Ch.s (.el 5 1 ((((x.arcs.getD m default).dst)).toNat) 0) (.pure (.idxRow _ _ _ 5 ((((x.arcs.getD m default).dst)).toNat) rfl Try.underlying102 sz5 rfl rfl rfl (by omega) (by first | omega | (simp only [List.length_map, List.length_set]; omega) | (simp; omega)))) ?_
       refine Ch.s .junk (.storeEl (y' := (.int .u8 45)) _ _ _ rfl rfl rfl (.d _) rfl sz5 rfl get_mapA rfl rfl) ?_
       refine Ch.nil ?_
       refine T_region hc ?_
       refine Ch.s (.d (.int .i64 (((m : Nat) : Int) + 1))) (.pure (.int _ _ _ _ _ rfl rfl rfl intV_addA)) ?_
       refine Ch.s (.d (.int .i64 (((m : Nat) : Int) + 1))) (.pure (.move _ rfl rfl)) ?_
       refine Ch.nil ?_
       refine Exists.intro (m + 1) (And.intro (by omega) (And.intro (by first | omega | (dsimp only; omega)) (Wk.of rfl rfl (And.intro rfl (And.intro rfl (And.intro rfl (And.intro rfl (And.intro rfl (And.intro (vI (by first | rfl | omega | (simp; done) | (simp; omega))) trivial)))))) (And.intro (oR (by first | (rw [show k = x.codes.length by omega]; rfl) | (exact cross_in (k := k) (by omega) hen (by omega) (by assumption) (by assumption)) | (exact cross_out (k := k) (by omega) hen (by omega) (by assumption) (by assumption)) | (exact congrArg (List.map _) (cross_no (k := k) (by omega) hen (by omega) (fun e => by first | exact absurd e.1 (by assumption) | exact absurd e.2 (by assumption)) (fun e => by first | exact absurd e.1 (by assumption) | exact absurd e.2 (by assumption)))) | (exact congrArg (List.map _) (cross_no (k := k) (by omega) hen (by omega) (fun e => by simp_all; done) (fun e => by simp_all; done))) | (exfalso; simp_all; done))) (And.intro rfl trivial)))))
      ·
       replace h7 := of_decide_eq_false h7
       refine T_skip ?_
       refine T_region hc ?_
       refine Ch.s (.d (.int .i64 (((m : Nat) : Int) + 1))) (.pure (.int _ _ _ _ _ rfl rfl rfl intV_addA)) ?_
       refine Ch.s (.d (.int .i64 (((m : Nat) : Int) + 1))) (.pure (.move _ rfl rfl)) ?_
       refine Ch.nil ?_
       refine Exists.intro (m + 1) (And.intro (by omega) (And.intro (by first | omega | (dsimp only; omega)) (Wk.of rfl rfl (And.intro rfl (And.intro rfl (And.intro rfl (And.intro rfl (And.intro rfl (And.intro (vI (by first | rfl | omega | (simp; done) | (simp; omega))) trivial)))))) (And.intro (oR (by first | (rw [show k = x.codes.length by omega]; rfl) | (exact cross_in (k := k) (by omega) hen (by omega) (by assumption) (by assumption)) | (exact cross_out (k := k) (by omega) hen (by omega) (by assumption) (by assumption)) | (exact congrArg (List.map _) (cross_no (k := k) (by omega) hen (by omega) (fun e => by first | exact absurd e.1 (by assumption) | exact absurd e.2 (by assumption)) (fun e => by first | exact absurd e.1 (by assumption) | exact absurd e.2 (by assumption)))) | (exact congrArg (List.map _) (cross_no (k := k) (by omega) hen (by omega) (fun e => by simp_all; done) (fun e => by simp_all; done))) | (exfalso; simp_all; done))) (And.intro rfl trivial)))))
     | false =>
      replace h6 := of_decide_eq_false h6
      refine Ch.skip rfl rfl ?_
      refine Ch.skip rfl rfl ?_
      refine Ch.skip rfl rfl ?_
      refine Ch.skip rfl rfl ?_
      refine Ch.skip rfl rfl ?_
      refine Ch.s (.d (.bool false)) (.pure (.pickF _ _ _ rfl rfl rfl)) ?_
      refine Ch.s (.d (.bool false)) (.pure (.assign _ rfl rfl)) ?_
      refine Ch.nil ?_
      refine T_cond (b := false) rfl (fun h => nomatch h) (fun _ => ?_)
      refine T_skip ?_
      refine T_region hc ?_
      refine Ch.s (.d (.int .i64 (((m : Nat) : Int) + 1))) (.pure (.int _ _ _ _ _ rfl rfl rfl intV_addA)) ?_
      refine Ch.s (.d (.int .i64 (((m : Nat) : Int) + 1))) (.pure (.move _ rfl rfl)) ?_
      refine Ch.nil ?_
      refine Exists.intro (m + 1) (And.intro (by omega) (And.intro (by first | omega | (dsimp only; omega)) (Wk.of rfl rfl (And.intro rfl (And.intro rfl (And.intro rfl (And.intro rfl (And.intro rfl (And.intro (vI (by first | rfl | omega | (simp; done) | (simp; omega))) trivial)))))) (And.intro (oR (by first | (rw [show k = x.codes.length by omega]; rfl) | (exact cross_in (k := k) (by omega) hen (by omega) (by assumption) (by assumption)) | (exact cross_out (k := k) (by omega) hen (by omega) (by assumption) (by assumption)) | (exact congrArg (List.map _) (cross_no (k := k) (by omega) hen (by omega) (fun e => by first | exact absurd e.1 (by assumption) | exact absurd e.2 (by assumption)) (fun e => by first | exact absurd e.1 (by assumption) | exact absurd e.2 (by assumption)))) | (exact congrArg (List.map _) (cross_no (k := k) (by omega) hen (by omega) (fun e => by simp_all; done) (fun e => by simp_all; done))) | (exfalso; simp_all; done))) (And.intro rfl trivial)))))
   | false =>
    replace h4 := of_decide_eq_false h4
    refine Ch.skip rfl rfl ?_
    refine Ch.skip rfl rfl ?_
    refine Ch.skip rfl rfl ?_
    refine Ch.skip rfl rfl ?_
    refine Ch.skip rfl rfl ?_
    refine Ch.s (.d (.bool false)) (.pure (.pickF _ _ _ rfl rfl rfl)) ?_
    refine Ch.s (.d (.bool false)) (.pure (.assign _ rfl rfl)) ?_
    refine Ch.nil ?_
    refine T_cond (b := false) rfl (fun h => nomatch h) (fun _ => ?_)
    refine T_seq ?_
    refine T_region hc ?_
    refine Ch.s (.d (.str (sideTo block k))) (.pure (.move _ rfl rfl)) ?_
    refine Ch.s (.ptr 10000 0) (.pure (.fldPtr _ _ _ rfl fld85_0 rfl)) ?_
    refine Ch.s (.d (.int .i64 ((x.arcs.getD m default).src))) (.pure (.loadPtr1 _ _ rfl ag3 rfl rfl rfl)) ?_
    refine Ch.s (.d (.int .u8 (((sideTo block k).getD ((((x.arcs.getD m default).src)).toNat) 0).toNat : Int))) (.pure (.idxStr _ _ _ ((((x.arcs.getD m default).src)).toNat) rfl Try.underlying9 rfl rfl (by omega) get_strA)) ?_
    refine Ch.s (.d (.bool (decide ((((sideTo block k).getD ((((x.arcs.getD m default).src)).toNat) 0) : UInt8) = 49)))) (.pure (.int _ _ _ _ _ rfl rfl rfl (u8_eql (((sideTo block k).getD ((((x.arcs.getD m default).src)).toNat) 0) : UInt8) 49 rfl rfl))) ?_
    refine Ch.s (.d (.bool (decide ((((sideTo block k).getD ((((x.arcs.getD m default).src)).toNat) 0) : UInt8) = 49)))) (.pure (.move _ rfl rfl)) ?_
    cases h8 : (decide ((((sideTo block k).getD ((((x.arcs.getD m default).src)).toNat) 0) : UInt8) = 49)) with
    | true =>
     replace h8 := of_decide_eq_true h8
     try have hek := hen _ (getD_mem (l := x.arcs) (j := p) (d := default) (by omega))
     try have hsk := (hx.sig _ (getD_mem (l := x.arcs) (j := p) (d := default) (by omega))).1
     try have hss := (hx.sig _ (getD_mem (l := x.arcs) (j := p) (d := default) (by omega))).2
     try have hst := stay_side (x := x) (block := block) (k := k) (by omega) hek
     refine Ch.s (.d (.str (sideTo block k))) (.pure (.move _ rfl rfl)) ?_
     refine Ch.s (.ptr 10000 3) (.pure (.fldPtr _ _ _ rfl fld85_3 rfl)) ?_
     refine Ch.s (.d (.int .i64 ((x.arcs.getD m default).dst))) (.pure (.loadPtr1 _ _ rfl ag3 rfl rfl rfl)) ?_
     refine Ch.s (.d (.int .u8 (((sideTo block k).getD ((((x.arcs.getD m default).dst)).toNat) 0).toNat : Int))) (.pure (.idxStr _ _ _ ((((x.arcs.getD m default).dst)).toNat) rfl Try.underlying9 rfl rfl (by omega) get_strA)) ?_
     refine Ch.s (.d (.bool (decide ((((sideTo block k).getD ((((x.arcs.getD m default).dst)).toNat) 0) : UInt8) = 48)))) (.pure (.int _ _ _ _ _ rfl rfl rfl (u8_eql (((sideTo block k).getD ((((x.arcs.getD m default).dst)).toNat) 0) : UInt8) 48 rfl rfl))) ?_
     refine Ch.s (.d (.bool (decide ((((sideTo block k).getD ((((x.arcs.getD m default).dst)).toNat) 0) : UInt8) = 48)))) (.pure (.pickT _ _ _ rfl rfl rfl)) ?_
     refine Ch.s (.d (.bool (decide ((((sideTo block k).getD ((((x.arcs.getD m default).dst)).toNat) 0) : UInt8) = 48)))) (.pure (.assign _ rfl rfl)) ?_
     refine Ch.nil ?_
     refine T_cond (b := (decide ((((sideTo block k).getD ((((x.arcs.getD m default).dst)).toNat) 0) : UInt8) = 48))) rfl (fun h9 => ?_) (fun h9 => ?_)
     ·
      replace h9 := of_decide_eq_true h9
      try have hek := hen _ (getD_mem (l := x.arcs) (j := p) (d := default) (by omega))
      try have hsk := (hx.sig _ (getD_mem (l := x.arcs) (j := p) (d := default) (by omega))).1
      try have hss := (hx.sig _ (getD_mem (l := x.arcs) (j := p) (d := default) (by omega))).2
      try have hst := stay_side (x := x) (block := block) (k := k) (by omega) hek
      refine T_region hc ?_
      refine Ch.s (.row 5) (.pure (.move _ rfl rfl)) ?_
      refine Ch.s (.ptr 10000 3) (.pure (.fldPtr _ _ _ rfl fld85_3 rfl)) ?_
      refine Ch.s (.d (.int .i64 ((x.arcs.getD m default).dst))) (.pure (.loadPtr1 _ _ rfl ag3 rfl rfl rfl)) ?_
      refine Ch.s (.el 5 1 ((((x.arcs.getD m default).dst)).toNat) 0) (.pure (.idxRow _ _ _ 5 ((((x.arcs.getD m default).dst)).toNat) rfl Try.underlying102 sz5 rfl rfl rfl (by omega) (by first | omega | (simp only [List.length_map, List.length_set]; omega) | (simp; omega)))) ?_
      refine Ch.s .junk (.storeEl (y' := (.int .u8 45)) _ _ _ rfl rfl rfl (.d _) rfl sz5 rfl get_mapA rfl rfl) ?_
      refine Ch.nil ?_
      refine T_region hc ?_
      refine Ch.s (.d (.int .i64 (((m : Nat) : Int) + 1))) (.pure (.int _ _ _ _ _ rfl rfl rfl intV_addA)) ?_
      refine Ch.s (.d (.int .i64 (((m : Nat) : Int) + 1))) (.pure (.move _ rfl rfl)) ?_
      refine Ch.nil ?_
      refine Exists.intro (m + 1) (And.intro (by omega) (And.intro (by first | omega | (dsimp only; omega)) (Wk.of rfl rfl (And.intro rfl (And.intro rfl (And.intro rfl (And.intro rfl (And.intro rfl (And.intro (vI (by first | rfl | omega | (simp; done) | (simp; omega))) trivial)))))) (And.intro (oR (by first | (rw [show k = x.codes.length by omega]; rfl) | (exact cross_in (k := k) (by omega) hen (by omega) (by assumption) (by assumption)) | (exact cross_out (k := k) (by omega) hen (by omega) (by assumption) (by assumption)) | (exact congrArg (List.map _) (cross_no (k := k) (by omega) hen (by omega) (fun e => by first | exact absurd e.1 (by assumption) | exact absurd e.2 (by assumption)) (fun e => by first | exact absurd e.1 (by assumption) | exact absurd e.2 (by assumption)))) | (exact congrArg (List.map _) (cross_no (k := k) (by omega) hen (by omega) (fun e => by simp_all; done) (fun e => by simp_all; done))) | (exfalso; simp_all; done))) (And.intro rfl trivial)))))
     ·
      replace h9 := of_decide_eq_false h9
      try have hek := hen _ (getD_mem (l := x.arcs) (j := p) (d := default) (by omega))
      try have hsk := (hx.sig _ (getD_mem (l := x.arcs) (j := p) (d := default) (by omega))).1
      try have hss := (hx.sig _ (getD_mem (l := x.arcs) (j := p) (d := default) (by omega))).2
      try have hst := stay_side (x := x) (block := block) (k := k) (by omega) hek
      refine T_skip ?_
      refine T_region hc ?_
      refine Ch.s (.d (.int .i64 (((m : Nat) : Int) + 1))) (.pure (.int _ _ _ _ _ rfl rfl rfl intV_addA)) ?_
      refine Ch.s (.d (.int .i64 (((m : Nat) : Int) + 1))) (.pure (.move _ rfl rfl)) ?_
      refine Ch.nil ?_
      refine Exists.intro (m + 1) (And.intro (by omega) (And.intro (by first | omega | (dsimp only; omega)) (Wk.of rfl rfl (And.intro rfl (And.intro rfl (And.intro rfl (And.intro rfl (And.intro rfl (And.intro (vI (by first | rfl | omega | (simp; done) | (simp; omega))) trivial)))))) (And.intro (oR (by first | (rw [show k = x.codes.length by omega]; rfl) | (exact cross_in (k := k) (by omega) hen (by omega) (by assumption) (by assumption)) | (exact cross_out (k := k) (by omega) hen (by omega) (by assumption) (by assumption)) | (exact congrArg (List.map _) (cross_no (k := k) (by omega) hen (by omega) (fun e => by first | exact absurd e.1 (by assumption) | exact absurd e.2 (by assumption)) (fun e => by first | exact absurd e.1 (by assumption) | exact absurd e.2 (by assumption)))) | (exact congrArg (List.map _) (cross_no (k := k) (by omega) hen (by omega) (fun e => by simp_all; done) (fun e => by simp_all; done))) | (exfalso; simp_all; done))) (And.intro rfl trivial)))))
    | false =>
     replace h8 := of_decide_eq_false h8
     try have hek := hen _ (getD_mem (l := x.arcs) (j := p) (d := default) (by omega))
     try have hsk := (hx.sig _ (getD_mem (l := x.arcs) (j := p) (d := default) (by omega))).1
     try have hss := (hx.sig _ (getD_mem (l := x.arcs) (j := p) (d := default) (by omega))).2
     try have hst := stay_side (x := x) (block := block) (k := k) (by omega) hek
     refine Ch.skip rfl rfl ?_
     refine Ch.skip rfl rfl ?_
     refine Ch.skip rfl rfl ?_
     refine Ch.skip rfl rfl ?_
     refine Ch.skip rfl rfl ?_
     refine Ch.s (.d (.bool false)) (.pure (.pickF _ _ _ rfl rfl rfl)) ?_
     refine Ch.s (.d (.bool false)) (.pure (.assign _ rfl rfl)) ?_
     refine Ch.nil ?_
     refine T_cond (b := false) rfl (fun h => nomatch h) (fun _ => ?_)
     refine T_skip ?_
     refine T_region hc ?_
     refine Ch.s (.d (.int .i64 (((m : Nat) : Int) + 1))) (.pure (.int _ _ _ _ _ rfl rfl rfl intV_addA)) ?_
     refine Ch.s (.d (.int .i64 (((m : Nat) : Int) + 1))) (.pure (.move _ rfl rfl)) ?_
     refine Ch.nil ?_
     refine Exists.intro (m + 1) (And.intro (by omega) (And.intro (by first | omega | (dsimp only; omega)) (Wk.of rfl rfl (And.intro rfl (And.intro rfl (And.intro rfl (And.intro rfl (And.intro rfl (And.intro (vI (by first | rfl | omega | (simp; done) | (simp; omega))) trivial)))))) (And.intro (oR (by first | (rw [show k = x.codes.length by omega]; rfl) | (exact cross_in (k := k) (by omega) hen (by omega) (by assumption) (by assumption)) | (exact cross_out (k := k) (by omega) hen (by omega) (by assumption) (by assumption)) | (exact congrArg (List.map _) (cross_no (k := k) (by omega) hen (by omega) (fun e => by first | exact absurd e.1 (by assumption) | exact absurd e.2 (by assumption)) (fun e => by first | exact absurd e.1 (by assumption) | exact absurd e.2 (by assumption)))) | (exact congrArg (List.map _) (cross_no (k := k) (by omega) hen (by omega) (fun e => by simp_all; done) (fun e => by simp_all; done))) | (exfalso; simp_all; done))) (And.intro rfl trivial)))))
  ·
   replace h3 := of_decide_eq_false h3
   try have hek := hen _ (getD_mem (l := x.arcs) (j := m) (d := default) (by omega))
   try have hsk := (hx.sig _ (getD_mem (l := x.arcs) (j := m) (d := default) (by omega))).1
   try have hss := (hx.sig _ (getD_mem (l := x.arcs) (j := m) (d := default) (by omega))).2
   try have hst := stay_side (x := x) (block := block) (k := k) (by omega) hek
   refine T_exit ?_
   refine T_seq ?_
   refine T_seq ?_
   refine T_region hc ?_
   refine Ch.s (.d (.bool true)) (.pure (.assign _ rfl rfl)) ?_
   refine Ch.nil ?_
   refine T_block ?_
   refine T_loop (ι := Nat × Bool) (fun q => { n := 145, sl := [(2, (.ptr 2000 0)), (5, (.row 5)), (8, (.d (.str (sideTo block k)))), (11, (.d (.bool (q.2))))], hp := [(5, (some (.row 1 ((spIt x block q.1).map byteD)))), (2000, (some (.box [(.d (.slice false 2 (x.sigs.map Sgn.d))), (.d (.slice false 1 (x.codes.map D.str))), (.d (.slice false 4 (x.arcs.map Arc.d)))])))], pin := [] }) (fun q => (q.2 = true ∨ spIt x block q.1 = signsF x block)) (fun q => 2 * (x.codes.length - mkN (spIt x block q.1)) + q.2.toNat) ⟨(0, true), (.inl rfl), (Wk.of rfl rfl (And.intro rfl (And.intro rfl (And.intro rfl (And.intro (vB (by first | rfl)) trivial)))) (And.intro (oR (by first | (rw [show m = x.arcs.length by omega]; rfl) | (rw [spTo_next (by omega)]; done))) (And.intro rfl trivial)))⟩ (fun q hp2 => ?_)
   refine T_seq ?_
   refine T_seq ?_
   refine T_region hc ?_
   refine Ch.s (.d (.bool (q.2))) (.pure (.move _ rfl rfl)) ?_
   refine Ch.nil ?_
   refine T_cond (b := (q.2)) rfl (fun h10 => ?_) (fun h10 => ?_)
   ·
    try have hek := hen _ (getD_mem (l := x.arcs) (j := p) (d := default) (by omega))
    try have hsk := (hx.sig _ (getD_mem (l := x.arcs) (j := p) (d := default) (by omega))).1
    try have hss := (hx.sig _ (getD_mem (l := x.arcs) (j := p) (d := default) (by omega))).2
    try have hst := stay_side (x := x) (block := block) (k := k) (by omega) hek
    refine T_skip ?_
    refine T_block ?_
    refine T_seq ?_
    refine T_region hc ?_
    refine Ch.s (.d (.bool false)) (.pure (.assign _ rfl rfl)) ?_
    refine Ch.nil ?_
    refine T_seq ?_
    refine T_region hc ?_
    refine Ch.s (.ptr 2000 2) (.pure (.fldPtr _ _ _ rfl fld34_2 rfl)) ?_
    refine Ch.s (.d (.slice false 4 (x.arcs.map Arc.d))) (.pure (.loadPtr1 _ _ rfl ag32 rfl rfl rfl)) ?_
    refine Ch.s (.d (.int .i64 ((x.arcs.length : Nat) : Int))) (.pure (.len _ _ 85 rfl Try.underlying32 (.sh _ _) (by simp))) ?_
    refine Ch.s (.d (.int .i64 0)) (.pure (.move _ rfl rfl)) ?_
    refine Ch.nil ?_
    refine T_block ?_
    refine T_loop (ι := Nat) (fun p => { n := 145, sl := [(2, (.ptr 2000 0)), (5, (.row 5)), (8, (.d (.str (sideTo block k)))), (11, (.d (.bool (decide (mkN (spIt x block q.1) < mkN (spTo x block q.1 p)))))), (77, (.d (.slice false 4 (x.arcs.map Arc.d)))), (78, (.d (.int .i64 ((x.arcs.length : Nat) : Int)))), (79, (.d (.int .i64 ((p : Nat) : Int))))], hp := [(5, (some (.row 1 ((spTo x block q.1 p).map byteD)))), (2000, (some (.box [(.d (.slice false 2 (x.sigs.map Sgn.d))), (.d (.slice false 1 (x.codes.map D.str))), (.d (.slice false 4 (x.arcs.map Arc.d)))])))], pin := [] }) (fun p => p ≤ x.arcs.length) (fun p => x.arcs.length - p) ⟨0, (by omega), (Wk.of rfl rfl (And.intro rfl (And.intro rfl (And.intro rfl (And.intro (vB (by first | (rw [spTo_zero, decide_eq_false (Nat.lt_irrefl _)]; done) | (exact sp_more hen (by omega) (by first | exact .inl (by assumption) | exact .inr (by assumption)) (by first | exact in_minus (by assumption) | exact in_minus (by omega) | exact in_else (by assumption) (by assumption) | exact in_else (by omega) (by assumption) | exact in_else (by omega) (by first | exact inputB_yes (by omega) (by assumption) | exact inputB_no (by assumption))) (by first | (rw [← hst]; exact decide_eq_true (by assumption)) | (rw [← crossV_zero]; exact decide_eq_true (by assumption))) (by assumption)) | (exact sp_flag (sp_no1 (by omega) (by assumption) (by assumption))) | (exact sp_flag (sp_no2 (by omega) (by first | exact in_minus (by assumption) | exact in_minus (by omega) | exact in_else (by assumption) (by assumption) | exact in_else (by omega) (by assumption) | exact in_else (by omega) (by first | exact inputB_yes (by omega) (by assumption) | exact inputB_no (by assumption))))) | (exact sp_flag (sp_no3 (by omega) (by first | (rw [← hst]; exact decide_eq_false (by assumption)) | (rw [← crossV_zero]; exact decide_eq_false (by assumption))))) | (exact sp_flag (sp_no4 (by omega) (by assumption))))) (And.intro rfl (And.intro rfl (And.intro (vI (by first | rfl | omega | (simp; done) | (simp; omega))) trivial))))))) (And.intro (oR (by first | rfl | (exact sp_yes (by omega) (by first | exact .inl (by assumption) | exact .inr (by assumption)) (by first | exact in_minus (by assumption) | exact in_minus (by omega) | exact in_else (by assumption) (by assumption) | exact in_else (by omega) (by assumption) | exact in_else (by omega) (by first | exact inputB_yes (by omega) (by assumption) | exact inputB_no (by assumption))) (by first | (rw [← hst]; exact decide_eq_true (by assumption)) | (rw [← crossV_zero]; exact decide_eq_true (by assumption)))) | (exact congrArg (List.map _) (sp_no1 (by omega) (by assumption) (by assumption))) | (exact congrArg (List.map _) (sp_no2 (by omega) (by first | exact in_minus (by assumption) | exact in_minus (by omega) | exact in_else (by assumption) (by assumption) | exact in_else (by omega) (by assumption) | exact in_else (by omega) (by first | exact inputB_yes (by omega) (by assumption) | exact inputB_no (by assumption))))) | (exact congrArg (List.map _) (sp_no3 (by omega) (by first | (rw [← hst]; exact decide_eq_false (by assumption)) | (rw [← crossV_zero]; exact decide_eq_false (by assumption))))) | (exact congrArg (List.map _) (sp_no4 (by omega) (by assumption))))) (And.intro rfl trivial)))⟩ (fun p hp3 => ?_)
    have hsp := (spTo_ok (x := x) (block := block) hen q.1 p hp3).1.1
    refine T_seq ?_
    refine T_region hc ?_
    refine Ch.s (.d (.bool (decide (((p : Nat) : Int) < ((x.arcs.length : Nat) : Int))))) (.pure (.int _ _ _ _ _ rfl rfl rfl rfl)) ?_
    refine Ch.nil ?_
    refine T_seq ?_
    refine T_cond (b := (decide (((p : Nat) : Int) < ((x.arcs.length : Nat) : Int)))) rfl (fun h11 => ?_) (fun h11 => ?_)
    ·
     replace h11 := of_decide_eq_true h11
     try have hek := hen _ (getD_mem (l := x.arcs) (j := p) (d := default) (by omega))
     try have hsk := (hx.sig _ (getD_mem (l := x.arcs) (j := p) (d := default) (by omega))).1
     try have hss := (hx.sig _ (getD_mem (l := x.arcs) (j := p) (d := default) (by omega))).2
     try have hst := stay_side (x := x) (block := block) (k := k) (by omega) hek
     refine T_skip ?_
     refine T_seq ?_
     refine T_block ?_
     refine T_seq ?_
     refine T_region hc ?_
     refine Ch.s (.d (.ref (.agg [(.int .i64 ((x.arcs.getD p default).src)), (.int .i64 ((x.arcs.getD p default).sig)), (.bool ((x.arcs.getD p default).up)), (.int .i64 ((x.arcs.getD p default).dst))]))) (.pure (.idx _ _ _ 85 (p) rfl Try.underlying32 sz85 rfl rfl rfl get_mapA)) ?_
     refine Ch.s (.d (.agg [(.int .i64 ((x.arcs.getD p default).src)), (.int .i64 ((x.arcs.getD p default).sig)), (.bool ((x.arcs.getD p default).up)), (.int .i64 ((x.arcs.getD p default).dst))])) (.pure (.loadRefA _ _ rfl ag85 sz85 rfl)) ?_
     refine Ch.s (.ptr 13000 0) (.alloc 13000 _ rfl zer85) ?_
     refine Ch.s .junk (.storePtr _ _ _ rfl rfl rfl (.aggD _) sz85 (Nat.le_of_ble_eq_true rfl)) ?_
     refine Ch.nil ?_
     refine T_seq ?_
     refine T_region hc ?_
     refine Ch.s (.row 5) (.pure (.move _ rfl rfl)) ?_
     refine Ch.s (.ptr 13000 0) (.pure (.fldPtr _ _ _ rfl fld85_0 rfl)) ?_
     refine Ch.s (.d (.int .i64 ((x.arcs.getD p default).src))) (.pure (.loadPtr1 _ _ rfl ag3 rfl rfl rfl)) ?_
     refine Ch.s (.el 5 1 ((((x.arcs.getD p default).src)).toNat) 0) (.pure (.idxRow _ _ _ 5 ((((x.arcs.getD p default).src)).toNat) rfl Try.underlying102 sz5 rfl rfl rfl (by omega) (by first | omega | (simp only [List.length_map, List.length_set]; omega) | (simp; omega)))) ?_
     refine Ch.s (.d (.int .u8 (((spTo x block q.1 p).getD ((((x.arcs.getD p default).src)).toNat) default).toNat : Int))) (.pure (.loadEl1 _ _ rfl ag5 rfl rfl get_mapA rfl rfl rfl)) ?_
     refine Ch.s (.d (.bool (decide ((((spTo x block q.1 p).getD ((((x.arcs.getD p default).src)).toNat) default) : UInt8) = 43)))) (.pure (.int _ _ _ _ _ rfl rfl rfl (u8_eql (((spTo x block q.1 p).getD ((((x.arcs.getD p default).src)).toNat) default) : UInt8) 43 rfl rfl))) ?_
     refine Ch.s (.d (.bool (decide ((((spTo x block q.1 p).getD ((((x.arcs.getD p default).src)).toNat) default) : UInt8) = 43)))) (.pure (.move _ rfl rfl)) ?_
     cases h12 : (decide ((((spTo x block q.1 p).getD ((((x.arcs.getD p default).src)).toNat) default) : UInt8) = 43)) with
     | true =>
      replace h12 := of_decide_eq_true h12
      try have hek := hen _ (getD_mem (l := x.arcs) (j := p) (d := default) (by omega))
      try have hsk := (hx.sig _ (getD_mem (l := x.arcs) (j := p) (d := default) (by omega))).1
      try have hss := (hx.sig _ (getD_mem (l := x.arcs) (j := p) (d := default) (by omega))).2
      try have hst := stay_side (x := x) (block := block) (k := k) (by omega) hek
      refine Ch.skip rfl rfl ?_
      refine Ch.skip rfl rfl ?_
      refine Ch.skip rfl rfl ?_
      refine Ch.skip rfl rfl ?_
      refine Ch.skip rfl rfl ?_
      refine Ch.skip rfl rfl ?_
      refine Ch.s (.d (.bool true)) (.pure (.pickT _ _ _ rfl rfl rfl)) ?_
      refine Ch.s (.d (.bool true)) (.pure (.assign _ rfl rfl)) ?_
      refine Ch.nil ?_
      refine T_seq ?_
      refine T_regionD hc (by kernel_rfl) ?_
      refine ChD.s (.d (.bool true)) [] (.pure (.move _ rfl rfl)) ?_
      refine ChD.s (.d (.bool true)) [] (.pure (.move _ rfl rfl)) ?_
      refine ChD.s (.ptr 13000 1) [] (.pure (.fldPtr _ _ _ rfl fld85_1 rfl)) ?_
      refine ChD.s (.d (.int .i64 ((x.arcs.getD p default).sig))) [13000] (.pure (.loadPtr1 _ _ rfl ag3 rfl rfl rfl)) ?_
      refine ChD.s (.d (.bool (decide (((x.arcs.getD p default).sig) = (-1))))) [] (.pure (.int _ _ _ _ _ rfl rfl rfl rfl)) ?_
      refine ChD.s (.d (.bool (decide (((x.arcs.getD p default).sig) = (-1))))) [] (.pure (.move _ rfl rfl)) ?_
      cases h13 : (decide (((x.arcs.getD p default).sig) = (-1))) with
      | true =>
       replace h13 := of_decide_eq_true h13
       try have hek := hen _ (getD_mem (l := x.arcs) (j := p) (d := default) (by omega))
       try have hsk := (hx.sig _ (getD_mem (l := x.arcs) (j := p) (d := default) (by omega))).1
       try have hss := (hx.sig _ (getD_mem (l := x.arcs) (j := p) (d := default) (by omega))).2
       try have hst := stay_side (x := x) (block := block) (k := k) (by omega) hek
       refine ChD.skip rfl rfl ?_
       refine ChD.skip rfl rfl ?_
       refine ChD.skip rfl rfl ?_
       refine ChD.skip rfl rfl ?_
       refine ChD.s (.d (.bool true)) [] (.pure (.pickT _ _ _ rfl rfl rfl)) ?_
       refine ChD.s (.d (.bool true)) [] (.pure (.pickT _ _ _ rfl rfl rfl)) ?_
       refine ChD.s (.d (.bool true)) [] (.pure (.move _ rfl rfl)) ?_
       refine ChD.s (.d (.str (sideTo block k))) [] (.pure (.move _ rfl rfl)) ?_
       refine ChD.s (.ptr 13000 0) [] (.pure (.fldPtr _ _ _ rfl fld85_0 rfl)) ?_
       refine ChD.s (.d (.int .i64 ((x.arcs.getD p default).src))) [13000] (.pure (.loadPtr1 _ _ rfl ag3 rfl rfl rfl)) ?_
       refine ChD.s (.d (.int .u8 (((sideTo block k).getD ((((x.arcs.getD p default).src)).toNat) 0).toNat : Int))) [] (.pure (.idxStr _ _ _ ((((x.arcs.getD p default).src)).toNat) rfl Try.underlying9 rfl rfl (by omega) get_strA)) ?_
       refine ChD.s (.d (.str (sideTo block k))) [] (.pure (.move _ rfl rfl)) ?_
       refine ChD.s (.ptr 13000 3) [] (.pure (.fldPtr _ _ _ rfl fld85_3 rfl)) ?_
       refine ChD.s (.d (.int .i64 ((x.arcs.getD p default).dst))) [13000] (.pure (.loadPtr1 _ _ rfl ag3 rfl rfl rfl)) ?_
       refine ChD.s (.d (.int .u8 (((sideTo block k).getD ((((x.arcs.getD p default).dst)).toNat) 0).toNat : Int))) [] (.pure (.idxStr _ _ _ ((((x.arcs.getD p default).dst)).toNat) rfl Try.underlying9 rfl rfl (by omega) get_strA)) ?_
       refine ChD.s (.d (.bool (decide ((((sideTo block k).getD ((((x.arcs.getD p default).src)).toNat) 0) : UInt8) = ((sideTo block k).getD ((((x.arcs.getD p default).dst)).toNat) 0))))) [] (.pure (.int _ _ _ _ _ rfl rfl rfl (u8_eql (((sideTo block k).getD ((((x.arcs.getD p default).src)).toNat) 0) : UInt8) ((sideTo block k).getD ((((x.arcs.getD p default).dst)).toNat) 0) rfl rfl))) ?_
       refine ChD.s (.d (.bool (decide ((((sideTo block k).getD ((((x.arcs.getD p default).src)).toNat) 0) : UInt8) = ((sideTo block k).getD ((((x.arcs.getD p default).dst)).toNat) 0))))) [] (.pure (.pickT _ _ _ rfl rfl rfl)) ?_
       refine ChD.s (.d (.bool (decide ((((sideTo block k).getD ((((x.arcs.getD p default).src)).toNat) 0) : UInt8) = ((sideTo block k).getD ((((x.arcs.getD p default).dst)).toNat) 0))))) [] (.pure (.move _ rfl rfl)) ?_
       cases h14 : (decide ((((sideTo block k).getD ((((x.arcs.getD p default).src)).toNat) 0) : UInt8) = ((sideTo block k).getD ((((x.arcs.getD p default).dst)).toNat) 0))) with
       | true =>
        replace h14 := of_decide_eq_true h14
        try have hek := hen _ (getD_mem (l := x.arcs) (j := p) (d := default) (by omega))
        try have hsk := (hx.sig _ (getD_mem (l := x.arcs) (j := p) (d := default) (by omega))).1
        try have hss := (hx.sig _ (getD_mem (l := x.arcs) (j := p) (d := default) (by omega))).2
        try have hst := stay_side (x := x) (block := block) (k := k) (by omega) hek
        refine ChD.s (.row 5) [] (.pure (.move _ rfl rfl)) ?_
        refine ChD.s (.ptr 13000 3) [] (.pure (.fldPtr _ _ _ rfl fld85_3 rfl)) ?_
        refine ChD.s (.d (.int .i64 ((x.arcs.getD p default).dst))) [13000] (.pure (.loadPtr1 _ _ rfl ag3 rfl rfl rfl)) ?_
        refine ChD.s (.el 5 1 ((((x.arcs.getD p default).dst)).toNat) 0) [5] (.pure (.idxRow _ _ _ 5 ((((x.arcs.getD p default).dst)).toNat) rfl Try.underlying102 sz5 rfl rfl rfl (by omega) (by first | omega | (simp only [List.length_map, List.length_set]; omega) | (simp; omega)))) ?_
        refine ChD.s (.d (.int .u8 (((spTo x block q.1 p).getD ((((x.arcs.getD p default).dst)).toNat) default).toNat : Int))) [5] (.pure (.loadEl1 _ _ rfl ag5 rfl rfl get_mapA rfl rfl rfl)) ?_
        refine ChD.s (.row 5) [] (.pure (.move _ rfl rfl)) ?_
        refine ChD.s (.ptr 13000 0) [] (.pure (.fldPtr _ _ _ rfl fld85_0 rfl)) ?_
        refine ChD.s (.d (.int .i64 ((x.arcs.getD p default).src))) [13000] (.pure (.loadPtr1 _ _ rfl ag3 rfl rfl rfl)) ?_
        refine ChD.s (.el 5 1 ((((x.arcs.getD p default).src)).toNat) 0) [5] (.pure (.idxRow _ _ _ 5 ((((x.arcs.getD p default).src)).toNat) rfl Try.underlying102 sz5 rfl rfl rfl (by omega) (by first | omega | (simp only [List.length_map, List.length_set]; omega) | (simp; omega)))) ?_
        refine ChD.s (.d (.int .u8 (((spTo x block q.1 p).getD ((((x.arcs.getD p default).src)).toNat) default).toNat : Int))) [5] (.pure (.loadEl1 _ _ rfl ag5 rfl rfl get_mapA rfl rfl rfl)) ?_
        refine ChD.s (.d (.bool (!(decide ((((spTo x block q.1 p).getD ((((x.arcs.getD p default).dst)).toNat) default) : UInt8) = ((spTo x block q.1 p).getD ((((x.arcs.getD p default).src)).toNat) default)))))) [] (.pure (.int _ _ _ _ _ rfl rfl rfl (u8_neq (((spTo x block q.1 p).getD ((((x.arcs.getD p default).dst)).toNat) default) : UInt8) ((spTo x block q.1 p).getD ((((x.arcs.getD p default).src)).toNat) default) rfl rfl))) ?_
        refine ChD.s (.d (.bool (!(decide ((((spTo x block q.1 p).getD ((((x.arcs.getD p default).dst)).toNat) default) : UInt8) = ((spTo x block q.1 p).getD ((((x.arcs.getD p default).src)).toNat) default)))))) [] (.pure (.pickT _ _ _ rfl rfl rfl)) ?_
        refine ChD.nil (And.intro ?_ (by kernel_rfl))
        refine T_cond (b := (!(decide ((((spTo x block q.1 p).getD ((((x.arcs.getD p default).dst)).toNat) default) : UInt8) = ((spTo x block q.1 p).getD ((((x.arcs.getD p default).src)).toNat) default))))) rfl (fun h15 => ?_) (fun h15 => ?_)
        ·
         replace h15 := nott h15
         replace h15 := of_decide_eq_false h15
         try have hek := hen _ (getD_mem (l := x.arcs) (j := p) (d := default) (by omega))
         try have hsk := (hx.sig _ (getD_mem (l := x.arcs) (j := p) (d := default) (by omega))).1
         try have hss := (hx.sig _ (getD_mem (l := x.arcs) (j := p) (d := default) (by omega))).2
         try have hst := stay_side (x := x) (block := block) (k := k) (by omega) hek
         refine T_regionD hc (by kernel_rfl) ?_
         refine ChD.s (.row 5) [] (.pure (.move _ rfl rfl)) ?_
         refine ChD.s (.ptr 13000 3) [] (.pure (.fldPtr _ _ _ rfl fld85_3 rfl)) ?_
         refine ChD.s (.d (.int .i64 ((x.arcs.getD p default).dst))) [13000] (.pure (.loadPtr1 _ _ rfl ag3 rfl rfl rfl)) ?_
         refine ChD.s (.row 5) [] (.pure (.move _ rfl rfl)) ?_
         refine ChD.s (.ptr 13000 0) [] (.pure (.fldPtr _ _ _ rfl fld85_0 rfl)) ?_
         refine ChD.s (.d (.int .i64 ((x.arcs.getD p default).src))) [13000] (.pure (.loadPtr1 _ _ rfl ag3 rfl rfl rfl)) ?_
         refine ChD.s (.el 5 1 ((((x.arcs.getD p default).src)).toNat) 0) [5] (.pure (.idxRow _ _ _ 5 ((((x.arcs.getD p default).src)).toNat) rfl Try.underlying102 sz5 rfl rfl rfl (by omega) (by first | omega | (simp only [List.length_map, List.length_set]; omega) | (simp; omega)))) ?_
         refine ChD.s (.d (.int .u8 (((spTo x block q.1 p).getD ((((x.arcs.getD p default).src)).toNat) default).toNat : Int))) [5] (.pure (.loadEl1 _ _ rfl ag5 rfl rfl get_mapA rfl rfl rfl)) ?_
         refine ChD.s (.el 5 1 ((((x.arcs.getD p default).dst)).toNat) 0) [5] (.pure (.idxRow _ _ _ 5 ((((x.arcs.getD p default).dst)).toNat) rfl Try.underlying102 sz5 rfl rfl rfl (by omega) (by first | omega | (simp only [List.length_map, List.length_set]; omega) | (simp; omega)))) ?_
         refine ChD.s .junk [5] (.storeEl (y' := (.int .u8 (((spTo x block q.1 p).getD ((((x.arcs.getD p default).src)).toNat) default).toNat : Int))) _ _ _ rfl rfl rfl (.d _) rfl sz5 rfl get_mapA rfl rfl) ?_
         refine ChD.s (.d (.bool true)) [] (.pure (.assign _ rfl rfl)) ?_
         refine ChD.nil (And.intro ?_ (by kernel_rfl))
         refine T_region hc ?_
         refine Ch.s (.d (.int .i64 (((p : Nat) : Int) + 1))) (.pure (.int _ _ _ _ _ rfl rfl rfl intV_addA)) ?_
         refine Ch.s (.d (.int .i64 (((p : Nat) : Int) + 1))) (.pure (.move _ rfl rfl)) ?_
         refine Ch.nil ?_
         refine Exists.intro (p + 1) (And.intro (by omega) (And.intro (by first | omega | (dsimp only; omega)) (Wk.of rfl rfl (And.intro rfl (And.intro rfl (And.intro rfl (And.intro (vB (by first | (rw [spTo_zero, decide_eq_false (Nat.lt_irrefl _)]; done) | (exact sp_more hen (by omega) (by first | exact .inl (by assumption) | exact .inr (by assumption)) (by first | exact in_minus (by assumption) | exact in_minus (by omega) | exact in_else (by assumption) (by assumption) | exact in_else (by omega) (by assumption) | exact in_else (by omega) (by first | exact inputB_yes (by omega) (by assumption) | exact inputB_no (by assumption))) (by first | (rw [← hst]; exact decide_eq_true (by assumption)) | (rw [← crossV_zero]; exact decide_eq_true (by assumption))) (by assumption)) | (exact sp_flag (sp_no1 (by omega) (by assumption) (by assumption))) | (exact sp_flag (sp_no2 (by omega) (by first | exact in_minus (by assumption) | exact in_minus (by omega) | exact in_else (by assumption) (by assumption) | exact in_else (by omega) (by assumption) | exact in_else (by omega) (by first | exact inputB_yes (by omega) (by assumption) | exact inputB_no (by assumption))))) | (exact sp_flag (sp_no3 (by omega) (by first | (rw [← hst]; exact decide_eq_false (by assumption)) | (rw [← crossV_zero]; exact decide_eq_false (by assumption))))) | (exact sp_flag (sp_no4 (by omega) (by assumption))))) (And.intro rfl (And.intro rfl (And.intro (vI (by first | rfl | omega | (simp; done) | (simp; omega))) trivial))))))) (And.intro (oR (by first | rfl | (exact sp_yes (by omega) (by first | exact .inl (by assumption) | exact .inr (by assumption)) (by first | exact in_minus (by assumption) | exact in_minus (by omega) | exact in_else (by assumption) (by assumption) | exact in_else (by omega) (by assumption) | exact in_else (by omega) (by first | exact inputB_yes (by omega) (by assumption) | exact inputB_no (by assumption))) (by first | (rw [← hst]; exact decide_eq_true (by assumption)) | (rw [← crossV_zero]; exact decide_eq_true (by assumption)))) | (exact congrArg (List.map _) (sp_no1 (by omega) (by assumption) (by assumption))) | (exact congrArg (List.map _) (sp_no2 (by omega) (by first | exact in_minus (by assumption) | exact in_minus (by omega) | exact in_else (by assumption) (by assumption) | exact in_else (by omega) (by assumption) | exact in_else (by omega) (by first | exact inputB_yes (by omega) (by assumption) | exact inputB_no (by assumption))))) | (exact congrArg (List.map _) (sp_no3 (by omega) (by first | (rw [← hst]; exact decide_eq_false (by assumption)) | (rw [← crossV_zero]; exact decide_eq_false (by assumption))))) | (exact congrArg (List.map _) (sp_no4 (by omega) (by assumption))))) (And.intro rfl trivial)))))
        ·
         replace h15 := notf h15
         replace h15 := of_decide_eq_true h15
         try have hek := hen _ (getD_mem (l := x.arcs) (j := p) (d := default) (by omega))
         try have hsk := (hx.sig _ (getD_mem (l := x.arcs) (j := p) (d := default) (by omega))).1
         try have hss := (hx.sig _ (getD_mem (l := x.arcs) (j := p) (d := default) (by omega))).2
         try have hst := stay_side (x := x) (block := block) (k := k) (by omega) hek
         refine T_skip ?_
         refine T_region hc ?_
         refine Ch.s (.d (.int .i64 (((p : Nat) : Int) + 1))) (.pure (.int _ _ _ _ _ rfl rfl rfl intV_addA)) ?_
         refine Ch.s (.d (.int .i64 (((p : Nat) : Int) + 1))) (.pure (.move _ rfl rfl)) ?_
         refine Ch.nil ?_
         refine Exists.intro (p + 1) (And.intro (by omega) (And.intro (by first | omega | (dsimp only; omega)) (Wk.of rfl rfl (And.intro rfl (And.intro rfl (And.intro rfl (And.intro (vB (by first | (rw [spTo_zero, decide_eq_false (Nat.lt_irrefl _)]; done) | (exact sp_more hen (by omega) (by first | exact .inl (by assumption) | exact .inr (by assumption)) (by first | exact in_minus (by assumption) | exact in_minus (by omega) | exact in_else (by assumption) (by assumption) | exact in_else (by omega) (by assumption) | exact in_else (by omega) (by first | exact inputB_yes (by omega) (by assumption) | exact inputB_no (by assumption))) (by first | (rw [← hst]; exact decide_eq_true (by assumption)) | (rw [← crossV_zero]; exact decide_eq_true (by assumption))) (by assumption)) | (exact sp_flag (sp_no1 (by omega) (by assumption) (by assumption))) | (exact sp_flag (sp_no2 (by omega) (by first | exact in_minus (by assumption) | exact in_minus (by omega) | exact in_else (by assumption) (by assumption) | exact in_else (by omega) (by assumption) | exact in_else (by omega) (by first | exact inputB_yes (by omega) (by assumption) | exact inputB_no (by assumption))))) | (exact sp_flag (sp_no3 (by omega) (by first | (rw [← hst]; exact decide_eq_false (by assumption)) | (rw [← crossV_zero]; exact decide_eq_false (by assumption))))) | (exact sp_flag (sp_no4 (by omega) (by assumption))))) (And.intro rfl (And.intro rfl (And.intro (vI (by first | rfl | omega | (simp; done) | (simp; omega))) trivial))))))) (And.intro (oR (by first | rfl | (exact sp_yes (by omega) (by first | exact .inl (by assumption) | exact .inr (by assumption)) (by first | exact in_minus (by assumption) | exact in_minus (by omega) | exact in_else (by assumption) (by assumption) | exact in_else (by omega) (by assumption) | exact in_else (by omega) (by first | exact inputB_yes (by omega) (by assumption) | exact inputB_no (by assumption))) (by first | (rw [← hst]; exact decide_eq_true (by assumption)) | (rw [← crossV_zero]; exact decide_eq_true (by assumption)))) | (exact congrArg (List.map _) (sp_no1 (by omega) (by assumption) (by assumption))) | (exact congrArg (List.map _) (sp_no2 (by omega) (by first | exact in_minus (by assumption) | exact in_minus (by omega) | exact in_else (by assumption) (by assumption) | exact in_else (by omega) (by assumption) | exact in_else (by omega) (by first | exact inputB_yes (by omega) (by assumption) | exact inputB_no (by assumption))))) | (exact congrArg (List.map _) (sp_no3 (by omega) (by first | (rw [← hst]; exact decide_eq_false (by assumption)) | (rw [← crossV_zero]; exact decide_eq_false (by assumption))))) | (exact congrArg (List.map _) (sp_no4 (by omega) (by assumption))))) (And.intro rfl trivial)))))
       | false =>
        replace h14 := of_decide_eq_false h14
        try have hek := hen _ (getD_mem (l := x.arcs) (j := p) (d := default) (by omega))
        try have hsk := (hx.sig _ (getD_mem (l := x.arcs) (j := p) (d := default) (by omega))).1
        try have hss := (hx.sig _ (getD_mem (l := x.arcs) (j := p) (d := default) (by omega))).2
        try have hst := stay_side (x := x) (block := block) (k := k) (by omega) hek
        refine ChD.skip rfl rfl ?_
        refine ChD.skip rfl rfl ?_
        refine ChD.skip rfl rfl ?_
        refine ChD.skip rfl rfl ?_
        refine ChD.skip rfl rfl ?_
        refine ChD.skip rfl rfl ?_
        refine ChD.skip rfl rfl ?_
        refine ChD.skip rfl rfl ?_
        refine ChD.skip rfl rfl ?_
        refine ChD.skip rfl rfl ?_
        refine ChD.skip rfl rfl ?_
        refine ChD.s (.d (.bool false)) [] (.pure (.pickF _ _ _ rfl rfl rfl)) ?_
        refine ChD.nil (And.intro ?_ (by kernel_rfl))
        refine T_cond (b := false) rfl (fun h => nomatch h) (fun _ => ?_)
        refine T_skip ?_
        refine T_region hc ?_
        refine Ch.s (.d (.int .i64 (((p : Nat) : Int) + 1))) (.pure (.int _ _ _ _ _ rfl rfl rfl intV_addA)) ?_
        refine Ch.s (.d (.int .i64 (((p : Nat) : Int) + 1))) (.pure (.move _ rfl rfl)) ?_
        refine Ch.nil ?_
        refine Exists.intro (p + 1) (And.intro (by omega) (And.intro (by first | omega | (dsimp only; omega)) (Wk.of rfl rfl (And.intro rfl (And.intro rfl (And.intro rfl (And.intro (vB (by first | (rw [spTo_zero, decide_eq_false (Nat.lt_irrefl _)]; done) | (exact sp_more hen (by omega) (by first | exact .inl (by assumption) | exact .inr (by assumption)) (by first | exact in_minus (by assumption) | exact in_minus (by omega) | exact in_else (by assumption) (by assumption) | exact in_else (by omega) (by assumption) | exact in_else (by omega) (by first | exact inputB_yes (by omega) (by assumption) | exact inputB_no (by assumption))) (by first | (rw [← hst]; exact decide_eq_true (by assumption)) | (rw [← crossV_zero]; exact decide_eq_true (by assumption))) (by assumption)) | (exact sp_flag (sp_no1 (by omega) (by assumption) (by assumption))) | (exact sp_flag (sp_no2 (by omega) (by first | exact in_minus (by assumption) | exact in_minus (by omega) | exact in_else (by assumption) (by assumption) | exact in_else (by omega) (by assumption) | exact in_else (by omega) (by first | exact inputB_yes (by omega) (by assumption) | exact inputB_no (by assumption))))) | (exact sp_flag (sp_no3 (by omega) (by first | (rw [← hst]; exact decide_eq_false (by assumption)) | (rw [← crossV_zero]; exact decide_eq_false (by assumption))))) | (exact sp_flag (sp_no4 (by omega) (by assumption))))) (And.intro rfl (And.intro rfl (And.intro (vI (by first | rfl | omega | (simp; done) | (simp; omega))) trivial))))))) (And.intro (oR (by first | rfl | (exact sp_yes (by omega) (by first | exact .inl (by assumption) | exact .inr (by assumption)) (by first | exact in_minus (by assumption) | exact in_minus (by omega) | exact in_else (by assumption) (by assumption) | exact in_else (by omega) (by assumption) | exact in_else (by omega) (by first | exact inputB_yes (by omega) (by assumption) | exact inputB_no (by assumption))) (by first | (rw [← hst]; exact decide_eq_true (by assumption)) | (rw [← crossV_zero]; exact decide_eq_true (by assumption)))) | (exact congrArg (List.map _) (sp_no1 (by omega) (by assumption) (by assumption))) | (exact congrArg (List.map _) (sp_no2 (by omega) (by first | exact in_minus (by assumption) | exact in_minus (by omega) | exact in_else (by assumption) (by assumption) | exact in_else (by omega) (by assumption) | exact in_else (by omega) (by first | exact inputB_yes (by omega) (by assumption) | exact inputB_no (by assumption))))) | (exact congrArg (List.map _) (sp_no3 (by omega) (by first | (rw [← hst]; exact decide_eq_false (by assumption)) | (rw [← crossV_zero]; exact decide_eq_false (by assumption))))) | (exact congrArg (List.map _) (sp_no4 (by omega) (by assumption))))) (And.intro rfl trivial)))))
      | false =>
       replace h13 := of_decide_eq_false h13
       try have hek := hen _ (getD_mem (l := x.arcs) (j := p) (d := default) (by omega))
       try have hsk := (hx.sig _ (getD_mem (l := x.arcs) (j := p) (d := default) (by omega))).1
       try have hss := (hx.sig _ (getD_mem (l := x.arcs) (j := p) (d := default) (by omega))).2
       try have hst := stay_side (x := x) (block := block) (k := k) (by omega) hek
       refine ChD.s (.agg [(.d (.slice false 2 (x.sigs.map Sgn.d))), (.d (.slice false 1 (x.codes.map D.str))), (.d (.slice false 4 (x.arcs.map Arc.d)))]) [2000] (.pure (.loadPtrA _ _ rfl ag34 sz34 rfl rfl (Nat.le_of_ble_eq_true rfl) rfl)) ?_
       refine ChD.s (.ptr 13000 1) [] (.pure (.fldPtr _ _ _ rfl fld85_1 rfl)) ?_
       refine ChD.s (.d (.int .i64 ((x.arcs.getD p default).sig))) [13000] (.pure (.loadPtr1 _ _ rfl ag3 rfl rfl rfl)) ?_
       refine ChD.s (.d (.bool (inputB x ((x.arcs.getD p default).sig)))) [] (.call 106000 127 _ _ _ en127 rfl (.inl rfl) (.cons (.lend (.agg (.cons (.d _) (.cons (.d _) (.cons (.d _) .nil))) rfl)) (.cons (.d _) .nil)) rfl rfl (sp_impl_isInput x ((x.arcs.getD p default).sig) (by first | assumption | omega | (rw [List.length_take]; omega) | (have := bulkF_mem hb _ (getD_mem (d := default) (by omega)); assumption) | (unfold bulkS at *; omega) | (simp_all; done)) (by first | assumption | omega)) (.skip _ _ (.skip _ _ .nil)) rfl) ?_
       refine ChD.s (.d (.bool (inputB x ((x.arcs.getD p default).sig)))) [] (.pure (.pickF _ _ _ rfl rfl rfl)) ?_
       refine ChD.s (.d (.bool (inputB x ((x.arcs.getD p default).sig)))) [] (.pure (.pickT _ _ _ rfl rfl rfl)) ?_
       refine ChD.s (.d (.bool (inputB x ((x.arcs.getD p default).sig)))) [] (.pure (.move _ rfl rfl)) ?_
       cases h16 : (inputB x ((x.arcs.getD p default).sig)) with
       | true =>
        try have hek := hen _ (getD_mem (l := x.arcs) (j := p) (d := default) (by omega))
        try have hsk := (hx.sig _ (getD_mem (l := x.arcs) (j := p) (d := default) (by omega))).1
        try have hss := (hx.sig _ (getD_mem (l := x.arcs) (j := p) (d := default) (by omega))).2
        try have hst := stay_side (x := x) (block := block) (k := k) (by omega) hek
        refine ChD.s (.d (.str (sideTo block k))) [] (.pure (.move _ rfl rfl)) ?_
        refine ChD.s (.ptr 13000 0) [] (.pure (.fldPtr _ _ _ rfl fld85_0 rfl)) ?_
        refine ChD.s (.d (.int .i64 ((x.arcs.getD p default).src))) [13000] (.pure (.loadPtr1 _ _ rfl ag3 rfl rfl rfl)) ?_
        refine ChD.s (.d (.int .u8 (((sideTo block k).getD ((((x.arcs.getD p default).src)).toNat) 0).toNat : Int))) [] (.pure (.idxStr _ _ _ ((((x.arcs.getD p default).src)).toNat) rfl Try.underlying9 rfl rfl (by omega) get_strA)) ?_
        refine ChD.s (.d (.str (sideTo block k))) [] (.pure (.move _ rfl rfl)) ?_
        refine ChD.s (.ptr 13000 3) [] (.pure (.fldPtr _ _ _ rfl fld85_3 rfl)) ?_
        refine ChD.s (.d (.int .i64 ((x.arcs.getD p default).dst))) [13000] (.pure (.loadPtr1 _ _ rfl ag3 rfl rfl rfl)) ?_
        refine ChD.s (.d (.int .u8 (((sideTo block k).getD ((((x.arcs.getD p default).dst)).toNat) 0).toNat : Int))) [] (.pure (.idxStr _ _ _ ((((x.arcs.getD p default).dst)).toNat) rfl Try.underlying9 rfl rfl (by omega) get_strA)) ?_
        refine ChD.s (.d (.bool (decide ((((sideTo block k).getD ((((x.arcs.getD p default).src)).toNat) 0) : UInt8) = ((sideTo block k).getD ((((x.arcs.getD p default).dst)).toNat) 0))))) [] (.pure (.int _ _ _ _ _ rfl rfl rfl (u8_eql (((sideTo block k).getD ((((x.arcs.getD p default).src)).toNat) 0) : UInt8) ((sideTo block k).getD ((((x.arcs.getD p default).dst)).toNat) 0) rfl rfl))) ?_
        refine ChD.s (.d (.bool (decide ((((sideTo block k).getD ((((x.arcs.getD p default).src)).toNat) 0) : UInt8) = ((sideTo block k).getD ((((x.arcs.getD p default).dst)).toNat) 0))))) [] (.pure (.pickT _ _ _ rfl rfl rfl)) ?_
        refine ChD.s (.d (.bool (decide ((((sideTo block k).getD ((((x.arcs.getD p default).src)).toNat) 0) : UInt8) = ((sideTo block k).getD ((((x.arcs.getD p default).dst)).toNat) 0))))) [] (.pure (.move _ rfl rfl)) ?_
        cases h17 : (decide ((((sideTo block k).getD ((((x.arcs.getD p default).src)).toNat) 0) : UInt8) = ((sideTo block k).getD ((((x.arcs.getD p default).dst)).toNat) 0))) with
        | true =>
         replace h17 := of_decide_eq_true h17
         try have hek := hen _ (getD_mem (l := x.arcs) (j := p) (d := default) (by omega))
         try have hsk := (hx.sig _ (getD_mem (l := x.arcs) (j := p) (d := default) (by omega))).1
         try have hss := (hx.sig _ (getD_mem (l := x.arcs) (j := p) (d := default) (by omega))).2
         try have hst := stay_side (x := x) (block := block) (k := k) (by omega) hek
         refine ChD.s (.row 5) [] (.pure (.move _ rfl rfl)) ?_
         refine ChD.s (.ptr 13000 3) [] (.pure (.fldPtr _ _ _ rfl fld85_3 rfl)) ?_
         refine ChD.s (.d (.int .i64 ((x.arcs.getD p default).dst))) [13000] (.pure (.loadPtr1 _ _ rfl ag3 rfl rfl rfl)) ?_
         refine ChD.s (.el 5 1 ((((x.arcs.getD p default).dst)).toNat) 0) [5] (.pure (.idxRow _ _ _ 5 ((((x.arcs.getD p default).dst)).toNat) rfl Try.underlying102 sz5 rfl rfl rfl (by omega) (by first | omega | (simp only [List.length_map, List.length_set]; omega) | (simp; omega)))) ?_
         refine ChD.s (.d (.int .u8 (((spTo x block q.1 p).getD ((((x.arcs.getD p default).dst)).toNat) default).toNat : Int))) [5] (.pure (.loadEl1 _ _ rfl ag5 rfl rfl get_mapA rfl rfl rfl)) ?_
         refine ChD.s (.row 5) [] (.pure (.move _ rfl rfl)) ?_
         refine ChD.s (.ptr 13000 0) [] (.pure (.fldPtr _ _ _ rfl fld85_0 rfl)) ?_
         refine ChD.s (.d (.int .i64 ((x.arcs.getD p default).src))) [13000] (.pure (.loadPtr1 _ _ rfl ag3 rfl rfl rfl)) ?_
         refine ChD.s (.el 5 1 ((((x.arcs.getD p default).src)).toNat) 0) [5] (.pure (.idxRow _ _ _ 5 ((((x.arcs.getD p default).src)).toNat) rfl Try.underlying102 sz5 rfl rfl rfl (by omega) (by first | omega | (simp only [List.length_map, List.length_set]; omega) | (simp; omega)))) ?_
         refine ChD.s (.d (.int .u8 (((spTo x block q.1 p).getD ((((x.arcs.getD p default).src)).toNat) default).toNat : Int))) [5] (.pure (.loadEl1 _ _ rfl ag5 rfl rfl get_mapA rfl rfl rfl)) ?_
         refine ChD.s (.d (.bool (!(decide ((((spTo x block q.1 p).getD ((((x.arcs.getD p default).dst)).toNat) default) : UInt8) = ((spTo x block q.1 p).getD ((((x.arcs.getD p default).src)).toNat) default)))))) [] (.pure (.int _ _ _ _ _ rfl rfl rfl (u8_neq (((spTo x block q.1 p).getD ((((x.arcs.getD p default).dst)).toNat) default) : UInt8) ((spTo x block q.1 p).getD ((((x.arcs.getD p default).src)).toNat) default) rfl rfl))) ?_
         refine ChD.s (.d (.bool (!(decide ((((spTo x block q.1 p).getD ((((x.arcs.getD p default).dst)).toNat) default) : UInt8) = ((spTo x block q.1 p).getD ((((x.arcs.getD p default).src)).toNat) default)))))) [] (.pure (.pickT _ _ _ rfl rfl rfl)) ?_
         refine ChD.nil (And.intro ?_ (by kernel_rfl))
         refine T_cond (b := (!(decide ((((spTo x block q.1 p).getD ((((x.arcs.getD p default).dst)).toNat) default) : UInt8) = ((spTo x block q.1 p).getD ((((x.arcs.getD p default).src)).toNat) default))))) rfl (fun h18 => ?_) (fun h18 => ?_)
         ·
          replace h18 := nott h18
          replace h18 := of_decide_eq_false h18
          try have hek := hen _ (getD_mem (l := x.arcs) (j := p) (d := default) (by omega))
          try have hsk := (hx.sig _ (getD_mem (l := x.arcs) (j := p) (d := default) (by omega))).1
          try have hss := (hx.sig _ (getD_mem (l := x.arcs) (j := p) (d := default) (by omega))).2
          try have hst := stay_side (x := x) (block := block) (k := k) (by omega) hek
          refine T_regionD hc (by kernel_rfl) ?_
          refine ChD.s (.row 5) [] (.pure (.move _ rfl rfl)) ?_
          refine ChD.s (.ptr 13000 3) [] (.pure (.fldPtr _ _ _ rfl fld85_3 rfl)) ?_
          refine ChD.s (.d (.int .i64 ((x.arcs.getD p default).dst))) [13000] (.pure (.loadPtr1 _ _ rfl ag3 rfl rfl rfl)) ?_
          refine ChD.s (.row 5) [] (.pure (.move _ rfl rfl)) ?_
          refine ChD.s (.ptr 13000 0) [] (.pure (.fldPtr _ _ _ rfl fld85_0 rfl)) ?_
          refine ChD.s (.d (.int .i64 ((x.arcs.getD p default).src))) [13000] (.pure (.loadPtr1 _ _ rfl ag3 rfl rfl rfl)) ?_
          refine ChD.s (.el 5 1 ((((x.arcs.getD p default).src)).toNat) 0) [5] (.pure (.idxRow _ _ _ 5 ((((x.arcs.getD p default).src)).toNat) rfl Try.underlying102 sz5 rfl rfl rfl (by omega) (by first | omega | (simp only [List.length_map, List.length_set]; omega) | (simp; omega)))) ?_
          refine ChD.s (.d (.int .u8 (((spTo x block q.1 p).getD ((((x.arcs.getD p default).src)).toNat) default).toNat : Int))) [5] (.pure (.loadEl1 _ _ rfl ag5 rfl rfl get_mapA rfl rfl rfl)) ?_
          refine ChD.s (.el 5 1 ((((x.arcs.getD p default).dst)).toNat) 0) [5] (.pure (.idxRow _ _ _ 5 ((((x.arcs.getD p default).dst)).toNat) rfl Try.underlying102 sz5 rfl rfl rfl (by omega) (by first | omega | (simp only [List.length_map, List.length_set]; omega) | (simp; omega)))) ?_
          refine ChD.s .junk [5] (.storeEl (y' := (.int .u8 (((spTo x block q.1 p).getD ((((x.arcs.getD p default).src)).toNat) default).toNat : Int))) _ _ _ rfl rfl rfl (.d _) rfl sz5 rfl get_mapA rfl rfl) ?_
          refine ChD.s (.d (.bool true)) [] (.pure (.assign _ rfl rfl)) ?_
          refine ChD.nil (And.intro ?_ (by kernel_rfl))
          refine T_region hc ?_
          refine Ch.s (.d (.int .i64 (((p : Nat) : Int) + 1))) (.pure (.int _ _ _ _ _ rfl rfl rfl intV_addA)) ?_
          refine Ch.s (.d (.int .i64 (((p : Nat) : Int) + 1))) (.pure (.move _ rfl rfl)) ?_
          refine Ch.nil ?_
          refine Exists.intro (p + 1) (And.intro (by omega) (And.intro (by first | omega | (dsimp only; omega)) (Wk.of rfl rfl (And.intro rfl (And.intro rfl (And.intro rfl (And.intro (vB (by first | (rw [spTo_zero, decide_eq_false (Nat.lt_irrefl _)]; done) | (exact sp_more hen (by omega) (by first | exact .inl (by assumption) | exact .inr (by assumption)) (by first | exact in_minus (by assumption) | exact in_minus (by omega) | exact in_else (by assumption) (by assumption) | exact in_else (by omega) (by assumption) | exact in_else (by omega) (by first | exact inputB_yes (by omega) (by assumption) | exact inputB_no (by assumption))) (by first | (rw [← hst]; exact decide_eq_true (by assumption)) | (rw [← crossV_zero]; exact decide_eq_true (by assumption))) (by assumption)) | (exact sp_flag (sp_no1 (by omega) (by assumption) (by assumption))) | (exact sp_flag (sp_no2 (by omega) (by first | exact in_minus (by assumption) | exact in_minus (by omega) | exact in_else (by assumption) (by assumption) | exact in_else (by omega) (by assumption) | exact in_else (by omega) (by first | exact inputB_yes (by omega) (by assumption) | exact inputB_no (by assumption))))) | (exact sp_flag (sp_no3 (by omega) (by first | (rw [← hst]; exact decide_eq_false (by assumption)) | (rw [← crossV_zero]; exact decide_eq_false (by assumption))))) | (exact sp_flag (sp_no4 (by omega) (by assumption))))) (And.intro rfl (And.intro rfl (And.intro (vI (by first | rfl | omega | (simp; done) | (simp; omega))) trivial))))))) (And.intro (oR (by first | rfl | (exact sp_yes (by omega) (by first | exact .inl (by assumption) | exact .inr (by assumption)) (by first | exact in_minus (by assumption) | exact in_minus (by omega) | exact in_else (by assumption) (by assumption) | exact in_else (by omega) (by assumption) | exact in_else (by omega) (by first | exact inputB_yes (by omega) (by assumption) | exact inputB_no (by assumption))) (by first | (rw [← hst]; exact decide_eq_true (by assumption)) | (rw [← crossV_zero]; exact decide_eq_true (by assumption)))) | (exact congrArg (List.map _) (sp_no1 (by omega) (by assumption) (by assumption))) | (exact congrArg (List.map _) (sp_no2 (by omega) (by first | exact in_minus (by assumption) | exact in_minus (by omega) | exact in_else (by assumption) (by assumption) | exact in_else (by omega) (by assumption) | exact in_else (by omega) (by first | exact inputB_yes (by omega) (by assumption) | exact inputB_no (by assumption))))) | (exact congrArg (List.map _) (sp_no3 (by omega) (by first | (rw [← hst]; exact decide_eq_false (by assumption)) | (rw [← crossV_zero]; exact decide_eq_false (by assumption))))) | (exact congrArg (List.map _) (sp_no4 (by omega) (by assumption))))) (And.intro rfl trivial)))))
         ·
          replace h18 := notf h18
          replace h18 := of_decide_eq_true h18
          try have hek := hen _ (getD_mem (l := x.arcs) (j := p) (d := default) (by omega))
          try have hsk := (hx.sig _ (getD_mem (l := x.arcs) (j := p) (d := default) (by omega))).1
          try have hss := (hx.sig _ (getD_mem (l := x.arcs) (j := p) (d := default) (by omega))).2
          try have hst := stay_side (x := x) (block := block) (k := k) (by omega) hek
          refine T_skip ?_
          refine T_region hc ?_
          refine Ch.s (.d (.int .i64 (((p : Nat) : Int) + 1))) (.pure (.int _ _ _ _ _ rfl rfl rfl intV_addA)) ?_
          refine Ch.s (.d (.int .i64 (((p : Nat) : Int) + 1))) (.pure (.move _ rfl rfl)) ?_
          refine Ch.nil ?_
          refine Exists.intro (p + 1) (And.intro (by omega) (And.intro (by first | omega | (dsimp only; omega)) (Wk.of rfl rfl (And.intro rfl (And.intro rfl (And.intro rfl (And.intro (vB (by first | (rw [spTo_zero, decide_eq_false (Nat.lt_irrefl _)]; done) | (exact sp_more hen (by omega) (by first | exact .inl (by assumption) | exact .inr (by assumption)) (by first | exact in_minus (by assumption) | exact in_minus (by omega) | exact in_else (by assumption) (by assumption) | exact in_else (by omega) (by assumption) | exact in_else (by omega) (by first | exact inputB_yes (by omega) (by assumption) | exact inputB_no (by assumption))) (by first | (rw [← hst]; exact decide_eq_true (by assumption)) | (rw [← crossV_zero]; exact decide_eq_true (by assumption))) (by assumption)) | (exact sp_flag (sp_no1 (by omega) (by assumption) (by assumption))) | (exact sp_flag (sp_no2 (by omega) (by first | exact in_minus (by assumption) | exact in_minus (by omega) | exact in_else (by assumption) (by assumption) | exact in_else (by omega) (by assumption) | exact in_else (by omega) (by first | exact inputB_yes (by omega) (by assumption) | exact inputB_no (by assumption))))) | (exact sp_flag (sp_no3 (by omega) (by first | (rw [← hst]; exact decide_eq_false (by assumption)) | (rw [← crossV_zero]; exact decide_eq_false (by assumption))))) | (exact sp_flag (sp_no4 (by omega) (by assumption))))) (And.intro rfl (And.intro rfl (And.intro (vI (by first | rfl | omega | (simp; done) | (simp; omega))) trivial))))))) (And.intro (oR (by first | rfl | (exact sp_yes (by omega) (by first | exact .inl (by assumption) | exact .inr (by assumption)) (by first | exact in_minus (by assumption) | exact in_minus (by omega) | exact in_else (by assumption) (by assumption) | exact in_else (by omega) (by assumption) | exact in_else (by omega) (by first | exact inputB_yes (by omega) (by assumption) | exact inputB_no (by assumption))) (by first | (rw [← hst]; exact decide_eq_true (by assumption)) | (rw [← crossV_zero]; exact decide_eq_true (by assumption)))) | (exact congrArg (List.map _) (sp_no1 (by omega) (by assumption) (by assumption))) | (exact congrArg (List.map _) (sp_no2 (by omega) (by first | exact in_minus (by assumption) | exact in_minus (by omega) | exact in_else (by assumption) (by assumption) | exact in_else (by omega) (by assumption) | exact in_else (by omega) (by first | exact inputB_yes (by omega) (by assumption) | exact inputB_no (by assumption))))) | (exact congrArg (List.map _) (sp_no3 (by omega) (by first | (rw [← hst]; exact decide_eq_false (by assumption)) | (rw [← crossV_zero]; exact decide_eq_false (by assumption))))) | (exact congrArg (List.map _) (sp_no4 (by omega) (by assumption))))) (And.intro rfl trivial)))))
        | false =>
         replace h17 := of_decide_eq_false h17
         try have hek := hen _ (getD_mem (l := x.arcs) (j := p) (d := default) (by omega))
         try have hsk := (hx.sig _ (getD_mem (l := x.arcs) (j := p) (d := default) (by omega))).1
         try have hss := (hx.sig _ (getD_mem (l := x.arcs) (j := p) (d := default) (by omega))).2
         try have hst := stay_side (x := x) (block := block) (k := k) (by omega) hek
         refine ChD.skip rfl rfl ?_
         refine ChD.skip rfl rfl ?_
         refine ChD.skip rfl rfl ?_
         refine ChD.skip rfl rfl ?_
         refine ChD.skip rfl rfl ?_
         refine ChD.skip rfl rfl ?_
         refine ChD.skip rfl rfl ?_
         refine ChD.skip rfl rfl ?_
         refine ChD.skip rfl rfl ?_
         refine ChD.skip rfl rfl ?_
         refine ChD.skip rfl rfl ?_
         refine ChD.s (.d (.bool false)) [] (.pure (.pickF _ _ _ rfl rfl rfl)) ?_
         refine ChD.nil (And.intro ?_ (by kernel_rfl))
         refine T_cond (b := false) rfl (fun h => nomatch h) (fun _ => ?_)
         refine T_skip ?_
         refine T_region hc ?_
         refine Ch.s (.d (.int .i64 (((p : Nat) : Int) + 1))) (.pure (.int _ _ _ _ _ rfl rfl rfl intV_addA)) ?_
         refine Ch.s (.d (.int .i64 (((p : Nat) : Int) + 1))) (.pure (.move _ rfl rfl)) ?_
         refine Ch.nil ?_
         refine Exists.intro (p + 1) (And.intro (by omega) (And.intro (by first | omega | (dsimp only; omega)) (Wk.of rfl rfl (And.intro rfl (And.intro rfl (And.intro rfl (And.intro (vB (by first | (rw [spTo_zero, decide_eq_false (Nat.lt_irrefl _)]; done) | (exact sp_more hen (by omega) (by first | exact .inl (by assumption) | exact .inr (by assumption)) (by first | exact in_minus (by assumption) | exact in_minus (by omega) | exact in_else (by assumption) (by assumption) | exact in_else (by omega) (by assumption) | exact in_else (by omega) (by first | exact inputB_yes (by omega) (by assumption) | exact inputB_no (by assumption))) (by first | (rw [← hst]; exact decide_eq_true (by assumption)) | (rw [← crossV_zero]; exact decide_eq_true (by assumption))) (by assumption)) | (exact sp_flag (sp_no1 (by omega) (by assumption) (by assumption))) | (exact sp_flag (sp_no2 (by omega) (by first | exact in_minus (by assumption) | exact in_minus (by omega) | exact in_else (by assumption) (by assumption) | exact in_else (by omega) (by assumption) | exact in_else (by omega) (by first | exact inputB_yes (by omega) (by assumption) | exact inputB_no (by assumption))))) | (exact sp_flag (sp_no3 (by omega) (by first | (rw [← hst]; exact decide_eq_false (by assumption)) | (rw [← crossV_zero]; exact decide_eq_false (by assumption))))) | (exact sp_flag (sp_no4 (by omega) (by assumption))))) (And.intro rfl (And.intro rfl (And.intro (vI (by first | rfl | omega | (simp; done) | (simp; omega))) trivial))))))) (And.intro (oR (by first | rfl | (exact sp_yes (by omega) (by first | exact .inl (by assumption) | exact .inr (by assumption)) (by first | exact in_minus (by assumption) | exact in_minus (by omega) | exact in_else (by assumption) (by assumption) | exact in_else (by omega) (by assumption) | exact in_else (by omega) (by first | exact inputB_yes (by omega) (by assumption) | exact inputB_no (by assumption))) (by first | (rw [← hst]; exact decide_eq_true (by assumption)) | (rw [← crossV_zero]; exact decide_eq_true (by assumption)))) | (exact congrArg (List.map _) (sp_no1 (by omega) (by assumption) (by assumption))) | (exact congrArg (List.map _) (sp_no2 (by omega) (by first | exact in_minus (by assumption) | exact in_minus (by omega) | exact in_else (by assumption) (by assumption) | exact in_else (by omega) (by assumption) | exact in_else (by omega) (by first | exact inputB_yes (by omega) (by assumption) | exact inputB_no (by assumption))))) | (exact congrArg (List.map _) (sp_no3 (by omega) (by first | (rw [← hst]; exact decide_eq_false (by assumption)) | (rw [← crossV_zero]; exact decide_eq_false (by assumption))))) | (exact congrArg (List.map _) (sp_no4 (by omega) (by assumption))))) (And.intro rfl trivial)))))
       | false =>
        try have hek := hen _ (getD_mem (l := x.arcs) (j := p) (d := default) (by omega))
        try have hsk := (hx.sig _ (getD_mem (l := x.arcs) (j := p) (d := default) (by omega))).1
        try have hss := (hx.sig _ (getD_mem (l := x.arcs) (j := p) (d := default) (by omega))).2
        try have hst := stay_side (x := x) (block := block) (k := k) (by omega) hek
        refine ChD.skip rfl rfl ?_
        refine ChD.skip rfl rfl ?_
        refine ChD.skip rfl rfl ?_
        refine ChD.skip rfl rfl ?_
        refine ChD.skip rfl rfl ?_
        refine ChD.skip rfl rfl ?_
        refine ChD.skip rfl rfl ?_
        refine ChD.skip rfl rfl ?_
        refine ChD.skip rfl rfl ?_
        refine ChD.s (.d (.bool false)) [] (.pure (.pickF _ _ _ rfl rfl rfl)) ?_
        refine ChD.s (.d (.bool false)) [] (.pure (.move _ rfl rfl)) ?_
        refine ChD.skip rfl rfl ?_
        refine ChD.skip rfl rfl ?_
        refine ChD.skip rfl rfl ?_
        refine ChD.skip rfl rfl ?_
        refine ChD.skip rfl rfl ?_
        refine ChD.skip rfl rfl ?_
        refine ChD.skip rfl rfl ?_
        refine ChD.skip rfl rfl ?_
        refine ChD.skip rfl rfl ?_
        refine ChD.skip rfl rfl ?_
        refine ChD.skip rfl rfl ?_
        refine ChD.s (.d (.bool false)) [] (.pure (.pickF _ _ _ rfl rfl rfl)) ?_
        refine ChD.nil (And.intro ?_ (by kernel_rfl))
        refine T_cond (b := false) rfl (fun h => nomatch h) (fun _ => ?_)
        refine T_skip ?_
        refine T_region hc ?_
        refine Ch.s (.d (.int .i64 (((p : Nat) : Int) + 1))) (.pure (.int _ _ _ _ _ rfl rfl rfl intV_addA)) ?_
        refine Ch.s (.d (.int .i64 (((p : Nat) : Int) + 1))) (.pure (.move _ rfl rfl)) ?_
        refine Ch.nil ?_
        refine Exists.intro (p + 1) (And.intro (by omega) (And.intro (by first | omega | (dsimp only; omega)) (Wk.of rfl rfl (And.intro rfl (And.intro rfl (And.intro rfl (And.intro (vB (by first | (rw [spTo_zero, decide_eq_false (Nat.lt_irrefl _)]; done) | (exact sp_more hen (by omega) (by first | exact .inl (by assumption) | exact .inr (by assumption)) (by first | exact in_minus (by assumption) | exact in_minus (by omega) | exact in_else (by assumption) (by assumption) | exact in_else (by omega) (by assumption) | exact in_else (by omega) (by first | exact inputB_yes (by omega) (by assumption) | exact inputB_no (by assumption))) (by first | (rw [← hst]; exact decide_eq_true (by assumption)) | (rw [← crossV_zero]; exact decide_eq_true (by assumption))) (by assumption)) | (exact sp_flag (sp_no1 (by omega) (by assumption) (by assumption))) | (exact sp_flag (sp_no2 (by omega) (by first | exact in_minus (by assumption) | exact in_minus (by omega) | exact in_else (by assumption) (by assumption) | exact in_else (by omega) (by assumption) | exact in_else (by omega) (by first | exact inputB_yes (by omega) (by assumption) | exact inputB_no (by assumption))))) | (exact sp_flag (sp_no3 (by omega) (by first | (rw [← hst]; exact decide_eq_false (by assumption)) | (rw [← crossV_zero]; exact decide_eq_false (by assumption))))) | (exact sp_flag (sp_no4 (by omega) (by assumption))))) (And.intro rfl (And.intro rfl (And.intro (vI (by first | rfl | omega | (simp; done) | (simp; omega))) trivial))))))) (And.intro (oR (by first | rfl | (exact sp_yes (by omega) (by first | exact .inl (by assumption) | exact .inr (by assumption)) (by first | exact in_minus (by assumption) | exact in_minus (by omega) | exact in_else (by assumption) (by assumption) | exact in_else (by omega) (by assumption) | exact in_else (by omega) (by first | exact inputB_yes (by omega) (by assumption) | exact inputB_no (by assumption))) (by first | (rw [← hst]; exact decide_eq_true (by assumption)) | (rw [← crossV_zero]; exact decide_eq_true (by assumption)))) | (exact congrArg (List.map _) (sp_no1 (by omega) (by assumption) (by assumption))) | (exact congrArg (List.map _) (sp_no2 (by omega) (by first | exact in_minus (by assumption) | exact in_minus (by omega) | exact in_else (by assumption) (by assumption) | exact in_else (by omega) (by assumption) | exact in_else (by omega) (by first | exact inputB_yes (by omega) (by assumption) | exact inputB_no (by assumption))))) | (exact congrArg (List.map _) (sp_no3 (by omega) (by first | (rw [← hst]; exact decide_eq_false (by assumption)) | (rw [← crossV_zero]; exact decide_eq_false (by assumption))))) | (exact congrArg (List.map _) (sp_no4 (by omega) (by assumption))))) (And.intro rfl trivial)))))
     | false =>
      replace h12 := of_decide_eq_false h12
      try have hek := hen _ (getD_mem (l := x.arcs) (j := p) (d := default) (by omega))
      try have hsk := (hx.sig _ (getD_mem (l := x.arcs) (j := p) (d := default) (by omega))).1
      try have hss := (hx.sig _ (getD_mem (l := x.arcs) (j := p) (d := default) (by omega))).2
      try have hst := stay_side (x := x) (block := block) (k := k) (by omega) hek
      refine Ch.s (.row 5) (.pure (.move _ rfl rfl)) ?_
      refine Ch.s (.ptr 13000 0) (.pure (.fldPtr _ _ _ rfl fld85_0 rfl)) ?_
      refine Ch.s (.d (.int .i64 ((x.arcs.getD p default).src))) (.pure (.loadPtr1 _ _ rfl ag3 rfl rfl rfl)) ?_
      refine Ch.s (.el 5 1 ((((x.arcs.getD p default).src)).toNat) 0) (.pure (.idxRow _ _ _ 5 ((((x.arcs.getD p default).src)).toNat) rfl Try.underlying102 sz5 rfl rfl rfl (by omega) (by first | omega | (simp only [List.length_map, List.length_set]; omega) | (simp; omega)))) ?_
      refine Ch.s (.d (.int .u8 (((spTo x block q.1 p).getD ((((x.arcs.getD p default).src)).toNat) default).toNat : Int))) (.pure (.loadEl1 _ _ rfl ag5 rfl rfl get_mapA rfl rfl rfl)) ?_
      refine Ch.s (.d (.bool (decide ((((spTo x block q.1 p).getD ((((x.arcs.getD p default).src)).toNat) default) : UInt8) = 45)))) (.pure (.int _ _ _ _ _ rfl rfl rfl (u8_eql (((spTo x block q.1 p).getD ((((x.arcs.getD p default).src)).toNat) default) : UInt8) 45 rfl rfl))) ?_
      refine Ch.s (.d (.bool (decide ((((spTo x block q.1 p).getD ((((x.arcs.getD p default).src)).toNat) default) : UInt8) = 45)))) (.pure (.pickF _ _ _ rfl rfl rfl)) ?_
      refine Ch.s (.d (.bool (decide ((((spTo x block q.1 p).getD ((((x.arcs.getD p default).src)).toNat) default) : UInt8) = 45)))) (.pure (.assign _ rfl rfl)) ?_
      refine Ch.nil ?_
      refine T_seq ?_
      refine T_regionD hc (by kernel_rfl) ?_
      refine ChD.s (.d (.bool (decide ((((spTo x block q.1 p).getD ((((x.arcs.getD p default).src)).toNat) default) : UInt8) = 45)))) [] (.pure (.move _ rfl rfl)) ?_
      refine ChD.s (.d (.bool (decide ((((spTo x block q.1 p).getD ((((x.arcs.getD p default).src)).toNat) default) : UInt8) = 45)))) [] (.pure (.move _ rfl rfl)) ?_
      cases h19 : (decide ((((spTo x block q.1 p).getD ((((x.arcs.getD p default).src)).toNat) default) : UInt8) = 45)) with
      | true =>
       replace h19 := of_decide_eq_true h19
       try have hek := hen _ (getD_mem (l := x.arcs) (j := p) (d := default) (by omega))
       try have hsk := (hx.sig _ (getD_mem (l := x.arcs) (j := p) (d := default) (by omega))).1
       try have hss := (hx.sig _ (getD_mem (l := x.arcs) (j := p) (d := default) (by omega))).2
       try have hst := stay_side (x := x) (block := block) (k := k) (by omega) hek
       refine ChD.s (.ptr 13000 1) [] (.pure (.fldPtr _ _ _ rfl fld85_1 rfl)) ?_
       refine ChD.s (.d (.int .i64 ((x.arcs.getD p default).sig))) [13000] (.pure (.loadPtr1 _ _ rfl ag3 rfl rfl rfl)) ?_
       refine ChD.s (.d (.bool (decide (((x.arcs.getD p default).sig) = (-1))))) [] (.pure (.int _ _ _ _ _ rfl rfl rfl rfl)) ?_
       refine ChD.s (.d (.bool (decide (((x.arcs.getD p default).sig) = (-1))))) [] (.pure (.move _ rfl rfl)) ?_
       cases h20 : (decide (((x.arcs.getD p default).sig) = (-1))) with
       | true =>
        replace h20 := of_decide_eq_true h20
        refine ChD.skip rfl rfl ?_
        refine ChD.skip rfl rfl ?_
        refine ChD.skip rfl rfl ?_
        refine ChD.skip rfl rfl ?_
        refine ChD.s (.d (.bool true)) [] (.pure (.pickT _ _ _ rfl rfl rfl)) ?_
        refine ChD.s (.d (.bool true)) [] (.pure (.pickT _ _ _ rfl rfl rfl)) ?_
        refine ChD.s (.d (.bool true)) [] (.pure (.move _ rfl rfl)) ?_
        refine ChD.s (.d (.str (sideTo block k))) [] (.pure (.move _ rfl rfl)) ?_
        refine ChD.s (.ptr 13000 0) [] (.pure (.fldPtr _ _ _ rfl fld85_0 rfl)) ?_
        refine ChD.s (.d (.int .i64 ((x.arcs.getD p default).src))) [13000] (.pure (.loadPtr1 _ _ rfl ag3 rfl rfl rfl)) ?_
        refine ChD.s (.d (.int .u8 (((sideTo block k).getD ((((x.arcs.getD p default).src)).toNat) 0).toNat : Int))) [] (.pure (.idxStr _ _ _ ((((x.arcs.getD p default).src)).toNat) rfl Try.underlying9 rfl rfl (by omega) get_strA)) ?_
        refine ChD.s (.d (.str (sideTo block k))) [] (.pure (.move _ rfl rfl)) ?_
        refine ChD.s (.ptr 13000 3) [] (.pure (.fldPtr _ _ _ rfl fld85_3 rfl)) ?_
        refine ChD.s (.d (.int .i64 ((x.arcs.getD p default).dst))) [13000] (.pure (.loadPtr1 _ _ rfl ag3 rfl rfl rfl)) ?_
        refine ChD.s (.d (.int .u8 (((sideTo block k).getD ((((x.arcs.getD p default).dst)).toNat) 0).toNat : Int))) [] (.pure (.idxStr _ _ _ ((((x.arcs.getD p default).dst)).toNat) rfl Try.underlying9 rfl rfl (by omega) get_strA)) ?_
        refine ChD.s (.d (.bool (decide ((((sideTo block k).getD ((((x.arcs.getD p default).src)).toNat) 0) : UInt8) = ((sideTo block k).getD ((((x.arcs.getD p default).dst)).toNat) 0))))) [] (.pure (.int _ _ _ _ _ rfl rfl rfl (u8_eql (((sideTo block k).getD ((((x.arcs.getD p default).src)).toNat) 0) : UInt8) ((sideTo block k).getD ((((x.arcs.getD p default).dst)).toNat) 0) rfl rfl))) ?_
        refine ChD.s (.d (.bool (decide ((((sideTo block k).getD ((((x.arcs.getD p default).src)).toNat) 0) : UInt8) = ((sideTo block k).getD ((((x.arcs.getD p default).dst)).toNat) 0))))) [] (.pure (.pickT _ _ _ rfl rfl rfl)) ?_
        refine ChD.s (.d (.bool (decide ((((sideTo block k).getD ((((x.arcs.getD p default).src)).toNat) 0) : UInt8) = ((sideTo block k).getD ((((x.arcs.getD p default).dst)).toNat) 0))))) [] (.pure (.move _ rfl rfl)) ?_
        cases h21 : (decide ((((sideTo block k).getD ((((x.arcs.getD p default).src)).toNat) 0) : UInt8) = ((sideTo block k).getD ((((x.arcs.getD p default).dst)).toNat) 0))) with
        | true =>
         replace h21 := of_decide_eq_true h21
         refine ChD.s (.row 5) [] (.pure (.move _ rfl rfl)) ?_
         refine ChD.s (.ptr 13000 3) [] (.pure (.fldPtr _ _ _ rfl fld85_3 rfl)) ?_
         refine ChD.s (.d (.int .i64 ((x.arcs.getD p default).dst))) [13000] (.pure (.loadPtr1 _ _ rfl ag3 rfl rfl rfl)) ?_
         refine ChD.s (.el 5 1 ((((x.arcs.getD p default).dst)).toNat) 0) [5] (.pure (.idxRow _ _ _ 5 ((((x.arcs.getD p default).dst)).toNat) rfl Try.underlying102 sz5 rfl rfl rfl (by omega) (by first | omega | (simp only [List.length_map, List.length_set]; omega) | (simp; omega)))) ?_
         refine ChD.s (.d (.int .u8 (((spTo x block q.1 p).getD ((((x.arcs.getD p default).dst)).toNat) default).toNat : Int))) [5] (.pure (.loadEl1 _ _ rfl ag5 rfl rfl get_mapA rfl rfl rfl)) ?_
         refine ChD.s (.row 5) [] (.pure (.move _ rfl rfl)) ?_
         refine ChD.s (.ptr 13000 0) [] (.pure (.fldPtr _ _ _ rfl fld85_0 rfl)) ?_
         refine ChD.s (.d (.int .i64 ((x.arcs.getD p default).src))) [13000] (.pure (.loadPtr1 _ _ rfl ag3 rfl rfl rfl)) ?_
         refine ChD.s (.el 5 1 ((((x.arcs.getD p default).src)).toNat) 0) [5] (.pure (.idxRow _ _ _ 5 ((((x.arcs.getD p default).src)).toNat) rfl Try.underlying102 sz5 rfl rfl rfl (by omega) (by first | omega | (simp only [List.length_map, List.length_set]; omega) | (simp; omega)))) ?_
         refine ChD.s (.d (.int .u8 (((spTo x block q.1 p).getD ((((x.arcs.getD p default).src)).toNat) default).toNat : Int))) [5] (.pure (.loadEl1 _ _ rfl ag5 rfl rfl get_mapA rfl rfl rfl)) ?_
         refine ChD.s (.d (.bool (!(decide ((((spTo x block q.1 p).getD ((((x.arcs.getD p default).dst)).toNat) default) : UInt8) = ((spTo x block q.1 p).getD ((((x.arcs.getD p default).src)).toNat) default)))))) [] (.pure (.int _ _ _ _ _ rfl rfl rfl (u8_neq (((spTo x block q.1 p).getD ((((x.arcs.getD p default).dst)).toNat) default) : UInt8) ((spTo x block q.1 p).getD ((((x.arcs.getD p default).src)).toNat) default) rfl rfl))) ?_
         refine ChD.s (.d (.bool (!(decide ((((spTo x block q.1 p).getD ((((x.arcs.getD p default).dst)).toNat) default) : UInt8) = ((spTo x block q.1 p).getD ((((x.arcs.getD p default).src)).toNat) default)))))) [] (.pure (.pickT _ _ _ rfl rfl rfl)) ?_
         refine ChD.nil (And.intro ?_ (by kernel_rfl))
         refine T_cond (b := (!(decide ((((spTo x block q.1 p).getD ((((x.arcs.getD p default).dst)).toNat) default) : UInt8) = ((spTo x block q.1 p).getD ((((x.arcs.getD p default).src)).toNat) default))))) rfl (fun h22 => ?_) (fun h22 => ?_)
         ·
          replace h22 := nott h22
          replace h22 := of_decide_eq_false h22
          refine T_regionD hc (by kernel_rfl) ?_
          refine ChD.s (.row 5) [] (.pure (.move _ rfl rfl)) ?_
          refine ChD.s (.ptr 13000 3) [] (.pure (.fldPtr _ _ _ rfl fld85_3 rfl)) ?_
          refine ChD.s (.d (.int .i64 ((x.arcs.getD p default).dst))) [13000] (.pure (.loadPtr1 _ _ rfl ag3 rfl rfl rfl)) ?_
          refine ChD.s (.row 5) [] (.pure (.move _ rfl rfl)) ?_
          refine ChD.s (.ptr 13000 0) [] (.pure (.fldPtr _ _ _ rfl fld85_0 rfl)) ?_
          refine ChD.s (.d (.int .i64 ((x.arcs.getD p default).src))) [13000] (.pure (.loadPtr1 _ _ rfl ag3 rfl rfl rfl)) ?_
          refine ChD.s (.el 5 1 ((((x.arcs.getD p default).src)).toNat) 0) [5] (.pure (.idxRow _ _ _ 5 ((((x.arcs.getD p default).src)).toNat) rfl Try.underlying102 sz5 rfl rfl rfl (by omega) (by first | omega | (simp only [List.length_map, List.length_set]; omega) | (simp; omega)))) ?_
          refine ChD.s (.d (.int .u8 (((spTo x block q.1 p).getD ((((x.arcs.getD p default).src)).toNat) default).toNat : Int))) [5] (.pure (.loadEl1 _ _ rfl ag5 rfl rfl get_mapA rfl rfl rfl)) ?_
          refine ChD.s (.el 5 1 ((((x.arcs.getD p default).dst)).toNat) 0) [5] (.pure (.idxRow _ _ _ 5 ((((x.arcs.getD p default).dst)).toNat) rfl Try.underlying102 sz5 rfl rfl rfl (by omega) (by first | omega | (simp only [List.length_map, List.length_set]; omega) | (simp; omega)))) ?_
          refine ChD.s .junk [5] (.storeEl (y' := (.int .u8 (((spTo x block q.1 p).getD ((((x.arcs.getD p default).src)).toNat) default).toNat : Int))) _ _ _ rfl rfl rfl (.d _) rfl sz5 rfl get_mapA rfl rfl) ?_
          refine ChD.s (.d (.bool true)) [] (.pure (.assign _ rfl rfl)) ?_
          refine ChD.nil (And.intro ?_ (by kernel_rfl))
          refine T_region hc ?_
          refine Ch.s (.d (.int .i64 (((p : Nat) : Int) + 1))) (.pure (.int _ _ _ _ _ rfl rfl rfl intV_addA)) ?_
          refine Ch.s (.d (.int .i64 (((p : Nat) : Int) + 1))) (.pure (.move _ rfl rfl)) ?_
          refine Ch.nil ?_
          refine Exists.intro (p + 1) (And.intro (by omega) (And.intro (by first | omega | (dsimp only; omega)) (Wk.of rfl rfl (And.intro rfl (And.intro rfl (And.intro rfl (And.intro (vB (by first | (rw [spTo_zero, decide_eq_false (Nat.lt_irrefl _)]; done) | (exact sp_more hen (by omega) (by first | exact .inl (by assumption) | exact .inr (by assumption)) (by first | exact in_minus (by assumption) | exact in_minus (by omega) | exact in_else (by assumption) (by assumption) | exact in_else (by omega) (by assumption) | exact in_else (by omega) (by first | exact inputB_yes (by omega) (by assumption) | exact inputB_no (by assumption))) (by first | (rw [← hst]; exact decide_eq_true (by assumption)) | (rw [← crossV_zero]; exact decide_eq_true (by assumption))) (by assumption)) | (exact sp_flag (sp_no1 (by omega) (by assumption) (by assumption))) | (exact sp_flag (sp_no2 (by omega) (by first | exact in_minus (by assumption) | exact in_minus (by omega) | exact in_else (by assumption) (by assumption) | exact in_else (by omega) (by assumption) | exact in_else (by omega) (by first | exact inputB_yes (by omega) (by assumption) | exact inputB_no (by assumption))))) | (exact sp_flag (sp_no3 (by omega) (by first | (rw [← hst]; exact decide_eq_false (by assumption)) | (rw [← crossV_zero]; exact decide_eq_false (by assumption))))) | (exact sp_flag (sp_no4 (by omega) (by assumption))))) (And.intro rfl (And.intro rfl (And.intro (vI (by first | rfl | omega | (simp; done) | (simp; omega))) trivial))))))) (And.intro (oR (by first | rfl | (exact sp_yes (by omega) (by first | exact .inl (by assumption) | exact .inr (by assumption)) (by first | exact in_minus (by assumption) | exact in_minus (by omega) | exact in_else (by assumption) (by assumption) | exact in_else (by omega) (by assumption) | exact in_else (by omega) (by first | exact inputB_yes (by omega) (by assumption) | exact inputB_no (by assumption))) (by first | (rw [← hst]; exact decide_eq_true (by assumption)) | (rw [← crossV_zero]; exact decide_eq_true (by assumption)))) | (exact congrArg (List.map _) (sp_no1 (by omega) (by assumption) (by assumption))) | (exact congrArg (List.map _) (sp_no2 (by omega) (by first | exact in_minus (by assumption) | exact in_minus (by omega) | exact in_else (by assumption) (by assumption) | exact in_else (by omega) (by assumption) | exact in_else (by omega) (by first | exact inputB_yes (by omega) (by assumption) | exact inputB_no (by assumption))))) | (exact congrArg (List.map _) (sp_no3 (by omega) (by first | (rw [← hst]; exact decide_eq_false (by assumption)) | (rw [← crossV_zero]; exact decide_eq_false (by assumption))))) | (exact congrArg (List.map _) (sp_no4 (by omega) (by assumption))))) (And.intro rfl trivial)))))
         ·
          replace h22 := notf h22
          replace h22 := of_decide_eq_true h22
          refine T_skip ?_
          refine T_region hc ?_
          refine Ch.s (.d (.int .i64 (((p : Nat) : Int) + 1))) (.pure (.int _ _ _ _ _ rfl rfl rfl intV_addA)) ?_
          refine Ch.s (.d (.int .i64 (((p : Nat) : Int) + 1))) (.pure (.move _ rfl rfl)) ?_
          refine Ch.nil ?_
          refine Exists.intro (p + 1) (And.intro (by omega) (And.intro (by first | omega | (dsimp only; omega)) (Wk.of rfl rfl (And.intro rfl (And.intro rfl (And.intro rfl (And.intro (vB (by first | (rw [spTo_zero, decide_eq_false (Nat.lt_irrefl _)]; done) | (exact sp_more hen (by omega) (by first | exact .inl (by assumption) | exact .inr (by assumption)) (by first | exact in_minus (by assumption) | exact in_minus (by omega) | exact in_else (by assumption) (by assumption) | exact in_else (by omega) (by assumption) | exact in_else (by omega) (by first | exact inputB_yes (by omega) (by assumption) | exact inputB_no (by assumption))) (by first | (rw [← hst]; exact decide_eq_true (by assumption)) | (rw [← crossV_zero]; exact decide_eq_true (by assumption))) (by assumption)) | (exact sp_flag (sp_no1 (by omega) (by assumption) (by assumption))) | (exact sp_flag (sp_no2 (by omega) (by first | exact in_minus (by assumption) | exact in_minus (by omega) | exact in_else (by assumption) (by assumption) | exact in_else (by omega) (by assumption) | exact in_else (by omega) (by first | exact inputB_yes (by omega) (by assumption) | exact inputB_no (by assumption))))) | (exact sp_flag (sp_no3 (by omega) (by first | (rw [← hst]; exact decide_eq_false (by assumption)) | (rw [← crossV_zero]; exact decide_eq_false (by assumption))))) | (exact sp_flag (sp_no4 (by omega) (by assumption))))) (And.intro rfl (And.intro rfl (And.intro (vI (by first | rfl | omega | (simp; done) | (simp; omega))) trivial))))))) (And.intro (oR (by first | rfl | (exact sp_yes (by omega) (by first | exact .inl (by assumption) | exact .inr (by assumption)) (by first | exact in_minus (by assumption) | exact in_minus (by omega) | exact in_else (by assumption) (by assumption) | exact in_else (by omega) (by assumption) | exact in_else (by omega) (by first | exact inputB_yes (by omega) (by assumption) | exact inputB_no (by assumption))) (by first | (rw [← hst]; exact decide_eq_true (by assumption)) | (rw [← crossV_zero]; exact decide_eq_true (by assumption)))) | (exact congrArg (List.map _) (sp_no1 (by omega) (by assumption) (by assumption))) | (exact congrArg (List.map _) (sp_no2 (by omega) (by first | exact in_minus (by assumption) | exact in_minus (by omega) | exact in_else (by assumption) (by assumption) | exact in_else (by omega) (by assumption) | exact in_else (by omega) (by first | exact inputB_yes (by omega) (by assumption) | exact inputB_no (by assumption))))) | (exact congrArg (List.map _) (sp_no3 (by omega) (by first | (rw [← hst]; exact decide_eq_false (by assumption)) | (rw [← crossV_zero]; exact decide_eq_false (by assumption))))) | (exact congrArg (List.map _) (sp_no4 (by omega) (by assumption))))) (And.intro rfl trivial)))))
        | false =>
         replace h21 := of_decide_eq_false h21
         refine ChD.skip rfl rfl ?_
         refine ChD.skip rfl rfl ?_
         refine ChD.skip rfl rfl ?_
         refine ChD.skip rfl rfl ?_
         refine ChD.skip rfl rfl ?_
         refine ChD.skip rfl rfl ?_
         refine ChD.skip rfl rfl ?_
         refine ChD.skip rfl rfl ?_
         refine ChD.skip rfl rfl ?_
         refine ChD.skip rfl rfl ?_
         refine ChD.skip rfl rfl ?_
         refine ChD.s (.d (.bool false)) [] (.pure (.pickF _ _ _ rfl rfl rfl)) ?_
         refine ChD.nil (And.intro ?_ (by kernel_rfl))
         refine T_cond (b := false) rfl (fun h => nomatch h) (fun _ => ?_)
         refine T_skip ?_
         refine T_region hc ?_
         refine Ch.s (.d (.int .i64 (((p : Nat) : Int) + 1))) (.pure (.int _ _ _ _ _ rfl rfl rfl intV_addA)) ?_
         refine Ch.s (.d (.int .i64 (((p : Nat) : Int) + 1))) (.pure (.move _ rfl rfl)) ?_
         refine Ch.nil ?_
         refine Exists.intro (p + 1) (And.intro (by omega) (And.intro (by first | omega | (dsimp only; omega)) (Wk.of rfl rfl (And.intro rfl (And.intro rfl (And.intro rfl (And.intro (vB (by first | (rw [spTo_zero, decide_eq_false (Nat.lt_irrefl _)]; done) | (exact sp_more hen (by omega) (by first | exact .inl (by assumption) | exact .inr (by assumption)) (by first | exact in_minus (by assumption) | exact in_minus (by omega) | exact in_else (by assumption) (by assumption) | exact in_else (by omega) (by assumption) | exact in_else (by omega) (by first | exact inputB_yes (by omega) (by assumption) | exact inputB_no (by assumption))) (by first | (rw [← hst]; exact decide_eq_true (by assumption)) | (rw [← crossV_zero]; exact decide_eq_true (by assumption))) (by assumption)) | (exact sp_flag (sp_no1 (by omega) (by assumption) (by assumption))) | (exact sp_flag (sp_no2 (by omega) (by first | exact in_minus (by assumption) | exact in_minus (by omega) | exact in_else (by assumption) (by assumption) | exact in_else (by omega) (by assumption) | exact in_else (by omega) (by first | exact inputB_yes (by omega) (by assumption) | exact inputB_no (by assumption))))) | (exact sp_flag (sp_no3 (by omega) (by first | (rw [← hst]; exact decide_eq_false (by assumption)) | (rw [← crossV_zero]; exact decide_eq_false (by assumption))))) | (exact sp_flag (sp_no4 (by omega) (by assumption))))) (And.intro rfl (And.intro rfl (And.intro (vI (by first | rfl | omega | (simp; done) | (simp; omega))) trivial))))))) (And.intro (oR (by first | rfl | (exact sp_yes (by omega) (by first | exact .inl (by assumption) | exact .inr (by assumption)) (by first | exact in_minus (by assumption) | exact in_minus (by omega) | exact in_else (by assumption) (by assumption) | exact in_else (by omega) (by assumption) | exact in_else (by omega) (by first | exact inputB_yes (by omega) (by assumption) | exact inputB_no (by assumption))) (by first | (rw [← hst]; exact decide_eq_true (by assumption)) | (rw [← crossV_zero]; exact decide_eq_true (by assumption)))) | (exact congrArg (List.map _) (sp_no1 (by omega) (by assumption) (by assumption))) | (exact congrArg (List.map _) (sp_no2 (by omega) (by first | exact in_minus (by assumption) | exact in_minus (by omega) | exact in_else (by assumption) (by assumption) | exact in_else (by omega) (by assumption) | exact in_else (by omega) (by first | exact inputB_yes (by omega) (by assumption) | exact inputB_no (by assumption))))) | (exact congrArg (List.map _) (sp_no3 (by omega) (by first | (rw [← hst]; exact decide_eq_false (by assumption)) | (rw [← crossV_zero]; exact decide_eq_false (by assumption))))) | (exact congrArg (List.map _) (sp_no4 (by omega) (by assumption))))) (And.intro rfl trivial)))))
       | false =>
        replace h20 := of_decide_eq_false h20
        refine ChD.s (.agg [(.d (.slice false 2 (x.sigs.map Sgn.d))), (.d (.slice false 1 (x.codes.map D.str))), (.d (.slice false 4 (x.arcs.map Arc.d)))]) [2000] (.pure (.loadPtrA _ _ rfl ag34 sz34 rfl rfl (Nat.le_of_ble_eq_true rfl) rfl)) ?_
        refine ChD.s (.ptr 13000 1) [] (.pure (.fldPtr _ _ _ rfl fld85_1 rfl)) ?_
        refine ChD.s (.d (.int .i64 ((x.arcs.getD p default).sig))) [13000] (.pure (.loadPtr1 _ _ rfl ag3 rfl rfl rfl)) ?_
        refine ChD.s (.d (.bool (inputB x ((x.arcs.getD p default).sig)))) [] (.call 106000 127 _ _ _ en127 rfl (.inl rfl) (.cons (.lend (.agg (.cons (.d _) (.cons (.d _) (.cons (.d _) .nil))) rfl)) (.cons (.d _) .nil)) rfl rfl (sp_impl_isInput x ((x.arcs.getD p default).sig) (by first | assumption | omega | (rw [List.length_take]; omega) | (have := bulkF_mem hb _ (getD_mem (d := default) (by omega)); assumption) | (unfold bulkS at *; omega) | (simp_all; done)) (by first | assumption | omega)) (.skip _ _ (.skip _ _ .nil)) rfl) ?_
        refine ChD.s (.d (.bool (inputB x ((x.arcs.getD p default).sig)))) [] (.pure (.pickF _ _ _ rfl rfl rfl)) ?_
        refine ChD.s (.d (.bool (inputB x ((x.arcs.getD p default).sig)))) [] (.pure (.pickT _ _ _ rfl rfl rfl)) ?_
        refine ChD.s (.d (.bool (inputB x ((x.arcs.getD p default).sig)))) [] (.pure (.move _ rfl rfl)) ?_
        cases h23 : (inputB x ((x.arcs.getD p default).sig)) with
        | true =>
         refine ChD.s (.d (.str (sideTo block k))) [] (.pure (.move _ rfl rfl)) ?_
         refine ChD.s (.ptr 13000 0) [] (.pure (.fldPtr _ _ _ rfl fld85_0 rfl)) ?_
         refine ChD.s (.d (.int .i64 ((x.arcs.getD p default).src))) [13000] (.pure (.loadPtr1 _ _ rfl ag3 rfl rfl rfl)) ?_
         refine ChD.s (.d (.int .u8 (((sideTo block k).getD ((((x.arcs.getD p default).src)).toNat) 0).toNat : Int))) [] (.pure (.idxStr _ _ _ ((((x.arcs.getD p default).src)).toNat) rfl Try.underlying9 rfl rfl (by omega) get_strA)) ?_
         refine ChD.s (.d (.str (sideTo block k))) [] (.pure (.move _ rfl rfl)) ?_
         refine ChD.s (.ptr 13000 3) [] (.pure (.fldPtr _ _ _ rfl fld85_3 rfl)) ?_
         refine ChD.s (.d (.int .i64 ((x.arcs.getD p default).dst))) [13000] (.pure (.loadPtr1 _ _ rfl ag3 rfl rfl rfl)) ?_
         refine ChD.s (.d (.int .u8 (((sideTo block k).getD ((((x.arcs.getD p default).dst)).toNat) 0).toNat : Int))) [] (.pure (.idxStr _ _ _ ((((x.arcs.getD p default).dst)).toNat) rfl Try.underlying9 rfl rfl (by omega) get_strA)) ?_
         refine ChD.s (.d (.bool (decide ((((sideTo block k).getD ((((x.arcs.getD p default).src)).toNat) 0) : UInt8) = ((sideTo block k).getD ((((x.arcs.getD p default).dst)).toNat) 0))))) [] (.pure (.int _ _ _ _ _ rfl rfl rfl (u8_eql (((sideTo block k).getD ((((x.arcs.getD p default).src)).toNat) 0) : UInt8) ((sideTo block k).getD ((((x.arcs.getD p default).dst)).toNat) 0) rfl rfl))) ?_
         refine ChD.s (.d (.bool (decide ((((sideTo block k).getD ((((x.arcs.getD p default).src)).toNat) 0) : UInt8) = ((sideTo block k).getD ((((x.arcs.getD p default).dst)).toNat) 0))))) [] (.pure (.pickT _ _ _ rfl rfl rfl)) ?_
         refine ChD.s (.d (.bool (decide ((((sideTo block k).getD ((((x.arcs.getD p default).src)).toNat) 0) : UInt8) = ((sideTo block k).getD ((((x.arcs.getD p default).dst)).toNat) 0))))) [] (.pure (.move _ rfl rfl)) ?_
         cases h24 : (decide ((((sideTo block k).getD ((((x.arcs.getD p default).src)).toNat) 0) : UInt8) = ((sideTo block k).getD ((((x.arcs.getD p default).dst)).toNat) 0))) with
         | true =>
          replace h24 := of_decide_eq_true h24
          refine ChD.s (.row 5) [] (.pure (.move _ rfl rfl)) ?_
          refine ChD.s (.ptr 13000 3) [] (.pure (.fldPtr _ _ _ rfl fld85_3 rfl)) ?_
          refine ChD.s (.d (.int .i64 ((x.arcs.getD p default).dst))) [13000] (.pure (.loadPtr1 _ _ rfl ag3 rfl rfl rfl)) ?_
          refine ChD.s (.el 5 1 ((((x.arcs.getD p default).dst)).toNat) 0) [5] (.pure (.idxRow _ _ _ 5 ((((x.arcs.getD p default).dst)).toNat) rfl Try.underlying102 sz5 rfl rfl rfl (by omega) (by first | omega | (simp only [List.length_map, List.length_set]; omega) | (simp; omega)))) ?_
          refine ChD.s (.d (.int .u8 (((spTo x block q.1 p).getD ((((x.arcs.getD p default).dst)).toNat) default).toNat : Int))) [5] (.pure (.loadEl1 _ _ rfl ag5 rfl rfl get_mapA rfl rfl rfl)) ?_
          refine ChD.s (.row 5) [] (.pure (.move _ rfl rfl)) ?_
          refine ChD.s (.ptr 13000 0) [] (.pure (.fldPtr _ _ _ rfl fld85_0 rfl)) ?_
          refine ChD.s (.d (.int .i64 ((x.arcs.getD p default).src))) [13000] (.pure (.loadPtr1 _ _ rfl ag3 rfl rfl rfl)) ?_
          refine ChD.s (.el 5 1 ((((x.arcs.getD p default).src)).toNat) 0) [5] (.pure (.idxRow _ _ _ 5 ((((x.arcs.getD p default).src)).toNat) rfl Try.underlying102 sz5 rfl rfl rfl (by omega) (by first | omega | (simp only [List.length_map, List.length_set]; omega) | (simp; omega)))) ?_
          refine ChD.s (.d (.int .u8 (((spTo x block q.1 p).getD ((((x.arcs.getD p default).src)).toNat) default).toNat : Int))) [5] (.pure (.loadEl1 _ _ rfl ag5 rfl rfl get_mapA rfl rfl rfl)) ?_
          refine ChD.s (.d (.bool (!(decide ((((spTo x block q.1 p).getD ((((x.arcs.getD p default).dst)).toNat) default) : UInt8) = ((spTo x block q.1 p).getD ((((x.arcs.getD p default).src)).toNat) default)))))) [] (.pure (.int _ _ _ _ _ rfl rfl rfl (u8_neq (((spTo x block q.1 p).getD ((((x.arcs.getD p default).dst)).toNat) default) : UInt8) ((spTo x block q.1 p).getD ((((x.arcs.getD p default).src)).toNat) default) rfl rfl))) ?_
          refine ChD.s (.d (.bool (!(decide ((((spTo x block q.1 p).getD ((((x.arcs.getD p default).dst)).toNat) default) : UInt8) = ((spTo x block q.1 p).getD ((((x.arcs.getD p default).src)).toNat) default)))))) [] (.pure (.pickT _ _ _ rfl rfl rfl)) ?_
          refine ChD.nil (And.intro ?_ (by kernel_rfl))
          refine T_cond (b := (!(decide ((((spTo x block q.1 p).getD ((((x.arcs.getD p default).dst)).toNat) default) : UInt8) = ((spTo x block q.1 p).getD ((((x.arcs.getD p default).src)).toNat) default))))) rfl (fun h25 => ?_) (fun h25 => ?_)
          ·
           replace h25 := nott h25
           replace h25 := of_decide_eq_false h25
           refine T_regionD hc (by kernel_rfl) ?_
           refine ChD.s (.row 5) [] (.pure (.move _ rfl rfl)) ?_
           refine ChD.s (.ptr 13000 3) [] (.pure (.fldPtr _ _ _ rfl fld85_3 rfl)) ?_
           refine ChD.s (.d (.int .i64 ((x.arcs.getD p default).dst))) [13000] (.pure (.loadPtr1 _ _ rfl ag3 rfl rfl rfl)) ?_
           refine ChD.s (.row 5) [] (.pure (.move _ rfl rfl)) ?_
           refine ChD.s (.ptr 13000 0) [] (.pure (.fldPtr _ _ _ rfl fld85_0 rfl)) ?_
           refine ChD.s (.d (.int .i64 ((x.arcs.getD p default).src))) [13000] (.pure (.loadPtr1 _ _ rfl ag3 rfl rfl rfl)) ?_
           refine ChD.s (.el 5 1 ((((x.arcs.getD p default).src)).toNat) 0) [5] (.pure (.idxRow _ _ _ 5 ((((x.arcs.getD p default).src)).toNat) rfl Try.underlying102 sz5 rfl rfl rfl (by omega) (by first | omega | (simp only [List.length_map, List.length_set]; omega) | (simp; omega)))) ?_
           refine ChD.s (.d (.int .u8 (((spTo x block q.1 p).getD ((((x.arcs.getD p default).src)).toNat) default).toNat : Int))) [5] (.pure (.loadEl1 _ _ rfl ag5 rfl rfl get_mapA rfl rfl rfl)) ?_
           refine ChD.s (.el 5 1 ((((x.arcs.getD p default).dst)).toNat) 0) [5] (.pure (.idxRow _ _ _ 5 ((((x.arcs.getD p default).dst)).toNat) rfl Try.underlying102 sz5 rfl rfl rfl (by omega) (by first | omega | (simp only [List.length_map, List.length_set]; omega) | (simp; omega)))) ?_
           refine ChD.s .junk [5] (.storeEl (y' := (.int .u8 (((spTo x block q.1 p).getD ((((x.arcs.getD p default).src)).toNat) default).toNat : Int))) _ _ _ rfl rfl rfl (.d _) rfl sz5 rfl get_mapA rfl rfl) ?_
           refine ChD.s (.d (.bool true)) [] (.pure (.assign _ rfl rfl)) ?_
           refine ChD.nil (And.intro ?_ (by kernel_rfl))
           refine T_region hc ?_
           refine Ch.s (.d (.int .i64 (((p : Nat) : Int) + 1))) (.pure (.int _ _ _ _ _ rfl rfl rfl intV_addA)) ?_
           refine Ch.s (.d (.int .i64 (((p : Nat) : Int) + 1))) (.pure (.move _ rfl rfl)) ?_
           refine Ch.nil ?_
           refine Exists.intro (p + 1) (And.intro (by omega) (And.intro (by first | omega | (dsimp only; omega)) (Wk.of rfl rfl (And.intro rfl (And.intro rfl (And.intro rfl (And.intro (vB (by first | (rw [spTo_zero, decide_eq_false (Nat.lt_irrefl _)]; done) | (exact sp_more hen (by omega) (by first | exact .inl (by assumption) | exact .inr (by assumption)) (by first | exact in_minus (by assumption) | exact in_minus (by omega) | exact in_else (by assumption) (by assumption) | exact in_else (by omega) (by assumption) | exact in_else (by omega) (by first | exact inputB_yes (by omega) (by assumption) | exact inputB_no (by assumption))) (by first | (rw [← hst]; exact decide_eq_true (by assumption)) | (rw [← crossV_zero]; exact decide_eq_true (by assumption))) (by assumption)) | (exact sp_flag (sp_no1 (by omega) (by assumption) (by assumption))) | (exact sp_flag (sp_no2 (by omega) (by first | exact in_minus (by assumption) | exact in_minus (by omega) | exact in_else (by assumption) (by assumption) | exact in_else (by omega) (by assumption) | exact in_else (by omega) (by first | exact inputB_yes (by omega) (by assumption) | exact inputB_no (by assumption))))) | (exact sp_flag (sp_no3 (by omega) (by first | (rw [← hst]; exact decide_eq_false (by assumption)) | (rw [← crossV_zero]; exact decide_eq_false (by assumption))))) | (exact sp_flag (sp_no4 (by omega) (by assumption))))) (And.intro rfl (And.intro rfl (And.intro (vI (by first | rfl | omega | (simp; done) | (simp; omega))) trivial))))))) (And.intro (oR (by first | rfl | (exact sp_yes (by omega) (by first | exact .inl (by assumption) | exact .inr (by assumption)) (by first | exact in_minus (by assumption) | exact in_minus (by omega) | exact in_else (by assumption) (by assumption) | exact in_else (by omega) (by assumption) | exact in_else (by omega) (by first | exact inputB_yes (by omega) (by assumption) | exact inputB_no (by assumption))) (by first | (rw [← hst]; exact decide_eq_true (by assumption)) | (rw [← crossV_zero]; exact decide_eq_true (by assumption)))) | (exact congrArg (List.map _) (sp_no1 (by omega) (by assumption) (by assumption))) | (exact congrArg (List.map _) (sp_no2 (by omega) (by first | exact in_minus (by assumption) | exact in_minus (by omega) | exact in_else (by assumption) (by assumption) | exact in_else (by omega) (by assumption) | exact in_else (by omega) (by first | exact inputB_yes (by omega) (by assumption) | exact inputB_no (by assumption))))) | (exact congrArg (List.map _) (sp_no3 (by omega) (by first | (rw [← hst]; exact decide_eq_false (by assumption)) | (rw [← crossV_zero]; exact decide_eq_false (by assumption))))) | (exact congrArg (List.map _) (sp_no4 (by omega) (by assumption))))) (And.intro rfl trivial)))))
          ·
           replace h25 := notf h25
           replace h25 := of_decide_eq_true h25
           refine T_skip ?_
           refine T_region hc ?_
           refine Ch.s (.d (.int .i64 (((p : Nat) : Int) + 1))) (.pure (.int _ _ _ _ _ rfl rfl rfl intV_addA)) ?_
           refine Ch.s (.d (.int .i64 (((p : Nat) : Int) + 1))) (.pure (.move _ rfl rfl)) ?_
           refine Ch.nil ?_
           refine Exists.intro (p + 1) (And.intro (by omega) (And.intro (by first | omega | (dsimp only; omega)) (Wk.of rfl rfl (And.intro rfl (And.intro rfl (And.intro rfl (And.intro (vB (by first | (rw [spTo_zero, decide_eq_false (Nat.lt_irrefl _)]; done) | (exact sp_more hen (by omega) (by first | exact .inl (by assumption) | exact .inr (by assumption)) (by first | exact in_minus (by assumption) | exact in_minus (by omega) | exact in_else (by assumption) (by assumption) | exact in_else (by omega) (by assumption) | exact in_else (by omega) (by first | exact inputB_yes (by omega) (by assumption) | exact inputB_no (by assumption))) (by first | (rw [← hst]; exact decide_eq_true (by assumption)) | (rw [← crossV_zero]; exact decide_eq_true (by assumption))) (by assumption)) | (exact sp_flag (sp_no1 (by omega) (by assumption) (by assumption))) | (exact sp_flag (sp_no2 (by omega) (by first | exact in_minus (by assumption) | exact in_minus (by omega) | exact in_else (by assumption) (by assumption) | exact in_else (by omega) (by assumption) | exact in_else (by omega) (by first | exact inputB_yes (by omega) (by assumption) | exact inputB_no (by assumption))))) | (exact sp_flag (sp_no3 (by omega) (by first | (rw [← hst]; exact decide_eq_false (by assumption)) | (rw [← crossV_zero]; exact decide_eq_false (by assumption))))) | (exact sp_flag (sp_no4 (by omega) (by assumption))))) (And.intro rfl (And.intro rfl (And.intro (vI (by first | rfl | omega | (simp; done) | (simp; omega))) trivial))))))) (And.intro (oR (by first | rfl | (exact sp_yes (by omega) (by first | exact .inl (by assumption) | exact .inr (by assumption)) (by first | exact in_minus (by assumption) | exact in_minus (by omega) | exact in_else (by assumption) (by assumption) | exact in_else (by omega) (by assumption) | exact in_else (by omega) (by first | exact inputB_yes (by omega) (by assumption) | exact inputB_no (by assumption))) (by first | (rw [← hst]; exact decide_eq_true (by assumption)) | (rw [← crossV_zero]; exact decide_eq_true (by assumption)))) | (exact congrArg (List.map _) (sp_no1 (by omega) (by assumption) (by assumption))) | (exact congrArg (List.map _) (sp_no2 (by omega) (by first | exact in_minus (by assumption) | exact in_minus (by omega) | exact in_else (by assumption) (by assumption) | exact in_else (by omega) (by assumption) | exact in_else (by omega) (by first | exact inputB_yes (by omega) (by assumption) | exact inputB_no (by assumption))))) | (exact congrArg (List.map _) (sp_no3 (by omega) (by first | (rw [← hst]; exact decide_eq_false (by assumption)) | (rw [← crossV_zero]; exact decide_eq_false (by assumption))))) | (exact congrArg (List.map _) (sp_no4 (by omega) (by assumption))))) (And.intro rfl trivial)))))
         | false =>
          replace h24 := of_decide_eq_false h24
          refine ChD.skip rfl rfl ?_
          refine ChD.skip rfl rfl ?_
          refine ChD.skip rfl rfl ?_
          refine ChD.skip rfl rfl ?_
          refine ChD.skip rfl rfl ?_
          refine ChD.skip rfl rfl ?_
          refine ChD.skip rfl rfl ?_
          refine ChD.skip rfl rfl ?_
          refine ChD.skip rfl rfl ?_
          refine ChD.skip rfl rfl ?_
          refine ChD.skip rfl rfl ?_
          refine ChD.s (.d (.bool false)) [] (.pure (.pickF _ _ _ rfl rfl rfl)) ?_
          refine ChD.nil (And.intro ?_ (by kernel_rfl))
          refine T_cond (b := false) rfl (fun h => nomatch h) (fun _ => ?_)
          refine T_skip ?_
          refine T_region hc ?_
          refine Ch.s (.d (.int .i64 (((p : Nat) : Int) + 1))) (.pure (.int _ _ _ _ _ rfl rfl rfl intV_addA)) ?_
          refine Ch.s (.d (.int .i64 (((p : Nat) : Int) + 1))) (.pure (.move _ rfl rfl)) ?_
          refine Ch.nil ?_
          refine Exists.intro (p + 1) (And.intro (by omega) (And.intro (by first | omega | (dsimp only; omega)) (Wk.of rfl rfl (And.intro rfl (And.intro rfl (And.intro rfl (And.intro (vB (by first | (rw [spTo_zero, decide_eq_false (Nat.lt_irrefl _)]; done) | (exact sp_more hen (by omega) (by first | exact .inl (by assumption) | exact .inr (by assumption)) (by first | exact in_minus (by assumption) | exact in_minus (by omega) | exact in_else (by assumption) (by assumption) | exact in_else (by omega) (by assumption) | exact in_else (by omega) (by first | exact inputB_yes (by omega) (by assumption) | exact inputB_no (by assumption))) (by first | (rw [← hst]; exact decide_eq_true (by assumption)) | (rw [← crossV_zero]; exact decide_eq_true (by assumption))) (by assumption)) | (exact sp_flag (sp_no1 (by omega) (by assumption) (by assumption))) | (exact sp_flag (sp_no2 (by omega) (by first | exact in_minus (by assumption) | exact in_minus (by omega) | exact in_else (by assumption) (by assumption) | exact in_else (by omega) (by assumption) | exact in_else (by omega) (by first | exact inputB_yes (by omega) (by assumption) | exact inputB_no (by assumption))))) | (exact sp_flag (sp_no3 (by omega) (by first | (rw [← hst]; exact decide_eq_false (by assumption)) | (rw [← crossV_zero]; exact decide_eq_false (by assumption))))) | (exact sp_flag (sp_no4 (by omega) (by assumption))))) (And.intro rfl (And.intro rfl (And.intro (vI (by first | rfl | omega | (simp; done) | (simp; omega))) trivial))))))) (And.intro (oR (by first | rfl | (exact sp_yes (by omega) (by first | exact .inl (by assumption) | exact .inr (by assumption)) (by first | exact in_minus (by assumption) | exact in_minus (by omega) | exact in_else (by assumption) (by assumption) | exact in_else (by omega) (by assumption) | exact in_else (by omega) (by first | exact inputB_yes (by omega) (by assumption) | exact inputB_no (by assumption))) (by first | (rw [← hst]; exact decide_eq_true (by assumption)) | (rw [← crossV_zero]; exact decide_eq_true (by assumption)))) | (exact congrArg (List.map _) (sp_no1 (by omega) (by assumption) (by assumption))) | (exact congrArg (List.map _) (sp_no2 (by omega) (by first | exact in_minus (by assumption) | exact in_minus (by omega) | exact in_else (by assumption) (by assumption) | exact in_else (by omega) (by assumption) | exact in_else (by omega) (by first | exact inputB_yes (by omega) (by assumption) | exact inputB_no (by assumption))))) | (exact congrArg (List.map _) (sp_no3 (by omega) (by first | (rw [← hst]; exact decide_eq_false (by assumption)) | (rw [← crossV_zero]; exact decide_eq_false (by assumption))))) | (exact congrArg (List.map _) (sp_no4 (by omega) (by assumption))))) (And.intro rfl trivial)))))
        | false =>
         refine ChD.skip rfl rfl ?_
         refine ChD.skip rfl rfl ?_
         refine ChD.skip rfl rfl ?_
         refine ChD.skip rfl rfl ?_
         refine ChD.skip rfl rfl ?_
         refine ChD.skip rfl rfl ?_
         refine ChD.skip rfl rfl ?_
         refine ChD.skip rfl rfl ?_
         refine ChD.skip rfl rfl ?_
         refine ChD.s (.d (.bool false)) [] (.pure (.pickF _ _ _ rfl rfl rfl)) ?_
         refine ChD.s (.d (.bool false)) [] (.pure (.move _ rfl rfl)) ?_
         refine ChD.skip rfl rfl ?_
         refine ChD.skip rfl rfl ?_
         refine ChD.skip rfl rfl ?_
         refine ChD.skip rfl rfl ?_
         refine ChD.skip rfl rfl ?_
         refine ChD.skip rfl rfl ?_
         refine ChD.skip rfl rfl ?_
         refine ChD.skip rfl rfl ?_
         refine ChD.skip rfl rfl ?_
         refine ChD.skip rfl rfl ?_
         refine ChD.skip rfl rfl ?_
         refine ChD.s (.d (.bool false)) [] (.pure (.pickF _ _ _ rfl rfl rfl)) ?_
         refine ChD.nil (And.intro ?_ (by kernel_rfl))
         refine T_cond (b := false) rfl (fun h => nomatch h) (fun _ => ?_)
         refine T_skip ?_
         refine T_region hc ?_
         refine Ch.s (.d (.int .i64 (((p : Nat) : Int) + 1))) (.pure (.int _ _ _ _ _ rfl rfl rfl intV_addA)) ?_
         refine Ch.s (.d (.int .i64 (((p : Nat) : Int) + 1))) (.pure (.move _ rfl rfl)) ?_
         refine Ch.nil ?_
         refine Exists.intro (p + 1) (And.intro (by omega) (And.intro (by first | omega | (dsimp only; omega)) (Wk.of rfl rfl (And.intro rfl (And.intro rfl (And.intro rfl (And.intro (vB (by first | (rw [spTo_zero, decide_eq_false (Nat.lt_irrefl _)]; done) | (exact sp_more hen (by omega) (by first | exact .inl (by assumption) | exact .inr (by assumption)) (by first | exact in_minus (by assumption) | exact in_minus (by omega) | exact in_else (by assumption) (by assumption) | exact in_else (by omega) (by assumption) | exact in_else (by omega) (by first | exact inputB_yes (by omega) (by assumption) | exact inputB_no (by assumption))) (by first | (rw [← hst]; exact decide_eq_true (by assumption)) | (rw [← crossV_zero]; exact decide_eq_true (by assumption))) (by assumption)) | (exact sp_flag (sp_no1 (by omega) (by assumption) (by assumption))) | (exact sp_flag (sp_no2 (by omega) (by first | exact in_minus (by assumption) | exact in_minus (by omega) | exact in_else (by assumption) (by assumption) | exact in_else (by omega) (by assumption) | exact in_else (by omega) (by first | exact inputB_yes (by omega) (by assumption) | exact inputB_no (by assumption))))) | (exact sp_flag (sp_no3 (by omega) (by first | (rw [← hst]; exact decide_eq_false (by assumption)) | (rw [← crossV_zero]; exact decide_eq_false (by assumption))))) | (exact sp_flag (sp_no4 (by omega) (by assumption))))) (And.intro rfl (And.intro rfl (And.intro (vI (by first | rfl | omega | (simp; done) | (simp; omega))) trivial))))))) (And.intro (oR (by first | rfl | (exact sp_yes (by omega) (by first | exact .inl (by assumption) | exact .inr (by assumption)) (by first | exact in_minus (by assumption) | exact in_minus (by omega) | exact in_else (by assumption) (by assumption) | exact in_else (by omega) (by assumption) | exact in_else (by omega) (by first | exact inputB_yes (by omega) (by assumption) | exact inputB_no (by assumption))) (by first | (rw [← hst]; exact decide_eq_true (by assumption)) | (rw [← crossV_zero]; exact decide_eq_true (by assumption)))) | (exact congrArg (List.map _) (sp_no1 (by omega) (by assumption) (by assumption))) | (exact congrArg (List.map _) (sp_no2 (by omega) (by first | exact in_minus (by assumption) | exact in_minus (by omega) | exact in_else (by assumption) (by assumption) | exact in_else (by omega) (by assumption) | exact in_else (by omega) (by first | exact inputB_yes (by omega) (by assumption) | exact inputB_no (by assumption))))) | (exact congrArg (List.map _) (sp_no3 (by omega) (by first | (rw [← hst]; exact decide_eq_false (by assumption)) | (rw [← crossV_zero]; exact decide_eq_false (by assumption))))) | (exact congrArg (List.map _) (sp_no4 (by omega) (by assumption))))) (And.intro rfl trivial)))))
      | false =>
       replace h19 := of_decide_eq_false h19
       try have hek := hen _ (getD_mem (l := x.arcs) (j := p) (d := default) (by omega))
       try have hsk := (hx.sig _ (getD_mem (l := x.arcs) (j := p) (d := default) (by omega))).1
       try have hss := (hx.sig _ (getD_mem (l := x.arcs) (j := p) (d := default) (by omega))).2
       try have hst := stay_side (x := x) (block := block) (k := k) (by omega) hek
       refine ChD.skip rfl rfl ?_
       refine ChD.skip rfl rfl ?_
       refine ChD.skip rfl rfl ?_
       refine ChD.skip rfl rfl ?_
       refine ChD.skip rfl rfl ?_
       refine ChD.skip rfl rfl ?_
       refine ChD.skip rfl rfl ?_
       refine ChD.skip rfl rfl ?_
       refine ChD.skip rfl rfl ?_
       refine ChD.s (.d (.bool false)) [] (.pure (.pickF _ _ _ rfl rfl rfl)) ?_
       refine ChD.s (.d (.bool false)) [] (.pure (.move _ rfl rfl)) ?_
       refine ChD.skip rfl rfl ?_
       refine ChD.skip rfl rfl ?_
       refine ChD.skip rfl rfl ?_
       refine ChD.skip rfl rfl ?_
       refine ChD.skip rfl rfl ?_
       refine ChD.skip rfl rfl ?_
       refine ChD.skip rfl rfl ?_
       refine ChD.skip rfl rfl ?_
       refine ChD.skip rfl rfl ?_
       refine ChD.s (.d (.bool false)) [] (.pure (.pickF _ _ _ rfl rfl rfl)) ?_
       refine ChD.s (.d (.bool false)) [] (.pure (.move _ rfl rfl)) ?_
       refine ChD.skip rfl rfl ?_
       refine ChD.skip rfl rfl ?_
       refine ChD.skip rfl rfl ?_
       refine ChD.skip rfl rfl ?_
       refine ChD.skip rfl rfl ?_
       refine ChD.skip rfl rfl ?_
       refine ChD.skip rfl rfl ?_
       refine ChD.skip rfl rfl ?_
       refine ChD.skip rfl rfl ?_
       refine ChD.skip rfl rfl ?_
       refine ChD.skip rfl rfl ?_
       refine ChD.s (.d (.bool false)) [] (.pure (.pickF _ _ _ rfl rfl rfl)) ?_
       refine ChD.nil (And.intro ?_ (by kernel_rfl))
       refine T_cond (b := false) rfl (fun h => nomatch h) (fun _ => ?_)
       refine T_skip ?_
       refine T_region hc ?_
       refine Ch.s (.d (.int .i64 (((p : Nat) : Int) + 1))) (.pure (.int _ _ _ _ _ rfl rfl rfl intV_addA)) ?_
       refine Ch.s (.d (.int .i64 (((p : Nat) : Int) + 1))) (.pure (.move _ rfl rfl)) ?_
       refine Ch.nil ?_
       refine Exists.intro (p + 1) (And.intro (by omega) (And.intro (by first | omega | (dsimp only; omega)) (Wk.of rfl rfl (And.intro rfl (And.intro rfl (And.intro rfl (And.intro (vB (by first | (rw [spTo_zero, decide_eq_false (Nat.lt_irrefl _)]; done) | (exact sp_more hen (by omega) (by first | exact .inl (by assumption) | exact .inr (by assumption)) (by first | exact in_minus (by assumption) | exact in_minus (by omega) | exact in_else (by assumption) (by assumption) | exact in_else (by omega) (by assumption) | exact in_else (by omega) (by first | exact inputB_yes (by omega) (by assumption) | exact inputB_no (by assumption))) (by first | (rw [← hst]; exact decide_eq_true (by assumption)) | (rw [← crossV_zero]; exact decide_eq_true (by assumption))) (by assumption)) | (exact sp_flag (sp_no1 (by omega) (by assumption) (by assumption))) | (exact sp_flag (sp_no2 (by omega) (by first | exact in_minus (by assumption) | exact in_minus (by omega) | exact in_else (by assumption) (by assumption) | exact in_else (by omega) (by assumption) | exact in_else (by omega) (by first | exact inputB_yes (by omega) (by assumption) | exact inputB_no (by assumption))))) | (exact sp_flag (sp_no3 (by omega) (by first | (rw [← hst]; exact decide_eq_false (by assumption)) | (rw [← crossV_zero]; exact decide_eq_false (by assumption))))) | (exact sp_flag (sp_no4 (by omega) (by assumption))))) (And.intro rfl (And.intro rfl (And.intro (vI (by first | rfl | omega | (simp; done) | (simp; omega))) trivial))))))) (And.intro (oR (by first | rfl | (exact sp_yes (by omega) (by first | exact .inl (by assumption) | exact .inr (by assumption)) (by first | exact in_minus (by assumption) | exact in_minus (by omega) | exact in_else (by assumption) (by assumption) | exact in_else (by omega) (by assumption) | exact in_else (by omega) (by first | exact inputB_yes (by omega) (by assumption) | exact inputB_no (by assumption))) (by first | (rw [← hst]; exact decide_eq_true (by assumption)) | (rw [← crossV_zero]; exact decide_eq_true (by assumption)))) | (exact congrArg (List.map _) (sp_no1 (by omega) (by assumption) (by assumption))) | (exact congrArg (List.map _) (sp_no2 (by omega) (by first | exact in_minus (by assumption) | exact in_minus (by omega) | exact in_else (by assumption) (by assumption) | exact in_else (by omega) (by assumption) | exact in_else (by omega) (by first | exact inputB_yes (by omega) (by assumption) | exact inputB_no (by assumption))))) | (exact congrArg (List.map _) (sp_no3 (by omega) (by first | (rw [← hst]; exact decide_eq_false (by assumption)) | (rw [← crossV_zero]; exact decide_eq_false (by assumption))))) | (exact congrArg (List.map _) (sp_no4 (by omega) (by assumption))))) (And.intro rfl trivial)))))
    ·
     replace h11 := of_decide_eq_false h11
     try have hek := hen _ (getD_mem (l := x.arcs) (j := p) (d := default) (by omega))
     try have hsk := (hx.sig _ (getD_mem (l := x.arcs) (j := p) (d := default) (by omega))).1
     try have hss := (hx.sig _ (getD_mem (l := x.arcs) (j := p) (d := default) (by omega))).2
     try have hst := stay_side (x := x) (block := block) (k := k) (by omega) hek
     refine T_exit ?_
     refine Exists.intro ((q.1 + 1, decide (mkN (spIt x block q.1) < mkN (spTo x block q.1 p)))) (And.intro (sp_next hen (by omega)) (And.intro (sp_mu hen (by omega) (by assumption)) (Wk.of rfl rfl (And.intro rfl (And.intro rfl (And.intro rfl (And.intro (vB (by first | rfl)) trivial)))) (And.intro (oR (by first | (rw [show m = x.arcs.length by omega]; rfl) | (rw [spTo_next (by omega)]; done))) (And.intro rfl trivial)))))
   ·
    try have hek := hen _ (getD_mem (l := x.arcs) (j := p) (d := default) (by omega))
    try have hsk := (hx.sig _ (getD_mem (l := x.arcs) (j := p) (d := default) (by omega))).1
    try have hss := (hx.sig _ (getD_mem (l := x.arcs) (j := p) (d := default) (by omega))).2
    try have hst := stay_side (x := x) (block := block) (k := k) (by omega) hek
    refine T_exit ?_
    refine T_seq ?_
    refine T_region hc ?_
    refine Ch.s (.row 5) (.pure (.move _ rfl rfl)) ?_
    refine Ch.s (.d (.str (spIt x block q.1))) (.string (l := spIt x block q.1) _ _ _ _ rfl Try.underlying102 Try.underlying5 Try.underlying9 (.row rfl (noUs_map (fun _ => rfl) _))) ?_
    refine Ch.s (.d (.str (spIt x block q.1))) (.pure (.assign _ rfl rfl)) ?_
    refine Ch.nil ?_
    refine T_ret ?_
    refine And.intro (.inr rfl) ?_
    exact Exists.intro [(.d (.str (spIt x block q.1)))] (Exists.intro [] (Exists.intro [] (And.intro (.cons (.tmp 4 rfl) .nil) (And.intro (.cons (.any _) (.cons (.any _) .nil)) (And.intro (Exp.of (congrArg D.str (by first | (rcases hp2 with h | h; exact absurd h (by simp_all); exact h))) (.d _)) (And.intro rfl rfl))))))

theorem sp_spec_l10Cross (a : Arc) (block : List Int) (hbl : block.length ≤ 1048576) : Sp Try.prog 88 [(.agg [(.int .i64 a.src), (.int .i64 a.sig), (.bool (a.up)), (.int .i64 a.dst)]), (.slice false 1 (block.map (fun n : Int => D.int .i64 n)))] [.any, .any] (.int .i64 (crossV block a)) := by
 refine Sp_intro (lend := true) Try.func88 rfl rfl rfl (fun _ => rfl) (fun c hc hX => ?_)
 refine T_seq ?_
 refine T_region hc ?_
 refine Ch.s (.ptr 2000 0) (.box 2000 _ _ rfl (.aggD _)) ?_
 refine Ch.s (.d (.int .i64 0)) (.pure (.assign _ rfl rfl)) ?_
 refine Ch.nil ?_
 refine T_seq ?_
 refine T_block ?_
 refine T_seq ?_
 refine T_region hc ?_
 refine Ch.s (.d (.slice false 1 (block.map (fun n : Int => D.int .i64 n)))) (.pure (.move _ rfl rfl)) ?_
 refine Ch.s (.ptr 2000 0) (.pure (.fldPtr _ _ _ rfl fld85_0 rfl)) ?_
 refine Ch.s (.d (.int .i64 a.src)) (.pure (.loadPtr1 _ _ rfl ag3 rfl rfl rfl)) ?_
 refine Ch.s (.d (.bool (hasI block a.src))) (.call 9000 82 _ _ _ en82 rfl (.inl rfl) (.cons (.d _) (.cons (.d _) .nil)) rfl rfl (sp_spec_l1Has block a.src (by first | assumption | omega | (rw [List.length_take]; omega) | (have := bulkF_mem hb _ (getD_mem (d := default) (by omega)); assumption) | (unfold bulkS at *; omega) | (simp_all; done))) (.skip _ _ (.skip _ _ .nil)) rfl) ?_
 refine Ch.s (.d (.bool (!(hasI block a.src)))) (.pure (.not _ _ rfl rfl)) ?_
 refine Ch.s (.d (.bool (!(hasI block a.src)))) (.pure (.move _ rfl rfl)) ?_
 cases h1 : (hasI block a.src) with
 | true =>
  refine Ch.skip rfl rfl ?_
  refine Ch.skip rfl rfl ?_
  refine Ch.skip rfl rfl ?_
  refine Ch.skip rfl rfl ?_
  refine Ch.s (.d (.bool false)) (.pure (.pickF _ _ _ rfl rfl rfl)) ?_
  refine Ch.s (.d (.bool false)) (.pure (.assign _ rfl rfl)) ?_
  refine Ch.nil ?_
  refine T_cond (b := false) rfl (fun h => nomatch h) (fun _ => ?_)
  refine T_seq ?_
  refine T_region hc ?_
  refine Ch.s (.d (.slice false 1 (block.map (fun n : Int => D.int .i64 n)))) (.pure (.move _ rfl rfl)) ?_
  refine Ch.s (.ptr 2000 0) (.pure (.fldPtr _ _ _ rfl fld85_0 rfl)) ?_
  refine Ch.s (.d (.int .i64 a.src)) (.pure (.loadPtr1 _ _ rfl ag3 rfl rfl rfl)) ?_
  refine Ch.s (.d (.bool (hasI block a.src))) (.call 21000 82 _ _ _ en82 rfl (.inl rfl) (.cons (.d _) (.cons (.d _) .nil)) rfl rfl (sp_spec_l1Has block a.src (by first | assumption | omega | (rw [List.length_take]; omega) | (have := bulkF_mem hb _ (getD_mem (d := default) (by omega)); assumption) | (unfold bulkS at *; omega) | (simp_all; done))) (.skip _ _ (.skip _ _ .nil)) rfl) ?_
  refine Ch.s (.d (.bool (hasI block a.src))) (.pure (.move _ rfl rfl)) ?_
  cases h2 : (hasI block a.src) with
  | true =>
   refine Ch.s (.d (.slice false 1 (block.map (fun n : Int => D.int .i64 n)))) (.pure (.move _ rfl rfl)) ?_
   refine Ch.s (.ptr 2000 3) (.pure (.fldPtr _ _ _ rfl fld85_3 rfl)) ?_
   refine Ch.s (.d (.int .i64 a.dst)) (.pure (.loadPtr1 _ _ rfl ag3 rfl rfl rfl)) ?_
   refine Ch.s (.d (.bool (hasI block a.dst))) (.call 26000 82 _ _ _ en82 rfl (.inl rfl) (.cons (.d _) (.cons (.d _) .nil)) rfl rfl (sp_spec_l1Has block a.dst (by first | assumption | omega | (rw [List.length_take]; omega) | (have := bulkF_mem hb _ (getD_mem (d := default) (by omega)); assumption) | (unfold bulkS at *; omega) | (simp_all; done))) (.skip _ _ (.skip _ _ .nil)) rfl) ?_
   refine Ch.s (.d (.bool (!(hasI block a.dst)))) (.pure (.not _ _ rfl rfl)) ?_
   refine Ch.s (.d (.bool (!(hasI block a.dst)))) (.pure (.pickT _ _ _ rfl rfl rfl)) ?_
   refine Ch.s (.d (.bool (!(hasI block a.dst)))) (.pure (.assign _ rfl rfl)) ?_
   refine Ch.nil ?_
   refine T_cond (b := (!(hasI block a.dst))) rfl (fun h3 => ?_) (fun h3 => ?_)
   ·
    replace h3 := nott h3
    refine T_seq ?_
    refine T_region hc ?_
    refine Ch.s (.d (.int .i64 2)) (.pure (.assign _ rfl rfl)) ?_
    refine Ch.nil ?_
    refine T_ret ?_
    refine And.intro (.inr rfl) ?_
    exact Exists.intro [(.d (.int .i64 2))] (Exists.intro [] (Exists.intro [] (And.intro (.cons (.tmp 4 rfl) .nil) (And.intro (.cons (.any _) (.cons (.any _) .nil)) (And.intro (Exp.of (congrArg (D.int .i64) (by first | (unfold crossV crossI crossO; simp only [*, Bool.not_true, Bool.not_false, Bool.and_true, Bool.true_and, Bool.and_false, Bool.false_and, if_true, if_false, reduceIte, Bool.false_eq_true]; done) | (simp_all; done) | (exfalso; simp_all; done))) (.d _)) (And.intro rfl rfl))))))
   ·
    replace h3 := notf h3
    refine T_skip ?_
    refine T_seq ?_
    refine T_region hc ?_
    refine Ch.s (.d (.int .i64 0)) (.pure (.assign _ rfl rfl)) ?_
    refine Ch.nil ?_
    refine T_ret ?_
    refine And.intro (.inr rfl) ?_
    exact Exists.intro [(.d (.int .i64 0))] (Exists.intro [] (Exists.intro [] (And.intro (.cons (.tmp 4 rfl) .nil) (And.intro (.cons (.any _) (.cons (.any _) .nil)) (And.intro (Exp.of (congrArg (D.int .i64) (by first | (unfold crossV crossI crossO; simp only [*, Bool.not_true, Bool.not_false, Bool.and_true, Bool.true_and, Bool.and_false, Bool.false_and, if_true, if_false, reduceIte, Bool.false_eq_true]; done) | (simp_all; done) | (exfalso; simp_all; done))) (.d _)) (And.intro rfl rfl))))))
  | false =>
   refine Ch.skip rfl rfl ?_
   refine Ch.skip rfl rfl ?_
   refine Ch.skip rfl rfl ?_
   refine Ch.skip rfl rfl ?_
   refine Ch.skip rfl rfl ?_
   refine Ch.s (.d (.bool false)) (.pure (.pickF _ _ _ rfl rfl rfl)) ?_
   refine Ch.s (.d (.bool false)) (.pure (.assign _ rfl rfl)) ?_
   refine Ch.nil ?_
   refine T_cond (b := false) rfl (fun h => nomatch h) (fun _ => ?_)
   refine T_skip ?_
   refine T_seq ?_
   refine T_region hc ?_
   refine Ch.s (.d (.int .i64 0)) (.pure (.assign _ rfl rfl)) ?_
   refine Ch.nil ?_
   refine T_ret ?_
   refine And.intro (.inr rfl) ?_
   exact Exists.intro [(.d (.int .i64 0))] (Exists.intro [] (Exists.intro [] (And.intro (.cons (.tmp 4 rfl) .nil) (And.intro (.cons (.any _) (.cons (.any _) .nil)) (And.intro (Exp.of (congrArg (D.int .i64) (by first | (unfold crossV crossI crossO; simp only [*, Bool.not_true, Bool.not_false, Bool.and_true, Bool.true_and, Bool.and_false, Bool.false_and, if_true, if_false, reduceIte, Bool.false_eq_true]; done) | (simp_all; done) | (exfalso; simp_all; done))) (.d _)) (And.intro rfl rfl))))))
 | false =>
  refine Ch.s (.d (.slice false 1 (block.map (fun n : Int => D.int .i64 n)))) (.pure (.move _ rfl rfl)) ?_
  refine Ch.s (.ptr 2000 3) (.pure (.fldPtr _ _ _ rfl fld85_3 rfl)) ?_
  refine Ch.s (.d (.int .i64 a.dst)) (.pure (.loadPtr1 _ _ rfl ag3 rfl rfl rfl)) ?_
  refine Ch.s (.d (.bool (hasI block a.dst))) (.call 15000 82 _ _ _ en82 rfl (.inl rfl) (.cons (.d _) (.cons (.d _) .nil)) rfl rfl (sp_spec_l1Has block a.dst (by first | assumption | omega | (rw [List.length_take]; omega) | (have := bulkF_mem hb _ (getD_mem (d := default) (by omega)); assumption) | (unfold bulkS at *; omega) | (simp_all; done))) (.skip _ _ (.skip _ _ .nil)) rfl) ?_
  refine Ch.s (.d (.bool (hasI block a.dst))) (.pure (.pickT _ _ _ rfl rfl rfl)) ?_
  refine Ch.s (.d (.bool (hasI block a.dst))) (.pure (.assign _ rfl rfl)) ?_
  refine Ch.nil ?_
  refine T_cond (b := (hasI block a.dst)) rfl (fun h4 => ?_) (fun h4 => ?_)
  ·
   refine T_seq ?_
   refine T_region hc ?_
   refine Ch.s (.d (.int .i64 1)) (.pure (.assign _ rfl rfl)) ?_
   refine Ch.nil ?_
   refine T_ret ?_
   refine And.intro (.inr rfl) ?_
   exact Exists.intro [(.d (.int .i64 1))] (Exists.intro [] (Exists.intro [] (And.intro (.cons (.tmp 4 rfl) .nil) (And.intro (.cons (.any _) (.cons (.any _) .nil)) (And.intro (Exp.of (congrArg (D.int .i64) (by first | (unfold crossV crossI crossO; simp only [*, Bool.not_true, Bool.not_false, Bool.and_true, Bool.true_and, Bool.and_false, Bool.false_and, if_true, if_false, reduceIte, Bool.false_eq_true]; done) | (simp_all; done) | (exfalso; simp_all; done))) (.d _)) (And.intro rfl rfl))))))
  ·
   refine T_seq ?_
   refine T_region hc ?_
   refine Ch.s (.d (.slice false 1 (block.map (fun n : Int => D.int .i64 n)))) (.pure (.move _ rfl rfl)) ?_
   refine Ch.s (.ptr 2000 0) (.pure (.fldPtr _ _ _ rfl fld85_0 rfl)) ?_
   refine Ch.s (.d (.int .i64 a.src)) (.pure (.loadPtr1 _ _ rfl ag3 rfl rfl rfl)) ?_
   refine Ch.s (.d (.bool (hasI block a.src))) (.call 21000 82 _ _ _ en82 rfl (.inl rfl) (.cons (.d _) (.cons (.d _) .nil)) rfl rfl (sp_spec_l1Has block a.src (by first | assumption | omega | (rw [List.length_take]; omega) | (have := bulkF_mem hb _ (getD_mem (d := default) (by omega)); assumption) | (unfold bulkS at *; omega) | (simp_all; done))) (.skip _ _ (.skip _ _ .nil)) rfl) ?_
   refine Ch.s (.d (.bool (hasI block a.src))) (.pure (.move _ rfl rfl)) ?_
   cases h5 : (hasI block a.src) with
   | true =>
    refine Ch.s (.d (.slice false 1 (block.map (fun n : Int => D.int .i64 n)))) (.pure (.move _ rfl rfl)) ?_
    refine Ch.s (.ptr 2000 3) (.pure (.fldPtr _ _ _ rfl fld85_3 rfl)) ?_
    refine Ch.s (.d (.int .i64 a.dst)) (.pure (.loadPtr1 _ _ rfl ag3 rfl rfl rfl)) ?_
    refine Ch.s (.d (.bool (hasI block a.dst))) (.call 26000 82 _ _ _ en82 rfl (.inl rfl) (.cons (.d _) (.cons (.d _) .nil)) rfl rfl (sp_spec_l1Has block a.dst (by first | assumption | omega | (rw [List.length_take]; omega) | (have := bulkF_mem hb _ (getD_mem (d := default) (by omega)); assumption) | (unfold bulkS at *; omega) | (simp_all; done))) (.skip _ _ (.skip _ _ .nil)) rfl) ?_
    refine Ch.s (.d (.bool (!(hasI block a.dst)))) (.pure (.not _ _ rfl rfl)) ?_
    refine Ch.s (.d (.bool (!(hasI block a.dst)))) (.pure (.pickT _ _ _ rfl rfl rfl)) ?_
    refine Ch.s (.d (.bool (!(hasI block a.dst)))) (.pure (.assign _ rfl rfl)) ?_
    refine Ch.nil ?_
    refine T_cond (b := (!(hasI block a.dst))) rfl (fun h6 => ?_) (fun h6 => ?_)
    ·
     replace h6 := nott h6
     refine T_seq ?_
     refine T_region hc ?_
     refine Ch.s (.d (.int .i64 2)) (.pure (.assign _ rfl rfl)) ?_
     refine Ch.nil ?_
     refine T_ret ?_
     refine And.intro (.inr rfl) ?_
     exact Exists.intro [(.d (.int .i64 2))] (Exists.intro [] (Exists.intro [] (And.intro (.cons (.tmp 4 rfl) .nil) (And.intro (.cons (.any _) (.cons (.any _) .nil)) (And.intro (Exp.of (congrArg (D.int .i64) (by first | (unfold crossV crossI crossO; simp only [*, Bool.not_true, Bool.not_false, Bool.and_true, Bool.true_and, Bool.and_false, Bool.false_and, if_true, if_false, reduceIte, Bool.false_eq_true]; done) | (simp_all; done) | (exfalso; simp_all; done))) (.d _)) (And.intro rfl rfl))))))
    ·
     replace h6 := notf h6
     refine T_skip ?_
     refine T_seq ?_
     refine T_region hc ?_
     refine Ch.s (.d (.int .i64 0)) (.pure (.assign _ rfl rfl)) ?_
     refine Ch.nil ?_
     refine T_ret ?_
     refine And.intro (.inr rfl) ?_
     exact Exists.intro [(.d (.int .i64 0))] (Exists.intro [] (Exists.intro [] (And.intro (.cons (.tmp 4 rfl) .nil) (And.intro (.cons (.any _) (.cons (.any _) .nil)) (And.intro (Exp.of (congrArg (D.int .i64) (by first | (unfold crossV crossI crossO; simp only [*, Bool.not_true, Bool.not_false, Bool.and_true, Bool.true_and, Bool.and_false, Bool.false_and, if_true, if_false, reduceIte, Bool.false_eq_true]; done) | (simp_all; done) | (exfalso; simp_all; done))) (.d _)) (And.intro rfl rfl))))))
   | false =>
    refine Ch.skip rfl rfl ?_
    refine Ch.skip rfl rfl ?_
    refine Ch.skip rfl rfl ?_
    refine Ch.skip rfl rfl ?_
    refine Ch.skip rfl rfl ?_
    refine Ch.s (.d (.bool false)) (.pure (.pickF _ _ _ rfl rfl rfl)) ?_
    refine Ch.s (.d (.bool false)) (.pure (.assign _ rfl rfl)) ?_
    refine Ch.nil ?_
    refine T_cond (b := false) rfl (fun h => nomatch h) (fun _ => ?_)
    refine T_skip ?_
    refine T_seq ?_
    refine T_region hc ?_
    refine Ch.s (.d (.int .i64 0)) (.pure (.assign _ rfl rfl)) ?_
    refine Ch.nil ?_
    refine T_ret ?_
    refine And.intro (.inr rfl) ?_
    exact Exists.intro [(.d (.int .i64 0))] (Exists.intro [] (Exists.intro [] (And.intro (.cons (.tmp 4 rfl) .nil) (And.intro (.cons (.any _) (.cons (.any _) .nil)) (And.intro (Exp.of (congrArg (D.int .i64) (by first | (unfold crossV crossI crossO; simp only [*, Bool.not_true, Bool.not_false, Bool.and_true, Bool.true_and, Bool.and_false, Bool.false_and, if_true, if_false, reduceIte, Bool.false_eq_true]; done) | (simp_all; done) | (exfalso; simp_all; done))) (.d _)) (And.intro rfl rfl))))))

set_option maxHeartbeats 4000000 in
theorem sp_spec_l12SignsFor (x : Sgr) (s r : Lab) (hb : x.bulk ≤ 1048576) (hx : SgOk x) : Sp Try.prog 49 [(.agg [(.slice false 2 (x.sigs.map Sgn.d)), (.slice false 1 (x.codes.map D.str)), (.slice false 4 (x.arcs.map Arc.d))]), (.agg [(.int .i64 s.sig), (.bool (s.up))]), (.agg [(.int .i64 r.sig), (.bool (r.up))])] [.any, .any, .any] (.tup [(.str (signsF x (blkL x s r))), (.bool (okP x s r))]) := by
 refine Sp_intro (lend := true) Try.func49 rfl rfl rfl (fun _ => rfl) (fun c hc hX => ?_)
 obtain ⟨hp0, hp1, hp2⟩ := Sgr.parts hb
 have hn0 := bulkF_len hp0
 have hn1 := bulk_len hp1
 have hx1 := bulk_mem hp1
 have hn2 := bulkF_len hp2; have hx8 := hx.eight; have hxl := hx.len; have hxf := hx.few; have hen := hx.ends; have hbl := blkL_le hen s r; have hcl := crossTo_len x (blkL x s r); have hgl := signsF_len hen (blkL x s r); have hen2 : ends (signsF x (blkL x s r)).length x.arcs := (by rw [hgl]; exact hen)
 refine T_seq ?_
 refine T_region hc ?_
 refine Ch.s (.ptr 3000 0) (.box 3000 _ _ rfl (.aggD _)) ?_
 refine Ch.s (.ptr 4000 0) (.box 4000 _ _ rfl (.aggD _)) ?_
 refine Ch.s (.ptr 5000 0) (.box 5000 _ _ rfl (.aggD _)) ?_
 refine Ch.s (.d (.str [])) (.pure (.assign _ rfl rfl)) ?_
 refine Ch.s (.d (.bool false)) (.pure (.assign _ rfl rfl)) ?_
 refine Ch.nil ?_
 refine T_seq ?_
 refine T_region hc ?_
 refine Ch.s (.agg [(.d (.slice false 2 (x.sigs.map Sgn.d))), (.d (.slice false 1 (x.codes.map D.str))), (.d (.slice false 4 (x.arcs.map Arc.d)))]) (.pure (.loadPtrA _ _ rfl ag34 sz34 rfl rfl (Nat.le_of_ble_eq_true rfl) rfl)) ?_
 refine Ch.s (.agg [(.d (.int .i64 s.sig)), (.d (.bool (s.up)))]) (.pure (.loadPtrA _ _ rfl ag46 sz46 rfl rfl (Nat.le_of_ble_eq_true rfl) rfl)) ?_
 refine Ch.s (.agg [(.d (.int .i64 r.sig)), (.d (.bool (r.up)))]) (.pure (.loadPtrA _ _ rfl ag46 sz46 rfl rfl (Nat.le_of_ble_eq_true rfl) rfl)) ?_
 refine Ch.step (v := (.row 19000)) rfl (.call 19000 46 _ _ _ en46 rfl (.inl rfl) (.cons (.lend (.agg (.cons (.d _) (.cons (.d _) (.cons (.d _) .nil))) rfl)) (.cons (.lend (.agg (.cons (.d _) (.cons (.d _) .nil)) rfl)) (.cons (.lend (.agg (.cons (.d _) (.cons (.d _) .nil)) rfl)) .nil))) rfl (sol (solid_row (fun _ => rfl) _) rfl) (sp_spec_l12Block x s r (by first | assumption | omega | (rw [List.length_take]; omega) | (have := bulkF_mem hb _ (getD_mem (d := default) (by omega)); assumption) | (unfold bulkS at *; omega) | (simp_all; done)) (by assumption)) (.skip _ _ (.skip _ _ (.skip _ _ .nil))) rfl) rfl rfl ?_
 refine Ch.s (.row 19000) (.pure (.assign _ rfl rfl)) ?_
 refine Ch.nil ?_
 refine T_seq ?_
 refine T_region hc ?_
 refine Ch.s (.ptr 3000 1) (.pure (.fldPtr _ _ _ rfl fld34_1 rfl)) ?_
 refine Ch.s (.d (.slice false 1 (x.codes.map D.str))) (.pure (.loadPtr1 _ _ rfl ag23 rfl rfl rfl)) ?_
 refine Ch.s (.d (.int .i64 ((x.codes.length : Nat) : Int))) (.pure (.len _ _ 9 rfl Try.underlying23 (.sh _ _) (by simp))) ?_
 refine Ch.s (.row 23000) (.make 23000 _ 5 _ _ (x.codes.length) (x.codes.length) rfl sty102 rfl rfl rfl rfl (by first | omega | (simp only [List.length_map, List.length_append, List.length_take, List.length_drop, List.length_cons, List.length_nil]; omega) | (simp; omega) | (simp; done)) (by first | omega | (simp only [List.length_map, List.length_append, List.length_take, List.length_drop, List.length_cons, List.length_nil]; omega) | (simp; omega) | (simp; done)) (by first | omega | (simp only [List.length_map, List.length_append, List.length_take, List.length_drop, List.length_cons, List.length_nil]; omega) | (simp; omega) | (simp; done)) (zeroD_mk (zd := (.int .u8 0)) zr5 (by intro S w; rw [DR]; exact ⟨rfl, rfl⟩) rfl)) ?_
 refine Ch.s (.row 23000) (.pure (.assign _ rfl rfl)) ?_
 refine Ch.nil ?_
 refine T_seq ?_
 refine T_seq ?_
 refine T_region hc ?_
 refine Ch.s (.row 23000) (.pure (.move _ rfl rfl)) ?_
 refine Ch.s (.d (.int .i64 ((x.codes.length : Nat) : Int))) (.pure (.len _ _ 5 rfl Try.underlying102 (.row rfl) List.length_replicate)) ?_
 refine Ch.s (.d (.int .i64 0)) (.pure (.move _ rfl rfl)) ?_
 refine Ch.nil ?_
 refine T_block ?_
 refine T_loop (ι := Nat) (fun k => { n := 139, sl := [(3, (.ptr 3000 0)), (8, (.row 19000)), (9, (.row 9)), (25, (.d (.int .i64 ((x.codes.length : Nat) : Int)))), (26, (.d (.int .i64 ((k : Nat) : Int))))], hp := [(9, (some (.row 1 ((sdFill (blkL x s r) x.codes.length k).map byteD)))), (3000, (some (.box [(.d (.slice false 2 (x.sigs.map Sgn.d))), (.d (.slice false 1 (x.codes.map D.str))), (.d (.slice false 4 (x.arcs.map Arc.d)))]))), (19000, (some (.row 1 ((blkL x s r).map (fun n : Int => D.int .i64 n)))))], pin := [] }) (fun k => k ≤ x.codes.length) (fun k => x.codes.length - k) ⟨0, (by omega), (Wk.ren [(9, 23000)] rfl rfl rfl rfl (And.intro rfl (And.intro rfl (And.intro rfl (And.intro rfl (And.intro (vI (by first | rfl | omega | (simp; done) | (simp; omega))) trivial))))) (And.intro (oR (by first | (rw [sdFill, List.map_append, List.map_replicate]; rfl) | (exact sdFill_one (by omega) (by assumption)) | (exact sdFill_nil (by omega) (by assumption)))) (And.intro rfl (And.intro rfl trivial))))⟩ (fun k hp0 => ?_)
 have hsf := sdFill_len (block := (blkL x s r)) hp0
 refine T_seq ?_
 refine T_region hc ?_
 refine Ch.s (.d (.bool (decide (((k : Nat) : Int) < ((x.codes.length : Nat) : Int))))) (.pure (.int _ _ _ _ _ rfl rfl rfl rfl)) ?_
 refine Ch.nil ?_
 refine T_seq ?_
 refine T_cond (b := (decide (((k : Nat) : Int) < ((x.codes.length : Nat) : Int)))) rfl (fun h1 => ?_) (fun h1 => ?_)
 ·
  replace h1 := of_decide_eq_true h1
  refine T_skip ?_
  refine T_seq ?_
  refine T_block ?_
  refine T_seq ?_
  refine T_region hc ?_
  refine Ch.s (.d (.int .i64 ((k : Nat) : Int))) (.pure (.move _ rfl rfl)) ?_
  refine Ch.s (.d (.int .i64 ((k : Nat) : Int))) (.pure (.assign _ rfl rfl)) ?_
  refine Ch.nil ?_
  refine T_seq ?_
  refine T_region hc ?_
  refine Ch.s (.row 9) (.pure (.move _ rfl rfl)) ?_
  refine Ch.s (.d (.int .i64 ((k : Nat) : Int))) (.pure (.move _ rfl rfl)) ?_
  refine Ch.s (.el 9 1 k 0) (.pure (.idxRow _ _ _ 5 (k) rfl Try.underlying102 sz5 rfl rfl rfl rfl (by first | omega | (simp only [List.length_map, List.length_set]; omega) | (simp; omega)))) ?_
  refine Ch.s .junk (.storeEl (y' := (.int .u8 48)) _ _ _ rfl rfl rfl (.d _) rfl sz5 rfl get_mapA rfl rfl) ?_
  refine Ch.nil ?_
  refine T_seq ?_
  refine T_region hc ?_
  refine Ch.s (.row 19000) (.pure (.move _ rfl rfl)) ?_
  refine Ch.s (.d (.int .i64 ((k : Nat) : Int))) (.pure (.move _ rfl rfl)) ?_
  refine Ch.s (.d (.bool (hasI (blkL x s r) ((k : Nat) : Int)))) (.call 34000 82 _ _ _ en82 rfl (.inl rfl) (.cons (.lend (.row rfl (frozs_map (fun _ => rfl) _))) (.cons (.d _) .nil)) rfl rfl (sp_spec_l1Has (blkL x s r) ((k : Nat) : Int) (by first | assumption | omega | (rw [List.length_take]; omega) | (have := bulkF_mem hb _ (getD_mem (d := default) (by omega)); assumption) | (unfold bulkS at *; omega) | (simp_all; done))) (.skip _ _ (.skip _ _ .nil)) rfl) ?_
  refine Ch.nil ?_
  refine T_cond (b := (hasI (blkL x s r) ((k : Nat) : Int))) rfl (fun h2 => ?_) (fun h2 => ?_)
  ·
   refine T_region hc ?_
   refine Ch.s (.row 9) (.pure (.move _ rfl rfl)) ?_
   refine Ch.s (.d (.int .i64 ((k : Nat) : Int))) (.pure (.move _ rfl rfl)) ?_
   refine Ch.s (.el 9 1 k 0) (.pure (.idxRow _ _ _ 5 (k) rfl Try.underlying102 sz5 rfl rfl rfl rfl (by first | omega | (simp only [List.length_map, List.length_set]; omega) | (simp; omega)))) ?_
   refine Ch.s .junk (.storeEl (y' := (.int .u8 49)) _ _ _ rfl rfl rfl (.d _) rfl sz5 rfl (get_set (by first | omega | (simp only [List.length_map, List.length_set]; omega) | (simp; omega))) rfl rfl) ?_
   refine Ch.nil ?_
   refine T_region hc ?_
   refine Ch.s (.d (.int .i64 (((k : Nat) : Int) + 1))) (.pure (.int _ _ _ _ _ rfl rfl rfl intV_addA)) ?_
   refine Ch.s (.d (.int .i64 (((k : Nat) : Int) + 1))) (.pure (.move _ rfl rfl)) ?_
   refine Ch.nil ?_
   refine Exists.intro (k + 1) (And.intro (by omega) (And.intro (by first | omega | (dsimp only; omega)) (Wk.of rfl rfl (And.intro rfl (And.intro rfl (And.intro rfl (And.intro rfl (And.intro (vI (by first | rfl | omega | (simp; done) | (simp; omega))) trivial))))) (And.intro (oR (by first | (rw [sdFill, List.map_append, List.map_replicate]; rfl) | (exact sdFill_one (by omega) (by assumption)) | (exact sdFill_nil (by omega) (by assumption)))) (And.intro rfl (And.intro rfl trivial))))))
  ·
   refine T_skip ?_
   refine T_region hc ?_
   refine Ch.s (.d (.int .i64 (((k : Nat) : Int) + 1))) (.pure (.int _ _ _ _ _ rfl rfl rfl intV_addA)) ?_
   refine Ch.s (.d (.int .i64 (((k : Nat) : Int) + 1))) (.pure (.move _ rfl rfl)) ?_
   refine Ch.nil ?_
   refine Exists.intro (k + 1) (And.intro (by omega) (And.intro (by first | omega | (dsimp only; omega)) (Wk.of rfl rfl (And.intro rfl (And.intro rfl (And.intro rfl (And.intro rfl (And.intro (vI (by first | rfl | omega | (simp; done) | (simp; omega))) trivial))))) (And.intro (oR (by first | (rw [sdFill, List.map_append, List.map_replicate]; rfl) | (exact sdFill_one (by omega) (by assumption)) | (exact sdFill_nil (by omega) (by assumption)))) (And.intro rfl (And.intro rfl trivial))))))
 ·
  replace h1 := of_decide_eq_false h1
  refine T_exit ?_
  refine T_seq ?_
  refine T_seq ?_
  refine T_region hc ?_
  refine Ch.s (.ptr 3000 2) (.pure (.fldPtr _ _ _ rfl fld34_2 rfl)) ?_
  refine Ch.s (.d (.slice false 4 (x.arcs.map Arc.d))) (.pure (.loadPtr1 _ _ rfl ag32 rfl rfl rfl)) ?_
  refine Ch.s (.d (.int .i64 ((x.arcs.length : Nat) : Int))) (.pure (.len _ _ 85 rfl Try.underlying32 (.sh _ _) (by simp))) ?_
  refine Ch.s (.d (.int .i64 0)) (.pure (.move _ rfl rfl)) ?_
  refine Ch.nil ?_
  refine T_block ?_
  refine T_loop (ι := Nat) (fun m => { n := 139, sl := [(3, (.ptr 3000 0)), (8, (.row 19000)), (9, (.row 9)), (40, (.d (.slice false 4 (x.arcs.map Arc.d)))), (41, (.d (.int .i64 ((x.arcs.length : Nat) : Int)))), (42, (.d (.int .i64 ((m : Nat) : Int))))], hp := [(9, (some (.row 1 ((crossTo x (blkL x s r) m).map byteD)))), (3000, (some (.box [(.d (.slice false 2 (x.sigs.map Sgn.d))), (.d (.slice false 1 (x.codes.map D.str))), (.d (.slice false 4 (x.arcs.map Arc.d)))]))), (19000, (some (.row 1 ((blkL x s r).map (fun n : Int => D.int .i64 n)))))], pin := [] }) (fun m => m ≤ x.arcs.length) (fun m => x.arcs.length - m) ⟨0, (by omega), (Wk.of rfl rfl (And.intro rfl (And.intro rfl (And.intro rfl (And.intro rfl (And.intro rfl (And.intro (vI (by first | rfl | omega | (simp; done) | (simp; omega))) trivial)))))) (And.intro (oR (by first | (rw [sdFill_all (by omega)]; rfl) | (exact cross_v1 (by omega) (by assumption)) | (exact cross_v2 (by omega) (by assumption)) | (exact congrArg (List.map _) (cross_v0 (by omega) (by assumption) (by assumption))))) (And.intro rfl (And.intro rfl trivial))))⟩ (fun m hp1 => ?_)
  have hcm := hcl m
  refine T_seq ?_
  refine T_region hc ?_
  refine Ch.s (.d (.bool (decide (((m : Nat) : Int) < ((x.arcs.length : Nat) : Int))))) (.pure (.int _ _ _ _ _ rfl rfl rfl rfl)) ?_
  refine Ch.nil ?_
  refine T_seq ?_
  refine T_cond (b := (decide (((m : Nat) : Int) < ((x.arcs.length : Nat) : Int)))) rfl (fun h3 => ?_) (fun h3 => ?_)
  ·
   replace h3 := of_decide_eq_true h3
   try have hek := hen _ (getD_mem (l := x.arcs) (j := m) (d := default) (by omega))
   try have hsk := (hx.sig _ (getD_mem (l := x.arcs) (j := m) (d := default) (by omega))).1
   try have hss := (hx.sig _ (getD_mem (l := x.arcs) (j := m) (d := default) (by omega))).2
   refine T_skip ?_
   refine T_seq ?_
   refine T_block ?_
   refine T_seq ?_
   refine T_region hc ?_
   refine Ch.s (.d (.ref (.agg [(.int .i64 ((x.arcs.getD m default).src)), (.int .i64 ((x.arcs.getD m default).sig)), (.bool ((x.arcs.getD m default).up)), (.int .i64 ((x.arcs.getD m default).dst))]))) (.pure (.idx _ _ _ 85 (m) rfl Try.underlying32 sz85 rfl rfl rfl get_mapA)) ?_
   refine Ch.s (.d (.agg [(.int .i64 ((x.arcs.getD m default).src)), (.int .i64 ((x.arcs.getD m default).sig)), (.bool ((x.arcs.getD m default).up)), (.int .i64 ((x.arcs.getD m default).dst))])) (.pure (.loadRefA _ _ rfl ag85 sz85 rfl)) ?_
   refine Ch.s (.ptr 12000 0) (.alloc 12000 _ rfl zer85) ?_
   refine Ch.s .junk (.storePtr _ _ _ rfl rfl rfl (.aggD _) sz85 (Nat.le_of_ble_eq_true rfl)) ?_
   refine Ch.nil ?_
   refine T_seq ?_
   refine T_region hc ?_
   refine Ch.s (.agg [(.d (.int .i64 ((x.arcs.getD m default).src))), (.d (.int .i64 ((x.arcs.getD m default).sig))), (.d (.bool ((x.arcs.getD m default).up))), (.d (.int .i64 ((x.arcs.getD m default).dst)))]) (.pure (.loadPtrA _ _ rfl ag85 sz85 rfl rfl (Nat.le_of_ble_eq_true rfl) rfl)) ?_
   refine Ch.s (.row 19000) (.pure (.move _ rfl rfl)) ?_
   refine Ch.s (.d (.int .i64 (crossV (blkL x s r) (x.arcs.getD m default)))) (.call 48000 88 _ _ _ en88 rfl (.inl rfl) (.cons (.lend (.agg (.cons (.d _) (.cons (.d _) (.cons (.d _) (.cons (.d _) .nil)))) rfl)) (.cons (.lend (.row rfl (frozs_map (fun _ => rfl) _))) .nil)) rfl rfl (sp_spec_l10Cross (x.arcs.getD m default) (blkL x s r) (by first | assumption | omega | (rw [List.length_take]; omega) | (have := bulkF_mem hb _ (getD_mem (d := default) (by omega)); assumption) | (unfold bulkS at *; omega) | (simp_all; done))) (.skip _ _ (.skip _ _ .nil)) rfl) ?_
   refine Ch.nil ?_
   refine T_block ?_
   refine T_seq ?_
   refine T_region hc ?_
   refine Ch.s (.d (.bool (decide ((crossV (blkL x s r) (x.arcs.getD m default)) = 1)))) (.pure (.int _ _ _ _ _ rfl rfl rfl rfl)) ?_
   refine Ch.s (.d (.bool (decide ((crossV (blkL x s r) (x.arcs.getD m default)) = 1)))) (.pure (.assign _ rfl rfl)) ?_
   refine Ch.nil ?_
   refine T_cond (b := (decide ((crossV (blkL x s r) (x.arcs.getD m default)) = 1))) rfl (fun h4 => ?_) (fun h4 => ?_)
   ·
    replace h4 := of_decide_eq_true h4
    try have hek := hen _ (getD_mem (l := x.arcs) (j := m) (d := default) (by omega))
    try have hsk := (hx.sig _ (getD_mem (l := x.arcs) (j := m) (d := default) (by omega))).1
    try have hss := (hx.sig _ (getD_mem (l := x.arcs) (j := m) (d := default) (by omega))).2
    refine T_region hc ?_
    refine Ch.s (.row 9) (.pure (.move _ rfl rfl)) ?_
    refine Ch.s (.ptr 12000 3) (.pure (.fldPtr _ _ _ rfl fld85_3 rfl)) ?_
    refine Ch.s (.d (.int .i64 ((x.arcs.getD m default).dst))) (.pure (.loadPtr1 _ _ rfl ag3 rfl rfl rfl)) ?_
    refine Ch.s (.el 9 1 ((((x.arcs.getD m default).dst)).toNat) 0) (.pure (.idxRow _ _ _ 5 ((((x.arcs.getD m default).dst)).toNat) rfl Try.underlying102 sz5 rfl rfl rfl (by omega) (by first | omega | (simp only [List.length_map, List.length_set]; omega) | (simp; omega)))) ?_
    refine Ch.s .junk (.storeEl (y' := (.int .u8 43)) _ _ _ rfl rfl rfl (.d _) rfl sz5 rfl get_mapA rfl rfl) ?_
    refine Ch.nil ?_
    refine T_region hc ?_
    refine Ch.s (.d (.int .i64 (((m : Nat) : Int) + 1))) (.pure (.int _ _ _ _ _ rfl rfl rfl intV_addA)) ?_
    refine Ch.s (.d (.int .i64 (((m : Nat) : Int) + 1))) (.pure (.move _ rfl rfl)) ?_
    refine Ch.nil ?_
    refine Exists.intro (m + 1) (And.intro (by omega) (And.intro (by first | omega | (dsimp only; omega)) (Wk.of rfl rfl (And.intro rfl (And.intro rfl (And.intro rfl (And.intro rfl (And.intro rfl (And.intro (vI (by first | rfl | omega | (simp; done) | (simp; omega))) trivial)))))) (And.intro (oR (by first | (rw [sdFill_all (by omega)]; rfl) | (exact cross_v1 (by omega) (by assumption)) | (exact cross_v2 (by omega) (by assumption)) | (exact congrArg (List.map _) (cross_v0 (by omega) (by assumption) (by assumption))))) (And.intro rfl (And.intro rfl trivial))))))
   ·
    replace h4 := of_decide_eq_false h4
    try have hek := hen _ (getD_mem (l := x.arcs) (j := m) (d := default) (by omega))
    try have hsk := (hx.sig _ (getD_mem (l := x.arcs) (j := m) (d := default) (by omega))).1
    try have hss := (hx.sig _ (getD_mem (l := x.arcs) (j := m) (d := default) (by omega))).2
    refine T_seq ?_
    refine T_region hc ?_
    refine Ch.s (.d (.bool (decide ((crossV (blkL x s r) (x.arcs.getD m default)) = 2)))) (.pure (.int _ _ _ _ _ rfl rfl rfl rfl)) ?_
    refine Ch.s (.d (.bool (decide ((crossV (blkL x s r) (x.arcs.getD m default)) = 2)))) (.pure (.assign _ rfl rfl)) ?_
    refine Ch.nil ?_
    refine T_cond (b := (decide ((crossV (blkL x s r) (x.arcs.getD m default)) = 2))) rfl (fun h5 => ?_) (fun h5 => ?_)
    ·
     replace h5 := of_decide_eq_true h5
     try have hek := hen _ (getD_mem (l := x.arcs) (j := m) (d := default) (by omega))
     try have hsk := (hx.sig _ (getD_mem (l := x.arcs) (j := m) (d := default) (by omega))).1
     try have hss := (hx.sig _ (getD_mem (l := x.arcs) (j := m) (d := default) (by omega))).2
     refine T_region hc ?_
     refine Ch.s (.row 9) (.pure (.move _ rfl rfl)) ?_
     refine Ch.s (.ptr 12000 3) (.pure (.fldPtr _ _ _ rfl fld85_3 rfl)) ?_
     refine Ch.s (.d (.int .i64 ((x.arcs.getD m default).dst))) (.pure (.loadPtr1 _ _ rfl ag3 rfl rfl rfl)) ?_
     refine Ch.s (.el 9 1 ((((x.arcs.getD m default).dst)).toNat) 0) (.pure (.idxRow _ _ _ 5 ((((x.arcs.getD m default).dst)).toNat) rfl Try.underlying102 sz5 rfl rfl rfl (by omega) (by first | omega | (simp only [List.length_map, List.length_set]; omega) | (simp; omega)))) ?_
     refine Ch.s .junk (.storeEl (y' := (.int .u8 45)) _ _ _ rfl rfl rfl (.d _) rfl sz5 rfl get_mapA rfl rfl) ?_
     refine Ch.nil ?_
     refine T_region hc ?_
     refine Ch.s (.d (.int .i64 (((m : Nat) : Int) + 1))) (.pure (.int _ _ _ _ _ rfl rfl rfl intV_addA)) ?_
     refine Ch.s (.d (.int .i64 (((m : Nat) : Int) + 1))) (.pure (.move _ rfl rfl)) ?_
     refine Ch.nil ?_
     refine Exists.intro (m + 1) (And.intro (by omega) (And.intro (by first | omega | (dsimp only; omega)) (Wk.of rfl rfl (And.intro rfl (And.intro rfl (And.intro rfl (And.intro rfl (And.intro rfl (And.intro (vI (by first | rfl | omega | (simp; done) | (simp; omega))) trivial)))))) (And.intro (oR (by first | (rw [sdFill_all (by omega)]; rfl) | (exact cross_v1 (by omega) (by assumption)) | (exact cross_v2 (by omega) (by assumption)) | (exact congrArg (List.map _) (cross_v0 (by omega) (by assumption) (by assumption))))) (And.intro rfl (And.intro rfl trivial))))))
    ·
     replace h5 := of_decide_eq_false h5
     try have hek := hen _ (getD_mem (l := x.arcs) (j := m) (d := default) (by omega))
     try have hsk := (hx.sig _ (getD_mem (l := x.arcs) (j := m) (d := default) (by omega))).1
     try have hss := (hx.sig _ (getD_mem (l := x.arcs) (j := m) (d := default) (by omega))).2
     refine T_skip ?_
     refine T_region hc ?_
     refine Ch.s (.d (.int .i64 (((m : Nat) : Int) + 1))) (.pure (.int _ _ _ _ _ rfl rfl rfl intV_addA)) ?_
     refine Ch.s (.d (.int .i64 (((m : Nat) : Int) + 1))) (.pure (.move _ rfl rfl)) ?_
     refine Ch.nil ?_
     refine Exists.intro (m + 1) (And.intro (by omega) (And.intro (by first | omega | (dsimp only; omega)) (Wk.of rfl rfl (And.intro rfl (And.intro rfl (And.intro rfl (And.intro rfl (And.intro rfl (And.intro (vI (by first | rfl | omega | (simp; done) | (simp; omega))) trivial)))))) (And.intro (oR (by first | (rw [sdFill_all (by omega)]; rfl) | (exact cross_v1 (by omega) (by assumption)) | (exact cross_v2 (by omega) (by assumption)) | (exact congrArg (List.map _) (cross_v0 (by omega) (by assumption) (by assumption))))) (And.intro rfl (And.intro rfl trivial))))))
  ·
   replace h3 := of_decide_eq_false h3
   try have hek := hen _ (getD_mem (l := x.arcs) (j := m) (d := default) (by omega))
   try have hsk := (hx.sig _ (getD_mem (l := x.arcs) (j := m) (d := default) (by omega))).1
   try have hss := (hx.sig _ (getD_mem (l := x.arcs) (j := m) (d := default) (by omega))).2
   refine T_exit ?_
   refine T_seq ?_
   refine T_seq ?_
   refine T_region hc ?_
   refine Ch.s (.ptr 3000 1) (.pure (.fldPtr _ _ _ rfl fld34_1 rfl)) ?_
   refine Ch.s (.d (.slice false 1 (x.codes.map D.str))) (.pure (.loadPtr1 _ _ rfl ag23 rfl rfl rfl)) ?_
   refine Ch.s (.d (.int .i64 ((x.codes.length : Nat) : Int))) (.pure (.len _ _ 9 rfl Try.underlying23 (.sh _ _) (by simp))) ?_
   refine Ch.s (.d (.int .i64 0)) (.pure (.move _ rfl rfl)) ?_
   refine Ch.nil ?_
   refine T_block ?_
   refine T_loop (ι := Nat) (fun q => { n := 139, sl := [(3, (.ptr 3000 0)), (8, (.row 19000)), (9, (.row 9)), (64, (.d (.int .i64 ((x.codes.length : Nat) : Int)))), (65, (.d (.int .i64 ((q : Nat) : Int))))], hp := [(9, (some (.row 1 ((spIt x (blkL x s r) q).map byteD)))), (3000, (some (.box [(.d (.slice false 2 (x.sigs.map Sgn.d))), (.d (.slice false 1 (x.codes.map D.str))), (.d (.slice false 4 (x.arcs.map Arc.d)))]))), (19000, (some (.row 1 ((blkL x s r).map (fun n : Int => D.int .i64 n)))))], pin := [] }) (fun q => q ≤ x.codes.length) (fun q => x.codes.length - q) ⟨0, (by omega), (Wk.of rfl rfl (And.intro rfl (And.intro rfl (And.intro rfl (And.intro rfl (And.intro (vI (by first | rfl | omega | (simp; done) | (simp; omega))) trivial))))) (And.intro (oR (by first | (rw [show m = x.arcs.length by omega]; rfl) | (rw [spTo_next (by omega)]; done))) (And.intro rfl (And.intro rfl trivial))))⟩ (fun q hp2 => ?_)
   have hsp0 := (spIt_ok (x := x) (block := (blkL x s r)) hen q).1; have hen3 : ends (spIt x (blkL x s r) q).length x.arcs := (by rw [hsp0]; exact hen)
   refine T_seq ?_
   refine T_region hc ?_
   refine Ch.s (.d (.bool (decide (((q : Nat) : Int) < ((x.codes.length : Nat) : Int))))) (.pure (.int _ _ _ _ _ rfl rfl rfl rfl)) ?_
   refine Ch.nil ?_
   refine T_seq ?_
   refine T_cond (b := (decide (((q : Nat) : Int) < ((x.codes.length : Nat) : Int)))) rfl (fun h6 => ?_) (fun h6 => ?_)
   ·
    replace h6 := of_decide_eq_true h6
    try have hek := hen _ (getD_mem (l := x.arcs) (j := p) (d := default) (by omega))
    try have hsk := (hx.sig _ (getD_mem (l := x.arcs) (j := p) (d := default) (by omega))).1
    try have hss := (hx.sig _ (getD_mem (l := x.arcs) (j := p) (d := default) (by omega))).2
    try have hek := hen _ (getD_mem (l := x.arcs) (j := m) (d := default) (by omega))
    try have hsk := (hx.sig _ (getD_mem (l := x.arcs) (j := m) (d := default) (by omega))).1
    try have hss := (hx.sig _ (getD_mem (l := x.arcs) (j := m) (d := default) (by omega))).2
    refine T_skip ?_
    refine T_seq ?_
    refine T_block ?_
    refine T_seq ?_
    refine T_region hc ?_
    refine Ch.s (.ptr 3000 2) (.pure (.fldPtr _ _ _ rfl fld34_2 rfl)) ?_
    refine Ch.s (.d (.slice false 4 (x.arcs.map Arc.d))) (.pure (.loadPtr1 _ _ rfl ag32 rfl rfl rfl)) ?_
    refine Ch.s (.d (.int .i64 ((x.arcs.length : Nat) : Int))) (.pure (.len _ _ 85 rfl Try.underlying32 (.sh _ _) (by simp))) ?_
    refine Ch.s (.d (.int .i64 0)) (.pure (.move _ rfl rfl)) ?_
    refine Ch.nil ?_
    refine T_block ?_
    refine T_loop (ι := Nat) (fun p => { n := 139, sl := [(3, (.ptr 3000 0)), (8, (.row 19000)), (9, (.row 9)), (64, (.d (.int .i64 ((x.codes.length : Nat) : Int)))), (65, (.d (.int .i64 ((q : Nat) : Int)))), (68, (.d (.slice false 4 (x.arcs.map Arc.d)))), (69, (.d (.int .i64 ((x.arcs.length : Nat) : Int)))), (70, (.d (.int .i64 ((p : Nat) : Int))))], hp := [(9, (some (.row 1 ((spTo x (blkL x s r) q p).map byteD)))), (3000, (some (.box [(.d (.slice false 2 (x.sigs.map Sgn.d))), (.d (.slice false 1 (x.codes.map D.str))), (.d (.slice false 4 (x.arcs.map Arc.d)))]))), (19000, (some (.row 1 ((blkL x s r).map (fun n : Int => D.int .i64 n)))))], pin := [] }) (fun p => p ≤ x.arcs.length) (fun p => x.arcs.length - p) ⟨0, (by omega), (Wk.of rfl rfl (And.intro rfl (And.intro rfl (And.intro rfl (And.intro rfl (And.intro rfl (And.intro rfl (And.intro rfl (And.intro (vI (by first | rfl | omega | (simp; done) | (simp; omega))) trivial)))))))) (And.intro (oR (by first | rfl | (exact sp_yes (by omega) (by first | exact .inl (by assumption) | exact .inr (by assumption)) (by first | exact in_minus (by assumption) | exact in_minus (by omega) | exact in_else (by assumption) (by assumption) | exact in_else (by omega) (by assumption) | exact in_else (by omega) (by first | exact inputB_yes (by omega) (by assumption) | exact inputB_no (by assumption))) (by first | (rw [← hst]; exact decide_eq_true (by assumption)) | (rw [← crossV_zero]; exact decide_eq_true (by assumption)))) | (exact congrArg (List.map _) (sp_no1 (by omega) (by assumption) (by assumption))) | (exact congrArg (List.map _) (sp_no2 (by omega) (by first | exact in_minus (by assumption) | exact in_minus (by omega) | exact in_else (by assumption) (by assumption) | exact in_else (by omega) (by assumption) | exact in_else (by omega) (by first | exact inputB_yes (by omega) (by assumption) | exact inputB_no (by assumption))))) | (exact congrArg (List.map _) (sp_no3 (by omega) (by first | (rw [← hst]; exact decide_eq_false (by assumption)) | (rw [← crossV_zero]; exact decide_eq_false (by assumption))))) | (exact congrArg (List.map _) (sp_no4 (by omega) (by assumption))))) (And.intro rfl (And.intro rfl trivial))))⟩ (fun p hp3 => ?_)
    have hsp := (spTo_ok (x := x) (block := (blkL x s r)) hen q p hp3).1.1
    refine T_seq ?_
    refine T_region hc ?_
    refine Ch.s (.d (.bool (decide (((p : Nat) : Int) < ((x.arcs.length : Nat) : Int))))) (.pure (.int _ _ _ _ _ rfl rfl rfl rfl)) ?_
    refine Ch.nil ?_
    refine T_seq ?_
    refine T_cond (b := (decide (((p : Nat) : Int) < ((x.arcs.length : Nat) : Int)))) rfl (fun h7 => ?_) (fun h7 => ?_)
    ·
     replace h7 := of_decide_eq_true h7
     try have hek := hen _ (getD_mem (l := x.arcs) (j := p) (d := default) (by omega))
     try have hsk := (hx.sig _ (getD_mem (l := x.arcs) (j := p) (d := default) (by omega))).1
     try have hss := (hx.sig _ (getD_mem (l := x.arcs) (j := p) (d := default) (by omega))).2
     try have hek := hen _ (getD_mem (l := x.arcs) (j := m) (d := default) (by omega))
     try have hsk := (hx.sig _ (getD_mem (l := x.arcs) (j := m) (d := default) (by omega))).1
     try have hss := (hx.sig _ (getD_mem (l := x.arcs) (j := m) (d := default) (by omega))).2
     refine T_skip ?_
     refine T_seq ?_
     refine T_block ?_
     refine T_seq ?_
     refine T_region hc ?_
     refine Ch.s (.d (.ref (.agg [(.int .i64 ((x.arcs.getD p default).src)), (.int .i64 ((x.arcs.getD p default).sig)), (.bool ((x.arcs.getD p default).up)), (.int .i64 ((x.arcs.getD p default).dst))]))) (.pure (.idx _ _ _ 85 (p) rfl Try.underlying32 sz85 rfl rfl rfl get_mapA)) ?_
     refine Ch.s (.d (.agg [(.int .i64 ((x.arcs.getD p default).src)), (.int .i64 ((x.arcs.getD p default).sig)), (.bool ((x.arcs.getD p default).up)), (.int .i64 ((x.arcs.getD p default).dst))])) (.pure (.loadRefA _ _ rfl ag85 sz85 rfl)) ?_
     refine Ch.s (.ptr 14000 0) (.alloc 14000 _ rfl zer85) ?_
     refine Ch.s .junk (.storePtr _ _ _ rfl rfl rfl (.aggD _) sz85 (Nat.le_of_ble_eq_true rfl)) ?_
     refine Ch.nil ?_
     refine T_seq ?_
     refine T_region hc ?_
     refine Ch.s (.ptr 14000 1) (.pure (.fldPtr _ _ _ rfl fld85_1 rfl)) ?_
     refine Ch.s (.d (.int .i64 ((x.arcs.getD p default).sig))) (.pure (.loadPtr1 _ _ rfl ag3 rfl rfl rfl)) ?_
     refine Ch.s (.d (.bool (decide (((x.arcs.getD p default).sig) < 0)))) (.pure (.int _ _ _ _ _ rfl rfl rfl rfl)) ?_
     refine Ch.s (.d (.bool (decide (((x.arcs.getD p default).sig) < 0)))) (.pure (.move _ rfl rfl)) ?_
     cases h8 : (decide (((x.arcs.getD p default).sig) < 0)) with
     | true =>
      replace h8 := of_decide_eq_true h8
      try have hek := hen _ (getD_mem (l := x.arcs) (j := p) (d := default) (by omega))
      try have hsk := (hx.sig _ (getD_mem (l := x.arcs) (j := p) (d := default) (by omega))).1
      try have hss := (hx.sig _ (getD_mem (l := x.arcs) (j := p) (d := default) (by omega))).2
      try have hek := hen _ (getD_mem (l := x.arcs) (j := m) (d := default) (by omega))
      try have hsk := (hx.sig _ (getD_mem (l := x.arcs) (j := m) (d := default) (by omega))).1
      try have hss := (hx.sig _ (getD_mem (l := x.arcs) (j := m) (d := default) (by omega))).2
      refine Ch.skip rfl rfl ?_
      refine Ch.skip rfl rfl ?_
      refine Ch.skip rfl rfl ?_
      refine Ch.skip rfl rfl ?_
      refine Ch.skip rfl rfl ?_
      refine Ch.skip rfl rfl ?_
      refine Ch.skip rfl rfl ?_
      refine Ch.skip rfl rfl ?_
      refine Ch.s (.d (.bool true)) (.pure (.pickT _ _ _ rfl rfl rfl)) ?_
      refine Ch.s (.d (.bool true)) (.pure (.assign _ rfl rfl)) ?_
      refine Ch.nil ?_
      refine T_seq ?_
      refine T_region hc ?_
      refine Ch.s (.d (.bool true)) (.pure (.move _ rfl rfl)) ?_
      refine Ch.s (.d (.bool true)) (.pure (.move _ rfl rfl)) ?_
      refine Ch.s (.row 9) (.pure (.move _ rfl rfl)) ?_
      refine Ch.s (.ptr 14000 0) (.pure (.fldPtr _ _ _ rfl fld85_0 rfl)) ?_
      refine Ch.s (.d (.int .i64 ((x.arcs.getD p default).src))) (.pure (.loadPtr1 _ _ rfl ag3 rfl rfl rfl)) ?_
      refine Ch.s (.el 9 1 ((((x.arcs.getD p default).src)).toNat) 0) (.pure (.idxRow _ _ _ 5 ((((x.arcs.getD p default).src)).toNat) rfl Try.underlying102 sz5 rfl rfl rfl (by omega) (by first | omega | (simp only [List.length_map, List.length_set]; omega) | (simp; omega)))) ?_
      refine Ch.s (.d (.int .u8 (((spTo x (blkL x s r) q p).getD ((((x.arcs.getD p default).src)).toNat) default).toNat : Int))) (.pure (.loadEl1 _ _ rfl ag5 rfl rfl get_mapA rfl rfl rfl)) ?_
      refine Ch.s (.d (.bool (decide ((((spTo x (blkL x s r) q p).getD ((((x.arcs.getD p default).src)).toNat) default) : UInt8) = 43)))) (.pure (.int _ _ _ _ _ rfl rfl rfl (u8_eql (((spTo x (blkL x s r) q p).getD ((((x.arcs.getD p default).src)).toNat) default) : UInt8) 43 rfl rfl))) ?_
      refine Ch.s (.d (.bool (decide ((((spTo x (blkL x s r) q p).getD ((((x.arcs.getD p default).src)).toNat) default) : UInt8) = 43)))) (.pure (.move _ rfl rfl)) ?_
      cases h9 : (decide ((((spTo x (blkL x s r) q p).getD ((((x.arcs.getD p default).src)).toNat) default) : UInt8) = 43)) with
      | true =>
       replace h9 := of_decide_eq_true h9
       try have hek := hen _ (getD_mem (l := x.arcs) (j := p) (d := default) (by omega))
       try have hsk := (hx.sig _ (getD_mem (l := x.arcs) (j := p) (d := default) (by omega))).1
       try have hss := (hx.sig _ (getD_mem (l := x.arcs) (j := p) (d := default) (by omega))).2
       try have hek := hen _ (getD_mem (l := x.arcs) (j := m) (d := default) (by omega))
       try have hsk := (hx.sig _ (getD_mem (l := x.arcs) (j := m) (d := default) (by omega))).1
       try have hss := (hx.sig _ (getD_mem (l := x.arcs) (j := m) (d := default) (by omega))).2
       refine Ch.skip rfl rfl ?_
       refine Ch.skip rfl rfl ?_
       refine Ch.skip rfl rfl ?_
       refine Ch.skip rfl rfl ?_
       refine Ch.skip rfl rfl ?_
       refine Ch.skip rfl rfl ?_
       refine Ch.s (.d (.bool true)) (.pure (.pickT _ _ _ rfl rfl rfl)) ?_
       refine Ch.s (.d (.bool true)) (.pure (.pickT _ _ _ rfl rfl rfl)) ?_
       refine Ch.s (.d (.bool true)) (.pure (.move _ rfl rfl)) ?_
       refine Ch.s (.agg [(.d (.int .i64 ((x.arcs.getD p default).src))), (.d (.int .i64 ((x.arcs.getD p default).sig))), (.d (.bool ((x.arcs.getD p default).up))), (.d (.int .i64 ((x.arcs.getD p default).dst)))]) (.pure (.loadPtrA _ _ rfl ag85 sz85 rfl rfl (Nat.le_of_ble_eq_true rfl) rfl)) ?_
       refine Ch.s (.row 19000) (.pure (.move _ rfl rfl)) ?_
       refine Ch.s (.d (.int .i64 (crossV (blkL x s r) (x.arcs.getD p default)))) (.call 107000 88 _ _ _ en88 rfl (.inl rfl) (.cons (.lend (.agg (.cons (.d _) (.cons (.d _) (.cons (.d _) (.cons (.d _) .nil)))) rfl)) (.cons (.lend (.row rfl (frozs_map (fun _ => rfl) _))) .nil)) rfl rfl (sp_spec_l10Cross (x.arcs.getD p default) (blkL x s r) (by first | assumption | omega | (rw [List.length_take]; omega) | (have := bulkF_mem hb _ (getD_mem (d := default) (by omega)); assumption) | (unfold bulkS at *; omega) | (simp_all; done))) (.skip _ _ (.skip _ _ .nil)) rfl) ?_
       refine Ch.s (.d (.bool (decide ((crossV (blkL x s r) (x.arcs.getD p default)) = 0)))) (.pure (.int _ _ _ _ _ rfl rfl rfl rfl)) ?_
       refine Ch.s (.d (.bool (decide ((crossV (blkL x s r) (x.arcs.getD p default)) = 0)))) (.pure (.pickT _ _ _ rfl rfl rfl)) ?_
       refine Ch.nil ?_
       refine T_cond (b := (decide ((crossV (blkL x s r) (x.arcs.getD p default)) = 0))) rfl (fun h10 => ?_) (fun h10 => ?_)
       ·
        replace h10 := of_decide_eq_true h10
        try have hek := hen _ (getD_mem (l := x.arcs) (j := p) (d := default) (by omega))
        try have hsk := (hx.sig _ (getD_mem (l := x.arcs) (j := p) (d := default) (by omega))).1
        try have hss := (hx.sig _ (getD_mem (l := x.arcs) (j := p) (d := default) (by omega))).2
        try have hek := hen _ (getD_mem (l := x.arcs) (j := m) (d := default) (by omega))
        try have hsk := (hx.sig _ (getD_mem (l := x.arcs) (j := m) (d := default) (by omega))).1
        try have hss := (hx.sig _ (getD_mem (l := x.arcs) (j := m) (d := default) (by omega))).2
        refine T_regionD hc (by kernel_rfl) ?_
        refine ChD.s (.row 9) [] (.pure (.move _ rfl rfl)) ?_
        refine ChD.s (.ptr 14000 3) [] (.pure (.fldPtr _ _ _ rfl fld85_3 rfl)) ?_
        refine ChD.s (.d (.int .i64 ((x.arcs.getD p default).dst))) [14000] (.pure (.loadPtr1 _ _ rfl ag3 rfl rfl rfl)) ?_
        refine ChD.s (.row 9) [] (.pure (.move _ rfl rfl)) ?_
        refine ChD.s (.ptr 14000 0) [] (.pure (.fldPtr _ _ _ rfl fld85_0 rfl)) ?_
        refine ChD.s (.d (.int .i64 ((x.arcs.getD p default).src))) [14000] (.pure (.loadPtr1 _ _ rfl ag3 rfl rfl rfl)) ?_
        refine ChD.s (.el 9 1 ((((x.arcs.getD p default).src)).toNat) 0) [9] (.pure (.idxRow _ _ _ 5 ((((x.arcs.getD p default).src)).toNat) rfl Try.underlying102 sz5 rfl rfl rfl (by omega) (by first | omega | (simp only [List.length_map, List.length_set]; omega) | (simp; omega)))) ?_
        refine ChD.s (.d (.int .u8 (((spTo x (blkL x s r) q p).getD ((((x.arcs.getD p default).src)).toNat) default).toNat : Int))) [9] (.pure (.loadEl1 _ _ rfl ag5 rfl rfl get_mapA rfl rfl rfl)) ?_
        refine ChD.s (.el 9 1 ((((x.arcs.getD p default).dst)).toNat) 0) [9] (.pure (.idxRow _ _ _ 5 ((((x.arcs.getD p default).dst)).toNat) rfl Try.underlying102 sz5 rfl rfl rfl (by omega) (by first | omega | (simp only [List.length_map, List.length_set]; omega) | (simp; omega)))) ?_
        refine ChD.s .junk [9] (.storeEl (y' := (.int .u8 (((spTo x (blkL x s r) q p).getD ((((x.arcs.getD p default).src)).toNat) default).toNat : Int))) _ _ _ rfl rfl rfl (.d _) rfl sz5 rfl get_mapA rfl rfl) ?_
        refine ChD.nil (And.intro ?_ (by kernel_rfl))
        refine T_region hc ?_
        refine Ch.s (.d (.int .i64 (((p : Nat) : Int) + 1))) (.pure (.int _ _ _ _ _ rfl rfl rfl intV_addA)) ?_
        refine Ch.s (.d (.int .i64 (((p : Nat) : Int) + 1))) (.pure (.move _ rfl rfl)) ?_
        refine Ch.nil ?_
        refine Exists.intro (p + 1) (And.intro (by omega) (And.intro (by first | omega | (dsimp only; omega)) (Wk.of rfl rfl (And.intro rfl (And.intro rfl (And.intro rfl (And.intro rfl (And.intro rfl (And.intro rfl (And.intro rfl (And.intro (vI (by first | rfl | omega | (simp; done) | (simp; omega))) trivial)))))))) (And.intro (oR (by first | rfl | (exact sp_yes (by omega) (by first | exact .inl (by assumption) | exact .inr (by assumption)) (by first | exact in_minus (by assumption) | exact in_minus (by omega) | exact in_else (by assumption) (by assumption) | exact in_else (by omega) (by assumption) | exact in_else (by omega) (by first | exact inputB_yes (by omega) (by assumption) | exact inputB_no (by assumption))) (by first | (rw [← hst]; exact decide_eq_true (by assumption)) | (rw [← crossV_zero]; exact decide_eq_true (by assumption)))) | (exact congrArg (List.map _) (sp_no1 (by omega) (by assumption) (by assumption))) | (exact congrArg (List.map _) (sp_no2 (by omega) (by first | exact in_minus (by assumption) | exact in_minus (by omega) | exact in_else (by assumption) (by assumption) | exact in_else (by omega) (by assumption) | exact in_else (by omega) (by first | exact inputB_yes (by omega) (by assumption) | exact inputB_no (by assumption))))) | (exact congrArg (List.map _) (sp_no3 (by omega) (by first | (rw [← hst]; exact decide_eq_false (by assumption)) | (rw [← crossV_zero]; exact decide_eq_false (by assumption))))) | (exact congrArg (List.map _) (sp_no4 (by omega) (by assumption))))) (And.intro rfl (And.intro rfl trivial))))))
       ·
        replace h10 := of_decide_eq_false h10
        try have hek := hen _ (getD_mem (l := x.arcs) (j := p) (d := default) (by omega))
        try have hsk := (hx.sig _ (getD_mem (l := x.arcs) (j := p) (d := default) (by omega))).1
        try have hss := (hx.sig _ (getD_mem (l := x.arcs) (j := p) (d := default) (by omega))).2
        try have hek := hen _ (getD_mem (l := x.arcs) (j := m) (d := default) (by omega))
        try have hsk := (hx.sig _ (getD_mem (l := x.arcs) (j := m) (d := default) (by omega))).1
        try have hss := (hx.sig _ (getD_mem (l := x.arcs) (j := m) (d := default) (by omega))).2
        refine T_skip ?_
        refine T_region hc ?_
        refine Ch.s (.d (.int .i64 (((p : Nat) : Int) + 1))) (.pure (.int _ _ _ _ _ rfl rfl rfl intV_addA)) ?_
        refine Ch.s (.d (.int .i64 (((p : Nat) : Int) + 1))) (.pure (.move _ rfl rfl)) ?_
        refine Ch.nil ?_
        refine Exists.intro (p + 1) (And.intro (by omega) (And.intro (by first | omega | (dsimp only; omega)) (Wk.of rfl rfl (And.intro rfl (And.intro rfl (And.intro rfl (And.intro rfl (And.intro rfl (And.intro rfl (And.intro rfl (And.intro (vI (by first | rfl | omega | (simp; done) | (simp; omega))) trivial)))))))) (And.intro (oR (by first | rfl | (exact sp_yes (by omega) (by first | exact .inl (by assumption) | exact .inr (by assumption)) (by first | exact in_minus (by assumption) | exact in_minus (by omega) | exact in_else (by assumption) (by assumption) | exact in_else (by omega) (by assumption) | exact in_else (by omega) (by first | exact inputB_yes (by omega) (by assumption) | exact inputB_no (by assumption))) (by first | (rw [← hst]; exact decide_eq_true (by assumption)) | (rw [← crossV_zero]; exact decide_eq_true (by assumption)))) | (exact congrArg (List.map _) (sp_no1 (by omega) (by assumption) (by assumption))) | (exact congrArg (List.map _) (sp_no2 (by omega) (by first | exact in_minus (by assumption) | exact in_minus (by omega) | exact in_else (by assumption) (by assumption) | exact in_else (by omega) (by assumption) | exact in_else (by omega) (by first | exact inputB_yes (by omega) (by assumption) | exact inputB_no (by assumption))))) | (exact congrArg (List.map _) (sp_no3 (by omega) (by first | (rw [← hst]; exact decide_eq_false (by assumption)) | (rw [← crossV_zero]; exact decide_eq_false (by assumption))))) | (exact congrArg (List.map _) (sp_no4 (by omega) (by assumption))))) (And.intro rfl (And.intro rfl trivial))))))
      | false =>
       replace h9 := of_decide_eq_false h9
       try have hek := hen _ (getD_mem (l := x.arcs) (j := p) (d := default) (by omega))
       try have hsk := (hx.sig _ (getD_mem (l := x.arcs) (j := p) (d := default) (by omega))).1
       try have hss := (hx.sig _ (getD_mem (l := x.arcs) (j := p) (d := default) (by omega))).2
       try have hek := hen _ (getD_mem (l := x.arcs) (j := m) (d := default) (by omega))
       try have hsk := (hx.sig _ (getD_mem (l := x.arcs) (j := m) (d := default) (by omega))).1
       try have hss := (hx.sig _ (getD_mem (l := x.arcs) (j := m) (d := default) (by omega))).2
       refine Ch.s (.row 9) (.pure (.move _ rfl rfl)) ?_
       refine Ch.s (.ptr 14000 0) (.pure (.fldPtr _ _ _ rfl fld85_0 rfl)) ?_
       refine Ch.s (.d (.int .i64 ((x.arcs.getD p default).src))) (.pure (.loadPtr1 _ _ rfl ag3 rfl rfl rfl)) ?_
       refine Ch.s (.el 9 1 ((((x.arcs.getD p default).src)).toNat) 0) (.pure (.idxRow _ _ _ 5 ((((x.arcs.getD p default).src)).toNat) rfl Try.underlying102 sz5 rfl rfl rfl (by omega) (by first | omega | (simp only [List.length_map, List.length_set]; omega) | (simp; omega)))) ?_
       refine Ch.s (.d (.int .u8 (((spTo x (blkL x s r) q p).getD ((((x.arcs.getD p default).src)).toNat) default).toNat : Int))) (.pure (.loadEl1 _ _ rfl ag5 rfl rfl get_mapA rfl rfl rfl)) ?_
       refine Ch.s (.d (.bool (decide ((((spTo x (blkL x s r) q p).getD ((((x.arcs.getD p default).src)).toNat) default) : UInt8) = 45)))) (.pure (.int _ _ _ _ _ rfl rfl rfl (u8_eql (((spTo x (blkL x s r) q p).getD ((((x.arcs.getD p default).src)).toNat) default) : UInt8) 45 rfl rfl))) ?_
       refine Ch.s (.d (.bool (decide ((((spTo x (blkL x s r) q p).getD ((((x.arcs.getD p default).src)).toNat) default) : UInt8) = 45)))) (.pure (.pickF _ _ _ rfl rfl rfl)) ?_
       refine Ch.s (.d (.bool (decide ((((spTo x (blkL x s r) q p).getD ((((x.arcs.getD p default).src)).toNat) default) : UInt8) = 45)))) (.pure (.pickT _ _ _ rfl rfl rfl)) ?_
       refine Ch.s (.d (.bool (decide ((((spTo x (blkL x s r) q p).getD ((((x.arcs.getD p default).src)).toNat) default) : UInt8) = 45)))) (.pure (.move _ rfl rfl)) ?_
       cases h11 : (decide ((((spTo x (blkL x s r) q p).getD ((((x.arcs.getD p default).src)).toNat) default) : UInt8) = 45)) with
       | true =>
        replace h11 := of_decide_eq_true h11
        try have hek := hen _ (getD_mem (l := x.arcs) (j := p) (d := default) (by omega))
        try have hsk := (hx.sig _ (getD_mem (l := x.arcs) (j := p) (d := default) (by omega))).1
        try have hss := (hx.sig _ (getD_mem (l := x.arcs) (j := p) (d := default) (by omega))).2
        try have hek := hen _ (getD_mem (l := x.arcs) (j := m) (d := default) (by omega))
        try have hsk := (hx.sig _ (getD_mem (l := x.arcs) (j := m) (d := default) (by omega))).1
        try have hss := (hx.sig _ (getD_mem (l := x.arcs) (j := m) (d := default) (by omega))).2
        refine Ch.s (.agg [(.d (.int .i64 ((x.arcs.getD p default).src))), (.d (.int .i64 ((x.arcs.getD p default).sig))), (.d (.bool ((x.arcs.getD p default).up))), (.d (.int .i64 ((x.arcs.getD p default).dst)))]) (.pure (.loadPtrA _ _ rfl ag85 sz85 rfl rfl (Nat.le_of_ble_eq_true rfl) rfl)) ?_
        refine Ch.s (.row 19000) (.pure (.move _ rfl rfl)) ?_
        refine Ch.s (.d (.int .i64 (crossV (blkL x s r) (x.arcs.getD p default)))) (.call 107000 88 _ _ _ en88 rfl (.inl rfl) (.cons (.lend (.agg (.cons (.d _) (.cons (.d _) (.cons (.d _) (.cons (.d _) .nil)))) rfl)) (.cons (.lend (.row rfl (frozs_map (fun _ => rfl) _))) .nil)) rfl rfl (sp_spec_l10Cross (x.arcs.getD p default) (blkL x s r) (by first | assumption | omega | (rw [List.length_take]; omega) | (have := bulkF_mem hb _ (getD_mem (d := default) (by omega)); assumption) | (unfold bulkS at *; omega) | (simp_all; done))) (.skip _ _ (.skip _ _ .nil)) rfl) ?_
        refine Ch.s (.d (.bool (decide ((crossV (blkL x s r) (x.arcs.getD p default)) = 0)))) (.pure (.int _ _ _ _ _ rfl rfl rfl rfl)) ?_
        refine Ch.s (.d (.bool (decide ((crossV (blkL x s r) (x.arcs.getD p default)) = 0)))) (.pure (.pickT _ _ _ rfl rfl rfl)) ?_
        refine Ch.nil ?_
        refine T_cond (b := (decide ((crossV (blkL x s r) (x.arcs.getD p default)) = 0))) rfl (fun h12 => ?_) (fun h12 => ?_)
        ·
         replace h12 := of_decide_eq_true h12
         try have hek := hen _ (getD_mem (l := x.arcs) (j := p) (d := default) (by omega))
         try have hsk := (hx.sig _ (getD_mem (l := x.arcs) (j := p) (d := default) (by omega))).1
         try have hss := (hx.sig _ (getD_mem (l := x.arcs) (j := p) (d := default) (by omega))).2
         try have hek := hen _ (getD_mem (l := x.arcs) (j := m) (d := default) (by omega))
         try have hsk := (hx.sig _ (getD_mem (l := x.arcs) (j := m) (d := default) (by omega))).1
         try have hss := (hx.sig _ (getD_mem (l := x.arcs) (j := m) (d := default) (by omega))).2
         refine T_regionD hc (by kernel_rfl) ?_
         refine ChD.s (.row 9) [] (.pure (.move _ rfl rfl)) ?_
         refine ChD.s (.ptr 14000 3) [] (.pure (.fldPtr _ _ _ rfl fld85_3 rfl)) ?_
         refine ChD.s (.d (.int .i64 ((x.arcs.getD p default).dst))) [14000] (.pure (.loadPtr1 _ _ rfl ag3 rfl rfl rfl)) ?_
         refine ChD.s (.row 9) [] (.pure (.move _ rfl rfl)) ?_
         refine ChD.s (.ptr 14000 0) [] (.pure (.fldPtr _ _ _ rfl fld85_0 rfl)) ?_
         refine ChD.s (.d (.int .i64 ((x.arcs.getD p default).src))) [14000] (.pure (.loadPtr1 _ _ rfl ag3 rfl rfl rfl)) ?_
         refine ChD.s (.el 9 1 ((((x.arcs.getD p default).src)).toNat) 0) [9] (.pure (.idxRow _ _ _ 5 ((((x.arcs.getD p default).src)).toNat) rfl Try.underlying102 sz5 rfl rfl rfl (by omega) (by first | omega | (simp only [List.length_map, List.length_set]; omega) | (simp; omega)))) ?_
         refine ChD.s (.d (.int .u8 (((spTo x (blkL x s r) q p).getD ((((x.arcs.getD p default).src)).toNat) default).toNat : Int))) [9] (.pure (.loadEl1 _ _ rfl ag5 rfl rfl get_mapA rfl rfl rfl)) ?_
         refine ChD.s (.el 9 1 ((((x.arcs.getD p default).dst)).toNat) 0) [9] (.pure (.idxRow _ _ _ 5 ((((x.arcs.getD p default).dst)).toNat) rfl Try.underlying102 sz5 rfl rfl rfl (by omega) (by first | omega | (simp only [List.length_map, List.length_set]; omega) | (simp; omega)))) ?_
         refine ChD.s .junk [9] (.storeEl (y' := (.int .u8 (((spTo x (blkL x s r) q p).getD ((((x.arcs.getD p default).src)).toNat) default).toNat : Int))) _ _ _ rfl rfl rfl (.d _) rfl sz5 rfl get_mapA rfl rfl) ?_
         refine ChD.nil (And.intro ?_ (by kernel_rfl))
         refine T_region hc ?_
         refine Ch.s (.d (.int .i64 (((p : Nat) : Int) + 1))) (.pure (.int _ _ _ _ _ rfl rfl rfl intV_addA)) ?_
         refine Ch.s (.d (.int .i64 (((p : Nat) : Int) + 1))) (.pure (.move _ rfl rfl)) ?_
         refine Ch.nil ?_
         refine Exists.intro (p + 1) (And.intro (by omega) (And.intro (by first | omega | (dsimp only; omega)) (Wk.of rfl rfl (And.intro rfl (And.intro rfl (And.intro rfl (And.intro rfl (And.intro rfl (And.intro rfl (And.intro rfl (And.intro (vI (by first | rfl | omega | (simp; done) | (simp; omega))) trivial)))))))) (And.intro (oR (by first | rfl | (exact sp_yes (by omega) (by first | exact .inl (by assumption) | exact .inr (by assumption)) (by first | exact in_minus (by assumption) | exact in_minus (by omega) | exact in_else (by assumption) (by assumption) | exact in_else (by omega) (by assumption) | exact in_else (by omega) (by first | exact inputB_yes (by omega) (by assumption) | exact inputB_no (by assumption))) (by first | (rw [← hst]; exact decide_eq_true (by assumption)) | (rw [← crossV_zero]; exact decide_eq_true (by assumption)))) | (exact congrArg (List.map _) (sp_no1 (by omega) (by assumption) (by assumption))) | (exact congrArg (List.map _) (sp_no2 (by omega) (by first | exact in_minus (by assumption) | exact in_minus (by omega) | exact in_else (by assumption) (by assumption) | exact in_else (by omega) (by assumption) | exact in_else (by omega) (by first | exact inputB_yes (by omega) (by assumption) | exact inputB_no (by assumption))))) | (exact congrArg (List.map _) (sp_no3 (by omega) (by first | (rw [← hst]; exact decide_eq_false (by assumption)) | (rw [← crossV_zero]; exact decide_eq_false (by assumption))))) | (exact congrArg (List.map _) (sp_no4 (by omega) (by assumption))))) (And.intro rfl (And.intro rfl trivial))))))
        ·
         replace h12 := of_decide_eq_false h12
         try have hek := hen _ (getD_mem (l := x.arcs) (j := p) (d := default) (by omega))
         try have hsk := (hx.sig _ (getD_mem (l := x.arcs) (j := p) (d := default) (by omega))).1
         try have hss := (hx.sig _ (getD_mem (l := x.arcs) (j := p) (d := default) (by omega))).2
         try have hek := hen _ (getD_mem (l := x.arcs) (j := m) (d := default) (by omega))
         try have hsk := (hx.sig _ (getD_mem (l := x.arcs) (j := m) (d := default) (by omega))).1
         try have hss := (hx.sig _ (getD_mem (l := x.arcs) (j := m) (d := default) (by omega))).2
         refine T_skip ?_
         refine T_region hc ?_
         refine Ch.s (.d (.int .i64 (((p : Nat) : Int) + 1))) (.pure (.int _ _ _ _ _ rfl rfl rfl intV_addA)) ?_
         refine Ch.s (.d (.int .i64 (((p : Nat) : Int) + 1))) (.pure (.move _ rfl rfl)) ?_
         refine Ch.nil ?_
         refine Exists.intro (p + 1) (And.intro (by omega) (And.intro (by first | omega | (dsimp only; omega)) (Wk.of rfl rfl (And.intro rfl (And.intro rfl (And.intro rfl (And.intro rfl (And.intro rfl (And.intro rfl (And.intro rfl (And.intro (vI (by first | rfl | omega | (simp; done) | (simp; omega))) trivial)))))))) (And.intro (oR (by first | rfl | (exact sp_yes (by omega) (by first | exact .inl (by assumption) | exact .inr (by assumption)) (by first | exact in_minus (by assumption) | exact in_minus (by omega) | exact in_else (by assumption) (by assumption) | exact in_else (by omega) (by assumption) | exact in_else (by omega) (by first | exact inputB_yes (by omega) (by assumption) | exact inputB_no (by assumption))) (by first | (rw [← hst]; exact decide_eq_true (by assumption)) | (rw [← crossV_zero]; exact decide_eq_true (by assumption)))) | (exact congrArg (List.map _) (sp_no1 (by omega) (by assumption) (by assumption))) | (exact congrArg (List.map _) (sp_no2 (by omega) (by first | exact in_minus (by assumption) | exact in_minus (by omega) | exact in_else (by assumption) (by assumption) | exact in_else (by omega) (by assumption) | exact in_else (by omega) (by first | exact inputB_yes (by omega) (by assumption) | exact inputB_no (by assumption))))) | (exact congrArg (List.map _) (sp_no3 (by omega) (by first | (rw [← hst]; exact decide_eq_false (by assumption)) | (rw [← crossV_zero]; exact decide_eq_false (by assumption))))) | (exact congrArg (List.map _) (sp_no4 (by omega) (by assumption))))) (And.intro rfl (And.intro rfl trivial))))))
       | false =>
        replace h11 := of_decide_eq_false h11
        try have hek := hen _ (getD_mem (l := x.arcs) (j := p) (d := default) (by omega))
        try have hsk := (hx.sig _ (getD_mem (l := x.arcs) (j := p) (d := default) (by omega))).1
        try have hss := (hx.sig _ (getD_mem (l := x.arcs) (j := p) (d := default) (by omega))).2
        try have hek := hen _ (getD_mem (l := x.arcs) (j := m) (d := default) (by omega))
        try have hsk := (hx.sig _ (getD_mem (l := x.arcs) (j := m) (d := default) (by omega))).1
        try have hss := (hx.sig _ (getD_mem (l := x.arcs) (j := m) (d := default) (by omega))).2
        refine Ch.skip rfl rfl ?_
        refine Ch.skip rfl rfl ?_
        refine Ch.skip rfl rfl ?_
        refine Ch.skip rfl rfl ?_
        refine Ch.s (.d (.bool false)) (.pure (.pickF _ _ _ rfl rfl rfl)) ?_
        refine Ch.nil ?_
        refine T_cond (b := false) rfl (fun h => nomatch h) (fun _ => ?_)
        refine T_skip ?_
        refine T_region hc ?_
        refine Ch.s (.d (.int .i64 (((p : Nat) : Int) + 1))) (.pure (.int _ _ _ _ _ rfl rfl rfl intV_addA)) ?_
        refine Ch.s (.d (.int .i64 (((p : Nat) : Int) + 1))) (.pure (.move _ rfl rfl)) ?_
        refine Ch.nil ?_
        refine Exists.intro (p + 1) (And.intro (by omega) (And.intro (by first | omega | (dsimp only; omega)) (Wk.of rfl rfl (And.intro rfl (And.intro rfl (And.intro rfl (And.intro rfl (And.intro rfl (And.intro rfl (And.intro rfl (And.intro (vI (by first | rfl | omega | (simp; done) | (simp; omega))) trivial)))))))) (And.intro (oR (by first | rfl | (exact sp_yes (by omega) (by first | exact .inl (by assumption) | exact .inr (by assumption)) (by first | exact in_minus (by assumption) | exact in_minus (by omega) | exact in_else (by assumption) (by assumption) | exact in_else (by omega) (by assumption) | exact in_else (by omega) (by first | exact inputB_yes (by omega) (by assumption) | exact inputB_no (by assumption))) (by first | (rw [← hst]; exact decide_eq_true (by assumption)) | (rw [← crossV_zero]; exact decide_eq_true (by assumption)))) | (exact congrArg (List.map _) (sp_no1 (by omega) (by assumption) (by assumption))) | (exact congrArg (List.map _) (sp_no2 (by omega) (by first | exact in_minus (by assumption) | exact in_minus (by omega) | exact in_else (by assumption) (by assumption) | exact in_else (by omega) (by assumption) | exact in_else (by omega) (by first | exact inputB_yes (by omega) (by assumption) | exact inputB_no (by assumption))))) | (exact congrArg (List.map _) (sp_no3 (by omega) (by first | (rw [← hst]; exact decide_eq_false (by assumption)) | (rw [← crossV_zero]; exact decide_eq_false (by assumption))))) | (exact congrArg (List.map _) (sp_no4 (by omega) (by assumption))))) (And.intro rfl (And.intro rfl trivial))))))
     | false =>
      replace h8 := of_decide_eq_false h8
      try have hek := hen _ (getD_mem (l := x.arcs) (j := p) (d := default) (by omega))
      try have hsk := (hx.sig _ (getD_mem (l := x.arcs) (j := p) (d := default) (by omega))).1
      try have hss := (hx.sig _ (getD_mem (l := x.arcs) (j := p) (d := default) (by omega))).2
      try have hek := hen _ (getD_mem (l := x.arcs) (j := m) (d := default) (by omega))
      try have hsk := (hx.sig _ (getD_mem (l := x.arcs) (j := m) (d := default) (by omega))).1
      try have hss := (hx.sig _ (getD_mem (l := x.arcs) (j := m) (d := default) (by omega))).2
      refine Ch.s (.ptr 3000 0) (.pure (.fldPtr _ _ _ rfl fld34_0 rfl)) ?_
      refine Ch.s (.d (.slice false 2 (x.sigs.map Sgn.d))) (.pure (.loadPtr1 _ _ rfl ag31 rfl rfl rfl)) ?_
      refine Ch.s (.ptr 14000 1) (.pure (.fldPtr _ _ _ rfl fld85_1 rfl)) ?_
      refine Ch.s (.d (.int .i64 ((x.arcs.getD p default).sig))) (.pure (.loadPtr1 _ _ rfl ag3 rfl rfl rfl)) ?_
      refine Ch.s (.d (.ref (.agg [(.str ((x.sigs.getD ((((x.arcs.getD p default).sig)).toNat) default).name)), (.int .i64 ((x.sigs.getD ((((x.arcs.getD p default).sig)).toNat) default).kind))]))) (.pure (.idx _ _ _ 88 ((((x.arcs.getD p default).sig)).toNat) rfl Try.underlying31 sz88 rfl rfl (by omega) get_mapA)) ?_
      refine Ch.s (.d (.ref (.int .i64 ((x.sigs.getD ((((x.arcs.getD p default).sig)).toNat) default).kind)))) (.pure (.fldRef _ _ _ rfl fld88_1 rfl rfl rfl)) ?_
      refine Ch.s (.d (.int .i64 ((x.sigs.getD ((((x.arcs.getD p default).sig)).toNat) default).kind))) (.pure (.loadRef1 _ _ rfl ag3 rfl rfl)) ?_
      refine Ch.s (.d (.bool (decide (((x.sigs.getD ((((x.arcs.getD p default).sig)).toNat) default).kind) = 1)))) (.pure (.int _ _ _ _ _ rfl rfl rfl rfl)) ?_
      refine Ch.s (.d (.bool (decide (((x.sigs.getD ((((x.arcs.getD p default).sig)).toNat) default).kind) = 1)))) (.pure (.pickF _ _ _ rfl rfl rfl)) ?_
      refine Ch.s (.d (.bool (decide (((x.sigs.getD ((((x.arcs.getD p default).sig)).toNat) default).kind) = 1)))) (.pure (.assign _ rfl rfl)) ?_
      refine Ch.nil ?_
      refine T_seq ?_
      refine T_region hc ?_
      refine Ch.s (.d (.bool (decide (((x.sigs.getD ((((x.arcs.getD p default).sig)).toNat) default).kind) = 1)))) (.pure (.move _ rfl rfl)) ?_
      refine Ch.s (.d (.bool (decide (((x.sigs.getD ((((x.arcs.getD p default).sig)).toNat) default).kind) = 1)))) (.pure (.move _ rfl rfl)) ?_
      cases h13 : (decide (((x.sigs.getD ((((x.arcs.getD p default).sig)).toNat) default).kind) = 1)) with
      | true =>
       replace h13 := of_decide_eq_true h13
       try have hek := hen _ (getD_mem (l := x.arcs) (j := p) (d := default) (by omega))
       try have hsk := (hx.sig _ (getD_mem (l := x.arcs) (j := p) (d := default) (by omega))).1
       try have hss := (hx.sig _ (getD_mem (l := x.arcs) (j := p) (d := default) (by omega))).2
       try have hek := hen _ (getD_mem (l := x.arcs) (j := m) (d := default) (by omega))
       try have hsk := (hx.sig _ (getD_mem (l := x.arcs) (j := m) (d := default) (by omega))).1
       try have hss := (hx.sig _ (getD_mem (l := x.arcs) (j := m) (d := default) (by omega))).2
       refine Ch.s (.row 9) (.pure (.move _ rfl rfl)) ?_
       refine Ch.s (.ptr 14000 0) (.pure (.fldPtr _ _ _ rfl fld85_0 rfl)) ?_
       refine Ch.s (.d (.int .i64 ((x.arcs.getD p default).src))) (.pure (.loadPtr1 _ _ rfl ag3 rfl rfl rfl)) ?_
       refine Ch.s (.el 9 1 ((((x.arcs.getD p default).src)).toNat) 0) (.pure (.idxRow _ _ _ 5 ((((x.arcs.getD p default).src)).toNat) rfl Try.underlying102 sz5 rfl rfl rfl (by omega) (by first | omega | (simp only [List.length_map, List.length_set]; omega) | (simp; omega)))) ?_
       refine Ch.s (.d (.int .u8 (((spTo x (blkL x s r) q p).getD ((((x.arcs.getD p default).src)).toNat) default).toNat : Int))) (.pure (.loadEl1 _ _ rfl ag5 rfl rfl get_mapA rfl rfl rfl)) ?_
       refine Ch.s (.d (.bool (decide ((((spTo x (blkL x s r) q p).getD ((((x.arcs.getD p default).src)).toNat) default) : UInt8) = 43)))) (.pure (.int _ _ _ _ _ rfl rfl rfl (u8_eql (((spTo x (blkL x s r) q p).getD ((((x.arcs.getD p default).src)).toNat) default) : UInt8) 43 rfl rfl))) ?_
       refine Ch.s (.d (.bool (decide ((((spTo x (blkL x s r) q p).getD ((((x.arcs.getD p default).src)).toNat) default) : UInt8) = 43)))) (.pure (.move _ rfl rfl)) ?_
       cases h14 : (decide ((((spTo x (blkL x s r) q p).getD ((((x.arcs.getD p default).src)).toNat) default) : UInt8) = 43)) with
       | true =>
        replace h14 := of_decide_eq_true h14
        try have hek := hen _ (getD_mem (l := x.arcs) (j := p) (d := default) (by omega))
        try have hsk := (hx.sig _ (getD_mem (l := x.arcs) (j := p) (d := default) (by omega))).1
        try have hss := (hx.sig _ (getD_mem (l := x.arcs) (j := p) (d := default) (by omega))).2
        try have hek := hen _ (getD_mem (l := x.arcs) (j := m) (d := default) (by omega))
        try have hsk := (hx.sig _ (getD_mem (l := x.arcs) (j := m) (d := default) (by omega))).1
        try have hss := (hx.sig _ (getD_mem (l := x.arcs) (j := m) (d := default) (by omega))).2
        refine Ch.skip rfl rfl ?_
        refine Ch.skip rfl rfl ?_
        refine Ch.skip rfl rfl ?_
        refine Ch.skip rfl rfl ?_
        refine Ch.skip rfl rfl ?_
        refine Ch.skip rfl rfl ?_
        refine Ch.s (.d (.bool true)) (.pure (.pickT _ _ _ rfl rfl rfl)) ?_
        refine Ch.s (.d (.bool true)) (.pure (.pickT _ _ _ rfl rfl rfl)) ?_
        refine Ch.s (.d (.bool true)) (.pure (.move _ rfl rfl)) ?_
        refine Ch.s (.agg [(.d (.int .i64 ((x.arcs.getD p default).src))), (.d (.int .i64 ((x.arcs.getD p default).sig))), (.d (.bool ((x.arcs.getD p default).up))), (.d (.int .i64 ((x.arcs.getD p default).dst)))]) (.pure (.loadPtrA _ _ rfl ag85 sz85 rfl rfl (Nat.le_of_ble_eq_true rfl) rfl)) ?_
        refine Ch.s (.row 19000) (.pure (.move _ rfl rfl)) ?_
        refine Ch.s (.d (.int .i64 (crossV (blkL x s r) (x.arcs.getD p default)))) (.call 107000 88 _ _ _ en88 rfl (.inl rfl) (.cons (.lend (.agg (.cons (.d _) (.cons (.d _) (.cons (.d _) (.cons (.d _) .nil)))) rfl)) (.cons (.lend (.row rfl (frozs_map (fun _ => rfl) _))) .nil)) rfl rfl (sp_spec_l10Cross (x.arcs.getD p default) (blkL x s r) (by first | assumption | omega | (rw [List.length_take]; omega) | (have := bulkF_mem hb _ (getD_mem (d := default) (by omega)); assumption) | (unfold bulkS at *; omega) | (simp_all; done))) (.skip _ _ (.skip _ _ .nil)) rfl) ?_
        refine Ch.s (.d (.bool (decide ((crossV (blkL x s r) (x.arcs.getD p default)) = 0)))) (.pure (.int _ _ _ _ _ rfl rfl rfl rfl)) ?_
        refine Ch.s (.d (.bool (decide ((crossV (blkL x s r) (x.arcs.getD p default)) = 0)))) (.pure (.pickT _ _ _ rfl rfl rfl)) ?_
        refine Ch.nil ?_
        refine T_cond (b := (decide ((crossV (blkL x s r) (x.arcs.getD p default)) = 0))) rfl (fun h15 => ?_) (fun h15 => ?_)
        ·
         replace h15 := of_decide_eq_true h15
         try have hek := hen _ (getD_mem (l := x.arcs) (j := p) (d := default) (by omega))
         try have hsk := (hx.sig _ (getD_mem (l := x.arcs) (j := p) (d := default) (by omega))).1
         try have hss := (hx.sig _ (getD_mem (l := x.arcs) (j := p) (d := default) (by omega))).2
         try have hek := hen _ (getD_mem (l := x.arcs) (j := m) (d := default) (by omega))
         try have hsk := (hx.sig _ (getD_mem (l := x.arcs) (j := m) (d := default) (by omega))).1
         try have hss := (hx.sig _ (getD_mem (l := x.arcs) (j := m) (d := default) (by omega))).2
         refine T_regionD hc (by kernel_rfl) ?_
         refine ChD.s (.row 9) [] (.pure (.move _ rfl rfl)) ?_
         refine ChD.s (.ptr 14000 3) [] (.pure (.fldPtr _ _ _ rfl fld85_3 rfl)) ?_
         refine ChD.s (.d (.int .i64 ((x.arcs.getD p default).dst))) [14000] (.pure (.loadPtr1 _ _ rfl ag3 rfl rfl rfl)) ?_
         refine ChD.s (.row 9) [] (.pure (.move _ rfl rfl)) ?_
         refine ChD.s (.ptr 14000 0) [] (.pure (.fldPtr _ _ _ rfl fld85_0 rfl)) ?_
         refine ChD.s (.d (.int .i64 ((x.arcs.getD p default).src))) [14000] (.pure (.loadPtr1 _ _ rfl ag3 rfl rfl rfl)) ?_
         refine ChD.s (.el 9 1 ((((x.arcs.getD p default).src)).toNat) 0) [9] (.pure (.idxRow _ _ _ 5 ((((x.arcs.getD p default).src)).toNat) rfl Try.underlying102 sz5 rfl rfl rfl (by omega) (by first | omega | (simp only [List.length_map, List.length_set]; omega) | (simp; omega)))) ?_
         refine ChD.s (.d (.int .u8 (((spTo x (blkL x s r) q p).getD ((((x.arcs.getD p default).src)).toNat) default).toNat : Int))) [9] (.pure (.loadEl1 _ _ rfl ag5 rfl rfl get_mapA rfl rfl rfl)) ?_
         refine ChD.s (.el 9 1 ((((x.arcs.getD p default).dst)).toNat) 0) [9] (.pure (.idxRow _ _ _ 5 ((((x.arcs.getD p default).dst)).toNat) rfl Try.underlying102 sz5 rfl rfl rfl (by omega) (by first | omega | (simp only [List.length_map, List.length_set]; omega) | (simp; omega)))) ?_
         refine ChD.s .junk [9] (.storeEl (y' := (.int .u8 (((spTo x (blkL x s r) q p).getD ((((x.arcs.getD p default).src)).toNat) default).toNat : Int))) _ _ _ rfl rfl rfl (.d _) rfl sz5 rfl get_mapA rfl rfl) ?_
         refine ChD.nil (And.intro ?_ (by kernel_rfl))
         refine T_region hc ?_
         refine Ch.s (.d (.int .i64 (((p : Nat) : Int) + 1))) (.pure (.int _ _ _ _ _ rfl rfl rfl intV_addA)) ?_
         refine Ch.s (.d (.int .i64 (((p : Nat) : Int) + 1))) (.pure (.move _ rfl rfl)) ?_
         refine Ch.nil ?_
         refine Exists.intro (p + 1) (And.intro (by omega) (And.intro (by first | omega | (dsimp only; omega)) (Wk.of rfl rfl (And.intro rfl (And.intro rfl (And.intro rfl (And.intro rfl (And.intro rfl (And.intro rfl (And.intro rfl (And.intro (vI (by first | rfl | omega | (simp; done) | (simp; omega))) trivial)))))))) (And.intro (oR (by first | rfl | (exact sp_yes (by omega) (by first | exact .inl (by assumption) | exact .inr (by assumption)) (by first | exact in_minus (by assumption) | exact in_minus (by omega) | exact in_else (by assumption) (by assumption) | exact in_else (by omega) (by assumption) | exact in_else (by omega) (by first | exact inputB_yes (by omega) (by assumption) | exact inputB_no (by assumption))) (by first | (rw [← hst]; exact decide_eq_true (by assumption)) | (rw [← crossV_zero]; exact decide_eq_true (by assumption)))) | (exact congrArg (List.map _) (sp_no1 (by omega) (by assumption) (by assumption))) | (exact congrArg (List.map _) (sp_no2 (by omega) (by first | exact in_minus (by assumption) | exact in_minus (by omega) | exact in_else (by assumption) (by assumption) | exact in_else (by omega) (by assumption) | exact in_else (by omega) (by first | exact inputB_yes (by omega) (by assumption) | exact inputB_no (by assumption))))) | (exact congrArg (List.map _) (sp_no3 (by omega) (by first | (rw [← hst]; exact decide_eq_false (by assumption)) | (rw [← crossV_zero]; exact decide_eq_false (by assumption))))) | (exact congrArg (List.map _) (sp_no4 (by omega) (by assumption))))) (And.intro rfl (And.intro rfl trivial))))))
        ·
         replace h15 := of_decide_eq_false h15
         try have hek := hen _ (getD_mem (l := x.arcs) (j := p) (d := default) (by omega))
         try have hsk := (hx.sig _ (getD_mem (l := x.arcs) (j := p) (d := default) (by omega))).1
         try have hss := (hx.sig _ (getD_mem (l := x.arcs) (j := p) (d := default) (by omega))).2
         try have hek := hen _ (getD_mem (l := x.arcs) (j := m) (d := default) (by omega))
         try have hsk := (hx.sig _ (getD_mem (l := x.arcs) (j := m) (d := default) (by omega))).1
         try have hss := (hx.sig _ (getD_mem (l := x.arcs) (j := m) (d := default) (by omega))).2
         refine T_skip ?_
         refine T_region hc ?_
         refine Ch.s (.d (.int .i64 (((p : Nat) : Int) + 1))) (.pure (.int _ _ _ _ _ rfl rfl rfl intV_addA)) ?_
         refine Ch.s (.d (.int .i64 (((p : Nat) : Int) + 1))) (.pure (.move _ rfl rfl)) ?_
         refine Ch.nil ?_
         refine Exists.intro (p + 1) (And.intro (by omega) (And.intro (by first | omega | (dsimp only; omega)) (Wk.of rfl rfl (And.intro rfl (And.intro rfl (And.intro rfl (And.intro rfl (And.intro rfl (And.intro rfl (And.intro rfl (And.intro (vI (by first | rfl | omega | (simp; done) | (simp; omega))) trivial)))))))) (And.intro (oR (by first | rfl | (exact sp_yes (by omega) (by first | exact .inl (by assumption) | exact .inr (by assumption)) (by first | exact in_minus (by assumption) | exact in_minus (by omega) | exact in_else (by assumption) (by assumption) | exact in_else (by omega) (by assumption) | exact in_else (by omega) (by first | exact inputB_yes (by omega) (by assumption) | exact inputB_no (by assumption))) (by first | (rw [← hst]; exact decide_eq_true (by assumption)) | (rw [← crossV_zero]; exact decide_eq_true (by assumption)))) | (exact congrArg (List.map _) (sp_no1 (by omega) (by assumption) (by assumption))) | (exact congrArg (List.map _) (sp_no2 (by omega) (by first | exact in_minus (by assumption) | exact in_minus (by omega) | exact in_else (by assumption) (by assumption) | exact in_else (by omega) (by assumption) | exact in_else (by omega) (by first | exact inputB_yes (by omega) (by assumption) | exact inputB_no (by assumption))))) | (exact congrArg (List.map _) (sp_no3 (by omega) (by first | (rw [← hst]; exact decide_eq_false (by assumption)) | (rw [← crossV_zero]; exact decide_eq_false (by assumption))))) | (exact congrArg (List.map _) (sp_no4 (by omega) (by assumption))))) (And.intro rfl (And.intro rfl trivial))))))
       | false =>
        replace h14 := of_decide_eq_false h14
        try have hek := hen _ (getD_mem (l := x.arcs) (j := p) (d := default) (by omega))
        try have hsk := (hx.sig _ (getD_mem (l := x.arcs) (j := p) (d := default) (by omega))).1
        try have hss := (hx.sig _ (getD_mem (l := x.arcs) (j := p) (d := default) (by omega))).2
        try have hek := hen _ (getD_mem (l := x.arcs) (j := m) (d := default) (by omega))
        try have hsk := (hx.sig _ (getD_mem (l := x.arcs) (j := m) (d := default) (by omega))).1
        try have hss := (hx.sig _ (getD_mem (l := x.arcs) (j := m) (d := default) (by omega))).2
        refine Ch.s (.row 9) (.pure (.move _ rfl rfl)) ?_
        refine Ch.s (.ptr 14000 0) (.pure (.fldPtr _ _ _ rfl fld85_0 rfl)) ?_
        refine Ch.s (.d (.int .i64 ((x.arcs.getD p default).src))) (.pure (.loadPtr1 _ _ rfl ag3 rfl rfl rfl)) ?_
        refine Ch.s (.el 9 1 ((((x.arcs.getD p default).src)).toNat) 0) (.pure (.idxRow _ _ _ 5 ((((x.arcs.getD p default).src)).toNat) rfl Try.underlying102 sz5 rfl rfl rfl (by omega) (by first | omega | (simp only [List.length_map, List.length_set]; omega) | (simp; omega)))) ?_
        refine Ch.s (.d (.int .u8 (((spTo x (blkL x s r) q p).getD ((((x.arcs.getD p default).src)).toNat) default).toNat : Int))) (.pure (.loadEl1 _ _ rfl ag5 rfl rfl get_mapA rfl rfl rfl)) ?_
        refine Ch.s (.d (.bool (decide ((((spTo x (blkL x s r) q p).getD ((((x.arcs.getD p default).src)).toNat) default) : UInt8) = 45)))) (.pure (.int _ _ _ _ _ rfl rfl rfl (u8_eql (((spTo x (blkL x s r) q p).getD ((((x.arcs.getD p default).src)).toNat) default) : UInt8) 45 rfl rfl))) ?_
        refine Ch.s (.d (.bool (decide ((((spTo x (blkL x s r) q p).getD ((((x.arcs.getD p default).src)).toNat) default) : UInt8) = 45)))) (.pure (.pickF _ _ _ rfl rfl rfl)) ?_
        refine Ch.s (.d (.bool (decide ((((spTo x (blkL x s r) q p).getD ((((x.arcs.getD p default).src)).toNat) default) : UInt8) = 45)))) (.pure (.pickT _ _ _ rfl rfl rfl)) ?_
        refine Ch.s (.d (.bool (decide ((((spTo x (blkL x s r) q p).getD ((((x.arcs.getD p default).src)).toNat) default) : UInt8) = 45)))) (.pure (.move _ rfl rfl)) ?_
        cases h16 : (decide ((((spTo x (blkL x s r) q p).getD ((((x.arcs.getD p default).src)).toNat) default) : UInt8) = 45)) with
        | true =>
         replace h16 := of_decide_eq_true h16
         try have hek := hen _ (getD_mem (l := x.arcs) (j := p) (d := default) (by omega))
         try have hsk := (hx.sig _ (getD_mem (l := x.arcs) (j := p) (d := default) (by omega))).1
         try have hss := (hx.sig _ (getD_mem (l := x.arcs) (j := p) (d := default) (by omega))).2
         try have hek := hen _ (getD_mem (l := x.arcs) (j := m) (d := default) (by omega))
         try have hsk := (hx.sig _ (getD_mem (l := x.arcs) (j := m) (d := default) (by omega))).1
         try have hss := (hx.sig _ (getD_mem (l := x.arcs) (j := m) (d := default) (by omega))).2
         refine Ch.s (.agg [(.d (.int .i64 ((x.arcs.getD p default).src))), (.d (.int .i64 ((x.arcs.getD p default).sig))), (.d (.bool ((x.arcs.getD p default).up))), (.d (.int .i64 ((x.arcs.getD p default).dst)))]) (.pure (.loadPtrA _ _ rfl ag85 sz85 rfl rfl (Nat.le_of_ble_eq_true rfl) rfl)) ?_
         refine Ch.s (.row 19000) (.pure (.move _ rfl rfl)) ?_
         refine Ch.s (.d (.int .i64 (crossV (blkL x s r) (x.arcs.getD p default)))) (.call 107000 88 _ _ _ en88 rfl (.inl rfl) (.cons (.lend (.agg (.cons (.d _) (.cons (.d _) (.cons (.d _) (.cons (.d _) .nil)))) rfl)) (.cons (.lend (.row rfl (frozs_map (fun _ => rfl) _))) .nil)) rfl rfl (sp_spec_l10Cross (x.arcs.getD p default) (blkL x s r) (by first | assumption | omega | (rw [List.length_take]; omega) | (have := bulkF_mem hb _ (getD_mem (d := default) (by omega)); assumption) | (unfold bulkS at *; omega) | (simp_all; done))) (.skip _ _ (.skip _ _ .nil)) rfl) ?_
         refine Ch.s (.d (.bool (decide ((crossV (blkL x s r) (x.arcs.getD p default)) = 0)))) (.pure (.int _ _ _ _ _ rfl rfl rfl rfl)) ?_
         refine Ch.s (.d (.bool (decide ((crossV (blkL x s r) (x.arcs.getD p default)) = 0)))) (.pure (.pickT _ _ _ rfl rfl rfl)) ?_
         refine Ch.nil ?_
         refine T_cond (b := (decide ((crossV (blkL x s r) (x.arcs.getD p default)) = 0))) rfl (fun h17 => ?_) (fun h17 => ?_)
         ·
          replace h17 := of_decide_eq_true h17
          try have hek := hen _ (getD_mem (l := x.arcs) (j := p) (d := default) (by omega))
          try have hsk := (hx.sig _ (getD_mem (l := x.arcs) (j := p) (d := default) (by omega))).1
          try have hss := (hx.sig _ (getD_mem (l := x.arcs) (j := p) (d := default) (by omega))).2
          try have hek := hen _ (getD_mem (l := x.arcs) (j := m) (d := default) (by omega))
          try have hsk := (hx.sig _ (getD_mem (l := x.arcs) (j := m) (d := default) (by omega))).1
          try have hss := (hx.sig _ (getD_mem (l := x.arcs) (j := m) (d := default) (by omega))).2
          refine T_regionD hc (by kernel_rfl) ?_
          refine ChD.s (.row 9) [] (.pure (.move _ rfl rfl)) ?_
          refine ChD.s (.ptr 14000 3) [] (.pure (.fldPtr _ _ _ rfl fld85_3 rfl)) ?_
          refine ChD.s (.d (.int .i64 ((x.arcs.getD p default).dst))) [14000] (.pure (.loadPtr1 _ _ rfl ag3 rfl rfl rfl)) ?_
          refine ChD.s (.row 9) [] (.pure (.move _ rfl rfl)) ?_
          refine ChD.s (.ptr 14000 0) [] (.pure (.fldPtr _ _ _ rfl fld85_0 rfl)) ?_
          refine ChD.s (.d (.int .i64 ((x.arcs.getD p default).src))) [14000] (.pure (.loadPtr1 _ _ rfl ag3 rfl rfl rfl)) ?_
          refine ChD.s (.el 9 1 ((((x.arcs.getD p default).src)).toNat) 0) [9] (.pure (.idxRow _ _ _ 5 ((((x.arcs.getD p default).src)).toNat) rfl Try.underlying102 sz5 rfl rfl rfl (by omega) (by first | omega | (simp only [List.length_map, List.length_set]; omega) | (simp; omega)))) ?_
          refine ChD.s (.d (.int .u8 (((spTo x (blkL x s r) q p).getD ((((x.arcs.getD p default).src)).toNat) default).toNat : Int))) [9] (.pure (.loadEl1 _ _ rfl ag5 rfl rfl get_mapA rfl rfl rfl)) ?_
          refine ChD.s (.el 9 1 ((((x.arcs.getD p default).dst)).toNat) 0) [9] (.pure (.idxRow _ _ _ 5 ((((x.arcs.getD p default).dst)).toNat) rfl Try.underlying102 sz5 rfl rfl rfl (by omega) (by first | omega | (simp only [List.length_map, List.length_set]; omega) | (simp; omega)))) ?_
          refine ChD.s .junk [9] (.storeEl (y' := (.int .u8 (((spTo x (blkL x s r) q p).getD ((((x.arcs.getD p default).src)).toNat) default).toNat : Int))) _ _ _ rfl rfl rfl (.d _) rfl sz5 rfl get_mapA rfl rfl) ?_
          refine ChD.nil (And.intro ?_ (by kernel_rfl))
          refine T_region hc ?_
          refine Ch.s (.d (.int .i64 (((p : Nat) : Int) + 1))) (.pure (.int _ _ _ _ _ rfl rfl rfl intV_addA)) ?_
          refine Ch.s (.d (.int .i64 (((p : Nat) : Int) + 1))) (.pure (.move _ rfl rfl)) ?_
          refine Ch.nil ?_
          refine Exists.intro (p + 1) (And.intro (by omega) (And.intro (by first | omega | (dsimp only; omega)) (Wk.of rfl rfl (And.intro rfl (And.intro rfl (And.intro rfl (And.intro rfl (And.intro rfl (And.intro rfl (And.intro rfl (And.intro (vI (by first | rfl | omega | (simp; done) | (simp; omega))) trivial)))))))) (And.intro (oR (by first | rfl | (exact sp_yes (by omega) (by first | exact .inl (by assumption) | exact .inr (by assumption)) (by first | exact in_minus (by assumption) | exact in_minus (by omega) | exact in_else (by assumption) (by assumption) | exact in_else (by omega) (by assumption) | exact in_else (by omega) (by first | exact inputB_yes (by omega) (by assumption) | exact inputB_no (by assumption))) (by first | (rw [← hst]; exact decide_eq_true (by assumption)) | (rw [← crossV_zero]; exact decide_eq_true (by assumption)))) | (exact congrArg (List.map _) (sp_no1 (by omega) (by assumption) (by assumption))) | (exact congrArg (List.map _) (sp_no2 (by omega) (by first | exact in_minus (by assumption) | exact in_minus (by omega) | exact in_else (by assumption) (by assumption) | exact in_else (by omega) (by assumption) | exact in_else (by omega) (by first | exact inputB_yes (by omega) (by assumption) | exact inputB_no (by assumption))))) | (exact congrArg (List.map _) (sp_no3 (by omega) (by first | (rw [← hst]; exact decide_eq_false (by assumption)) | (rw [← crossV_zero]; exact decide_eq_false (by assumption))))) | (exact congrArg (List.map _) (sp_no4 (by omega) (by assumption))))) (And.intro rfl (And.intro rfl trivial))))))
         ·
          replace h17 := of_decide_eq_false h17
          try have hek := hen _ (getD_mem (l := x.arcs) (j := p) (d := default) (by omega))
          try have hsk := (hx.sig _ (getD_mem (l := x.arcs) (j := p) (d := default) (by omega))).1
          try have hss := (hx.sig _ (getD_mem (l := x.arcs) (j := p) (d := default) (by omega))).2
          try have hek := hen _ (getD_mem (l := x.arcs) (j := m) (d := default) (by omega))
          try have hsk := (hx.sig _ (getD_mem (l := x.arcs) (j := m) (d := default) (by omega))).1
          try have hss := (hx.sig _ (getD_mem (l := x.arcs) (j := m) (d := default) (by omega))).2
          refine T_skip ?_
          refine T_region hc ?_
          refine Ch.s (.d (.int .i64 (((p : Nat) : Int) + 1))) (.pure (.int _ _ _ _ _ rfl rfl rfl intV_addA)) ?_
          refine Ch.s (.d (.int .i64 (((p : Nat) : Int) + 1))) (.pure (.move _ rfl rfl)) ?_
          refine Ch.nil ?_
          refine Exists.intro (p + 1) (And.intro (by omega) (And.intro (by first | omega | (dsimp only; omega)) (Wk.of rfl rfl (And.intro rfl (And.intro rfl (And.intro rfl (And.intro rfl (And.intro rfl (And.intro rfl (And.intro rfl (And.intro (vI (by first | rfl | omega | (simp; done) | (simp; omega))) trivial)))))))) (And.intro (oR (by first | rfl | (exact sp_yes (by omega) (by first | exact .inl (by assumption) | exact .inr (by assumption)) (by first | exact in_minus (by assumption) | exact in_minus (by omega) | exact in_else (by assumption) (by assumption) | exact in_else (by omega) (by assumption) | exact in_else (by omega) (by first | exact inputB_yes (by omega) (by assumption) | exact inputB_no (by assumption))) (by first | (rw [← hst]; exact decide_eq_true (by assumption)) | (rw [← crossV_zero]; exact decide_eq_true (by assumption)))) | (exact congrArg (List.map _) (sp_no1 (by omega) (by assumption) (by assumption))) | (exact congrArg (List.map _) (sp_no2 (by omega) (by first | exact in_minus (by assumption) | exact in_minus (by omega) | exact in_else (by assumption) (by assumption) | exact in_else (by omega) (by assumption) | exact in_else (by omega) (by first | exact inputB_yes (by omega) (by assumption) | exact inputB_no (by assumption))))) | (exact congrArg (List.map _) (sp_no3 (by omega) (by first | (rw [← hst]; exact decide_eq_false (by assumption)) | (rw [← crossV_zero]; exact decide_eq_false (by assumption))))) | (exact congrArg (List.map _) (sp_no4 (by omega) (by assumption))))) (And.intro rfl (And.intro rfl trivial))))))
        | false =>
         replace h16 := of_decide_eq_false h16
         try have hek := hen _ (getD_mem (l := x.arcs) (j := p) (d := default) (by omega))
         try have hsk := (hx.sig _ (getD_mem (l := x.arcs) (j := p) (d := default) (by omega))).1
         try have hss := (hx.sig _ (getD_mem (l := x.arcs) (j := p) (d := default) (by omega))).2
         try have hek := hen _ (getD_mem (l := x.arcs) (j := m) (d := default) (by omega))
         try have hsk := (hx.sig _ (getD_mem (l := x.arcs) (j := m) (d := default) (by omega))).1
         try have hss := (hx.sig _ (getD_mem (l := x.arcs) (j := m) (d := default) (by omega))).2
         refine Ch.skip rfl rfl ?_
         refine Ch.skip rfl rfl ?_
         refine Ch.skip rfl rfl ?_
         refine Ch.skip rfl rfl ?_
         refine Ch.s (.d (.bool false)) (.pure (.pickF _ _ _ rfl rfl rfl)) ?_
         refine Ch.nil ?_
         refine T_cond (b := false) rfl (fun h => nomatch h) (fun _ => ?_)
         refine T_skip ?_
         refine T_region hc ?_
         refine Ch.s (.d (.int .i64 (((p : Nat) : Int) + 1))) (.pure (.int _ _ _ _ _ rfl rfl rfl intV_addA)) ?_
         refine Ch.s (.d (.int .i64 (((p : Nat) : Int) + 1))) (.pure (.move _ rfl rfl)) ?_
         refine Ch.nil ?_
         refine Exists.intro (p + 1) (And.intro (by omega) (And.intro (by first | omega | (dsimp only; omega)) (Wk.of rfl rfl (And.intro rfl (And.intro rfl (And.intro rfl (And.intro rfl (And.intro rfl (And.intro rfl (And.intro rfl (And.intro (vI (by first | rfl | omega | (simp; done) | (simp; omega))) trivial)))))))) (And.intro (oR (by first | rfl | (exact sp_yes (by omega) (by first | exact .inl (by assumption) | exact .inr (by assumption)) (by first | exact in_minus (by assumption) | exact in_minus (by omega) | exact in_else (by assumption) (by assumption) | exact in_else (by omega) (by assumption) | exact in_else (by omega) (by first | exact inputB_yes (by omega) (by assumption) | exact inputB_no (by assumption))) (by first | (rw [← hst]; exact decide_eq_true (by assumption)) | (rw [← crossV_zero]; exact decide_eq_true (by assumption)))) | (exact congrArg (List.map _) (sp_no1 (by omega) (by assumption) (by assumption))) | (exact congrArg (List.map _) (sp_no2 (by omega) (by first | exact in_minus (by assumption) | exact in_minus (by omega) | exact in_else (by assumption) (by assumption) | exact in_else (by omega) (by assumption) | exact in_else (by omega) (by first | exact inputB_yes (by omega) (by assumption) | exact inputB_no (by assumption))))) | (exact congrArg (List.map _) (sp_no3 (by omega) (by first | (rw [← hst]; exact decide_eq_false (by assumption)) | (rw [← crossV_zero]; exact decide_eq_false (by assumption))))) | (exact congrArg (List.map _) (sp_no4 (by omega) (by assumption))))) (And.intro rfl (And.intro rfl trivial))))))
      | false =>
       replace h13 := of_decide_eq_false h13
       try have hek := hen _ (getD_mem (l := x.arcs) (j := p) (d := default) (by omega))
       try have hsk := (hx.sig _ (getD_mem (l := x.arcs) (j := p) (d := default) (by omega))).1
       try have hss := (hx.sig _ (getD_mem (l := x.arcs) (j := p) (d := default) (by omega))).2
       try have hek := hen _ (getD_mem (l := x.arcs) (j := m) (d := default) (by omega))
       try have hsk := (hx.sig _ (getD_mem (l := x.arcs) (j := m) (d := default) (by omega))).1
       try have hss := (hx.sig _ (getD_mem (l := x.arcs) (j := m) (d := default) (by omega))).2
       refine Ch.skip rfl rfl ?_
       refine Ch.skip rfl rfl ?_
       refine Ch.skip rfl rfl ?_
       refine Ch.skip rfl rfl ?_
       refine Ch.skip rfl rfl ?_
       refine Ch.skip rfl rfl ?_
       refine Ch.skip rfl rfl ?_
       refine Ch.skip rfl rfl ?_
       refine Ch.skip rfl rfl ?_
       refine Ch.skip rfl rfl ?_
       refine Ch.skip rfl rfl ?_
       refine Ch.skip rfl rfl ?_
       refine Ch.skip rfl rfl ?_
       refine Ch.skip rfl rfl ?_
       refine Ch.s (.d (.bool false)) (.pure (.pickF _ _ _ rfl rfl rfl)) ?_
       refine Ch.s (.d (.bool false)) (.pure (.move _ rfl rfl)) ?_
       refine Ch.skip rfl rfl ?_
       refine Ch.skip rfl rfl ?_
       refine Ch.skip rfl rfl ?_
       refine Ch.skip rfl rfl ?_
       refine Ch.s (.d (.bool false)) (.pure (.pickF _ _ _ rfl rfl rfl)) ?_
       refine Ch.nil ?_
       refine T_cond (b := false) rfl (fun h => nomatch h) (fun _ => ?_)
       refine T_skip ?_
       refine T_region hc ?_
       refine Ch.s (.d (.int .i64 (((p : Nat) : Int) + 1))) (.pure (.int _ _ _ _ _ rfl rfl rfl intV_addA)) ?_
       refine Ch.s (.d (.int .i64 (((p : Nat) : Int) + 1))) (.pure (.move _ rfl rfl)) ?_
       refine Ch.nil ?_
       refine Exists.intro (p + 1) (And.intro (by omega) (And.intro (by first | omega | (dsimp only; omega)) (Wk.of rfl rfl (And.intro rfl (And.intro rfl (And.intro rfl (And.intro rfl (And.intro rfl (And.intro rfl (And.intro rfl (And.intro (vI (by first | rfl | omega | (simp; done) | (simp; omega))) trivial)))))))) (And.intro (oR (by first | rfl | (exact sp_yes (by omega) (by first | exact .inl (by assumption) | exact .inr (by assumption)) (by first | exact in_minus (by assumption) | exact in_minus (by omega) | exact in_else (by assumption) (by assumption) | exact in_else (by omega) (by assumption) | exact in_else (by omega) (by first | exact inputB_yes (by omega) (by assumption) | exact inputB_no (by assumption))) (by first | (rw [← hst]; exact decide_eq_true (by assumption)) | (rw [← crossV_zero]; exact decide_eq_true (by assumption)))) | (exact congrArg (List.map _) (sp_no1 (by omega) (by assumption) (by assumption))) | (exact congrArg (List.map _) (sp_no2 (by omega) (by first | exact in_minus (by assumption) | exact in_minus (by omega) | exact in_else (by assumption) (by assumption) | exact in_else (by omega) (by assumption) | exact in_else (by omega) (by first | exact inputB_yes (by omega) (by assumption) | exact inputB_no (by assumption))))) | (exact congrArg (List.map _) (sp_no3 (by omega) (by first | (rw [← hst]; exact decide_eq_false (by assumption)) | (rw [← crossV_zero]; exact decide_eq_false (by assumption))))) | (exact congrArg (List.map _) (sp_no4 (by omega) (by assumption))))) (And.intro rfl (And.intro rfl trivial))))))
    ·
     replace h7 := of_decide_eq_false h7
     try have hek := hen _ (getD_mem (l := x.arcs) (j := p) (d := default) (by omega))
     try have hsk := (hx.sig _ (getD_mem (l := x.arcs) (j := p) (d := default) (by omega))).1
     try have hss := (hx.sig _ (getD_mem (l := x.arcs) (j := p) (d := default) (by omega))).2
     try have hek := hen _ (getD_mem (l := x.arcs) (j := m) (d := default) (by omega))
     try have hsk := (hx.sig _ (getD_mem (l := x.arcs) (j := m) (d := default) (by omega))).1
     try have hss := (hx.sig _ (getD_mem (l := x.arcs) (j := m) (d := default) (by omega))).2
     refine T_exit ?_
     refine T_region hc ?_
     refine Ch.s (.d (.int .i64 (((q : Nat) : Int) + 1))) (.pure (.int _ _ _ _ _ rfl rfl rfl intV_addA)) ?_
     refine Ch.s (.d (.int .i64 (((q : Nat) : Int) + 1))) (.pure (.move _ rfl rfl)) ?_
     refine Ch.nil ?_
     refine Exists.intro (q + 1) (And.intro (by omega) (And.intro (by first | omega | (dsimp only; omega)) (Wk.of rfl rfl (And.intro rfl (And.intro rfl (And.intro rfl (And.intro rfl (And.intro (vI (by first | rfl | omega | (simp; done) | (simp; omega))) trivial))))) (And.intro (oR (by first | (rw [show m = x.arcs.length by omega]; rfl) | (rw [spTo_next (by omega)]; done))) (And.intro rfl (And.intro rfl trivial))))))
   ·
    replace h6 := of_decide_eq_false h6
    try have hek := hen _ (getD_mem (l := x.arcs) (j := p) (d := default) (by omega))
    try have hsk := (hx.sig _ (getD_mem (l := x.arcs) (j := p) (d := default) (by omega))).1
    try have hss := (hx.sig _ (getD_mem (l := x.arcs) (j := p) (d := default) (by omega))).2
    try have hek := hen _ (getD_mem (l := x.arcs) (j := m) (d := default) (by omega))
    try have hsk := (hx.sig _ (getD_mem (l := x.arcs) (j := m) (d := default) (by omega))).1
    try have hss := (hx.sig _ (getD_mem (l := x.arcs) (j := m) (d := default) (by omega))).2
    refine T_exit ?_
    refine T_seq ?_
    refine T_regionD hc (by kernel_rfl) ?_
    refine ChD.s (.row 9) [] (.pure (.move _ rfl rfl)) ?_
    refine ChD.s (.d (.str (spIt x (blkL x s r) q))) [9] (.string (l := spIt x (blkL x s r) q) _ _ _ _ rfl Try.underlying102 Try.underlying5 Try.underlying9 (.row rfl (noUs_map (fun _ => rfl) _))) ?_
    refine ChD.s (.agg [(.d (.slice false 2 (x.sigs.map Sgn.d))), (.d (.slice false 1 (x.codes.map D.str))), (.d (.slice false 4 (x.arcs.map Arc.d)))]) [3000] (.pure (.loadPtrA _ _ rfl ag34 sz34 rfl rfl (Nat.le_of_ble_eq_true rfl) rfl)) ?_
    refine ChD.s (.row 9) [] (.pure (.move _ rfl rfl)) ?_
    refine ChD.s (.d (.str (spIt x (blkL x s r) q))) [9] (.string (l := spIt x (blkL x s r) q) _ _ _ _ rfl Try.underlying102 Try.underlying5 Try.underlying9 (.row rfl (noUs_map (fun _ => rfl) _))) ?_
    refine ChD.s (.d (.bool (partB x (spIt x (blkL x s r) q)))) [] (.call 126000 89 _ _ _ en89 rfl (.inl rfl) (.cons (.lend (.agg (.cons (.d _) (.cons (.d _) (.cons (.d _) .nil))) rfl)) (.cons (.d _) .nil)) rfl rfl (sp_spec_l11Good x (spIt x (blkL x s r) q) (by first | assumption | omega | (rw [List.length_take]; omega) | (have := bulkF_mem hb _ (getD_mem (d := default) (by omega)); assumption) | (unfold bulkS at *; omega) | (simp_all; done)) (by first | assumption | omega | (rw [List.length_take]; omega) | (have := bulkF_mem hb _ (getD_mem (d := default) (by omega)); assumption) | (unfold bulkS at *; omega) | (simp_all; done)) (by assumption)) (.skip _ _ (.skip _ _ .nil)) rfl) ?_
    refine ChD.s (.d (.bool (partB x (spIt x (blkL x s r) q)))) [] (.pure (.move _ rfl rfl)) ?_
    cases h18 : (partB x (spIt x (blkL x s r) q)) with
    | true =>
     try have hek := hen _ (getD_mem (l := x.arcs) (j := p) (d := default) (by omega))
     try have hsk := (hx.sig _ (getD_mem (l := x.arcs) (j := p) (d := default) (by omega))).1
     try have hss := (hx.sig _ (getD_mem (l := x.arcs) (j := p) (d := default) (by omega))).2
     try have hek := hen _ (getD_mem (l := x.arcs) (j := m) (d := default) (by omega))
     try have hsk := (hx.sig _ (getD_mem (l := x.arcs) (j := m) (d := default) (by omega))).1
     try have hss := (hx.sig _ (getD_mem (l := x.arcs) (j := m) (d := default) (by omega))).2
     refine ChD.s (.row 19000) [] (.pure (.move _ rfl rfl)) ?_
     refine ChD.s (.d (.int .i64 (((blkL x s r).length : Nat) : Int))) [19000] (.pure (.len _ _ 3 rfl Try.underlying43 (.row rfl) (by simp))) ?_
     refine ChD.s (.d (.bool (decide (0 < (((blkL x s r).length : Nat) : Int))))) [] (.pure (.int _ _ _ _ _ rfl rfl rfl rfl)) ?_
     refine ChD.s (.d (.bool (decide (0 < (((blkL x s r).length : Nat) : Int))))) [] (.pure (.pickT _ _ _ rfl rfl rfl)) ?_
     refine ChD.s (.d (.bool (decide (0 < (((blkL x s r).length : Nat) : Int))))) [] (.pure (.move _ rfl rfl)) ?_
     cases h19 : (decide (0 < (((blkL x s r).length : Nat) : Int))) with
     | true =>
      replace h19 := of_decide_eq_true h19
      try have hek := hen _ (getD_mem (l := x.arcs) (j := p) (d := default) (by omega))
      try have hsk := (hx.sig _ (getD_mem (l := x.arcs) (j := p) (d := default) (by omega))).1
      try have hss := (hx.sig _ (getD_mem (l := x.arcs) (j := p) (d := default) (by omega))).2
      try have hek := hen _ (getD_mem (l := x.arcs) (j := m) (d := default) (by omega))
      try have hsk := (hx.sig _ (getD_mem (l := x.arcs) (j := m) (d := default) (by omega))).1
      try have hss := (hx.sig _ (getD_mem (l := x.arcs) (j := m) (d := default) (by omega))).2
      refine ChD.s (.row 19000) [] (.pure (.move _ rfl rfl)) ?_
      refine ChD.s (.d (.int .i64 (((blkL x s r).length : Nat) : Int))) [19000] (.pure (.len _ _ 3 rfl Try.underlying43 (.row rfl) (by simp))) ?_
      refine ChD.s (.row 9) [] (.pure (.move _ rfl rfl)) ?_
      refine ChD.s (.d (.int .i64 (((spIt x (blkL x s r) q).length : Nat) : Int))) [9] (.pure (.len _ _ 5 rfl Try.underlying102 (.row rfl) (by simp))) ?_
      refine ChD.s (.d (.bool (decide ((((blkL x s r).length : Nat) : Int) < (((spIt x (blkL x s r) q).length : Nat) : Int))))) [] (.pure (.int _ _ _ _ _ rfl rfl rfl rfl)) ?_
      refine ChD.s (.d (.bool (decide ((((blkL x s r).length : Nat) : Int) < (((spIt x (blkL x s r) q).length : Nat) : Int))))) [] (.pure (.pickT _ _ _ rfl rfl rfl)) ?_
      refine ChD.s (.d (.str (spIt x (blkL x s r) q))) [] (.pure (.assign _ rfl rfl)) ?_
      refine ChD.s (.d (.bool (decide ((((blkL x s r).length : Nat) : Int) < (((spIt x (blkL x s r) q).length : Nat) : Int))))) [] (.pure (.assign _ rfl rfl)) ?_
      refine ChD.nil (And.intro ?_ (by kernel_rfl))
      refine T_ret ?_
      refine And.intro (.inr rfl) ?_
      exact Exists.intro [(.d (.str (spIt x (blkL x s r) q))), (.d (.bool (decide ((((blkL x s r).length : Nat) : Int) < (((spIt x (blkL x s r) q).length : Nat) : Int)))))] (Exists.intro [] (Exists.intro [] (And.intro (.cons (.tmp 6 rfl) (.cons (.tmp 7 rfl) .nil)) (And.intro (.cons (.any _) (.cons (.any _) (.cons (.any _) .nil))) (And.intro (.tup (.cons (Exp.of (congrArg D.str (by first | (rw [signsF, show x.codes.length = q by omega]; done) | (exact okP_yes (q := q) (by omega) hsp0 (by assumption) (by assumption)) | (exact (okP_no1 (q := q) (by omega) (by assumption)).symm) | (exact (okP_no2 (by assumption)).symm))) (.d _)) (.cons (Exp.of (congrArg D.bool (by first | (rw [signsF, show x.codes.length = q by omega]; done) | (exact okP_yes (q := q) (by omega) hsp0 (by assumption) (by assumption)) | (exact (okP_no1 (q := q) (by omega) (by assumption)).symm) | (exact (okP_no2 (by assumption)).symm))) (.d _)) .nil))) (And.intro rfl rfl))))))
     | false =>
      replace h19 := of_decide_eq_false h19
      try have hek := hen _ (getD_mem (l := x.arcs) (j := p) (d := default) (by omega))
      try have hsk := (hx.sig _ (getD_mem (l := x.arcs) (j := p) (d := default) (by omega))).1
      try have hss := (hx.sig _ (getD_mem (l := x.arcs) (j := p) (d := default) (by omega))).2
      try have hek := hen _ (getD_mem (l := x.arcs) (j := m) (d := default) (by omega))
      try have hsk := (hx.sig _ (getD_mem (l := x.arcs) (j := m) (d := default) (by omega))).1
      try have hss := (hx.sig _ (getD_mem (l := x.arcs) (j := m) (d := default) (by omega))).2
      refine ChD.skip rfl rfl ?_
      refine ChD.skip rfl rfl ?_
      refine ChD.skip rfl rfl ?_
      refine ChD.skip rfl rfl ?_
      refine ChD.skip rfl rfl ?_
      refine ChD.s (.d (.bool false)) [] (.pure (.pickF _ _ _ rfl rfl rfl)) ?_
      refine ChD.s (.d (.str (spIt x (blkL x s r) q))) [] (.pure (.assign _ rfl rfl)) ?_
      refine ChD.s (.d (.bool false)) [] (.pure (.assign _ rfl rfl)) ?_
      refine ChD.nil (And.intro ?_ (by kernel_rfl))
      refine T_ret ?_
      refine And.intro (.inr rfl) ?_
      exact Exists.intro [(.d (.str (spIt x (blkL x s r) q))), (.d (.bool false))] (Exists.intro [] (Exists.intro [] (And.intro (.cons (.tmp 6 rfl) (.cons (.tmp 7 rfl) .nil)) (And.intro (.cons (.any _) (.cons (.any _) (.cons (.any _) .nil))) (And.intro (.tup (.cons (Exp.of (congrArg D.str (by first | (rw [signsF, show x.codes.length = q by omega]; done) | (exact okP_yes (q := q) (by omega) hsp0 (by assumption) (by assumption)) | (exact (okP_no1 (q := q) (by omega) (by assumption)).symm) | (exact (okP_no2 (by assumption)).symm))) (.d _)) (.cons (Exp.of (congrArg D.bool (by first | (rw [signsF, show x.codes.length = q by omega]; done) | (exact okP_yes (q := q) (by omega) hsp0 (by assumption) (by assumption)) | (exact (okP_no1 (q := q) (by omega) (by assumption)).symm) | (exact (okP_no2 (by assumption)).symm))) (.d _)) .nil))) (And.intro rfl rfl))))))
    | false =>
     try have hek := hen _ (getD_mem (l := x.arcs) (j := p) (d := default) (by omega))
     try have hsk := (hx.sig _ (getD_mem (l := x.arcs) (j := p) (d := default) (by omega))).1
     try have hss := (hx.sig _ (getD_mem (l := x.arcs) (j := p) (d := default) (by omega))).2
     try have hek := hen _ (getD_mem (l := x.arcs) (j := m) (d := default) (by omega))
     try have hsk := (hx.sig _ (getD_mem (l := x.arcs) (j := m) (d := default) (by omega))).1
     try have hss := (hx.sig _ (getD_mem (l := x.arcs) (j := m) (d := default) (by omega))).2
     refine ChD.skip rfl rfl ?_
     refine ChD.skip rfl rfl ?_
     refine ChD.skip rfl rfl ?_
     refine ChD.s (.d (.bool false)) [] (.pure (.pickF _ _ _ rfl rfl rfl)) ?_
     refine ChD.s (.d (.bool false)) [] (.pure (.move _ rfl rfl)) ?_
     refine ChD.skip rfl rfl ?_
     refine ChD.skip rfl rfl ?_
     refine ChD.skip rfl rfl ?_
     refine ChD.skip rfl rfl ?_
     refine ChD.skip rfl rfl ?_
     refine ChD.s (.d (.bool false)) [] (.pure (.pickF _ _ _ rfl rfl rfl)) ?_
     refine ChD.s (.d (.str (spIt x (blkL x s r) q))) [] (.pure (.assign _ rfl rfl)) ?_
     refine ChD.s (.d (.bool false)) [] (.pure (.assign _ rfl rfl)) ?_
     refine ChD.nil (And.intro ?_ (by kernel_rfl))
     refine T_ret ?_
     refine And.intro (.inr rfl) ?_
     exact Exists.intro [(.d (.str (spIt x (blkL x s r) q))), (.d (.bool false))] (Exists.intro [] (Exists.intro [] (And.intro (.cons (.tmp 6 rfl) (.cons (.tmp 7 rfl) .nil)) (And.intro (.cons (.any _) (.cons (.any _) (.cons (.any _) .nil))) (And.intro (.tup (.cons (Exp.of (congrArg D.str (by first | (rw [signsF, show x.codes.length = q by omega]; done) | (exact okP_yes (q := q) (by omega) hsp0 (by assumption) (by assumption)) | (exact (okP_no1 (q := q) (by omega) (by assumption)).symm) | (exact (okP_no2 (by assumption)).symm))) (.d _)) (.cons (Exp.of (congrArg D.bool (by first | (rw [signsF, show x.codes.length = q by omega]; done) | (exact okP_yes (q := q) (by omega) hsp0 (by assumption) (by assumption)) | (exact (okP_no1 (q := q) (by omega) (by assumption)).symm) | (exact (okP_no2 (by assumption)).symm))) (.d _)) .nil))) (And.intro rfl rfl))))))

end Go.AM
