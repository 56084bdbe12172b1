/-
  The contracts that the law FnExactResetFunctionSets needs.
-/
import Derived.Test.YtnmlcebejnlikaaGreatZResetFunctionSets3
namespace Go.AM
open Go.Proofs
set_option linter.unusedVariables false
set_option linter.unusedSimpArgs false

set_option maxHeartbeats 2000000 in
theorem sp_spec_l15Sets (x : Sgr) (sig : Int) (w : List UInt8) (hb : x.bulk ≤ 1048576) (hx : SgOk x) (hs : 0 ≤ sig ∧ sig.toNat < x.sigs.length) : Sp Tryz.prog 135 [(.agg [(.slice false 2 (x.sigs.map Sgn.d)), (.slice false 1 (x.codes.map D.str)), (.slice false 4 (x.arcs.map Arc.d))]), (.int .i64 sig), (.str w)] [.any, .any, .any] (.agg [(.slice true 1 ((osL x (onQ x sig (wayN w))).map D.str)), (.slice true 1 ((osL x (offQ x sig (wayN w))).map D.str))]) := by
 refine Sp_intro (lend := true) Tryz.func135 rfl rfl rfl (fun _ => rfl) (fun c hc hX => ?_)
 obtain ⟨hp0, hp1, hp2⟩ := Sgr.parts hb
 have hn0 := bulkF_len hp0
 have hn1 := bulk_len hp1
 have hx1 := bulk_mem hp1
 have hn2 := bulkF_len hp2; have hxl := hx.len; have hxf := hx.few; have hck := codes_at hx.codes
 refine T_seq ?_
 refine T_region hc ?_
 refine Ch.s (.ptr 3000 0) (.box 3000 _ _ rfl (.aggD _)) ?_
 refine Ch.s (.ptr 6000 0) (.alloc 6000 _ rfl zer29) ?_
 refine Ch.nil ?_
 refine T_seq ?_
 refine T_region hc ?_
 refine Ch.s (.ptr 7000 0) (.alloc 7000 _ rfl zer29) ?_
 refine Ch.nil ?_
 refine T_seq ?_
 refine T_seq ?_
 refine T_region hc ?_
 refine Ch.s (.ptr 3000 1) (.pure (.fldPtr _ _ _ rfl fld35_1 rfl)) ?_
 refine Ch.s (.d (.slice false 1 (x.codes.map D.str))) (.pure (.loadPtr1 _ _ rfl ag23 rfl rfl rfl)) ?_
 refine Ch.s (.d (.int .i64 ((x.codes.length : Nat) : Int))) (.pure (.len _ _ 9 rfl Tryz.underlying23 (.sh _ _) (by simp))) ?_
 refine Ch.s (.d (.int .i64 0)) (.pure (.move _ rfl rfl)) ?_
 refine Ch.nil ?_
 refine T_block ?_
 refine T_loop (ι := Nat) (fun k => { n := 69, sl := [(1, (.d (.int .i64 sig))), (2, (.d (.str w))), (3, (.ptr 3000 0)), (6, (.ptr 6000 0)), (7, (.ptr 7000 0)), (15, (.d (.slice false 1 (x.codes.map D.str)))), (16, (.d (.int .i64 ((x.codes.length : Nat) : Int)))), (17, (.d (.int .i64 ((k : Nat) : Int))))], hp := [(3000, (some (.box [(.d (.slice false 2 (x.sigs.map Sgn.d))), (.d (.slice false 1 (x.codes.map D.str))), (.d (.slice false 4 (x.arcs.map Arc.d)))]))), (6000, (some (.box [(.c (.slice none 0 0)), (.c (.slice none 0 0))]))), (7000, (some (.box [(.row 7700), (.row 7701)]))), (7700, (some (.row 1 ((osTo x (onQ x sig (wayN w)) k).map D.str)))), (7701, (some (.row 1 ((osTo x (offQ x sig (wayN w)) k).map D.str))))], pin := [] }) (fun k => k ≤ x.codes.length) (fun k => x.codes.length - k) ⟨0, (by omega), (Wk.trans (Wk.nilcell 7000 0 980000 1 rfl rfl rfl) (Wk.trans (Wk.nilcell 7000 1 980001 1 rfl rfl rfl) (Wk.ren [(7700, 980000), (7701, 980001)] rfl rfl rfl rfl (And.intro rfl (And.intro rfl (And.intro rfl (And.intro rfl (And.intro rfl (And.intro rfl (And.intro rfl (And.intro (vI (by first | rfl | omega | (simp; done) | (simp; omega))) trivial)))))))) (And.intro rfl (And.intro rfl (And.intro (oB (Eq.trans (b := [(.row 980000), (.row 980001)]) rfl (by rfl))) (And.intro (oR (by first | (rw [osTo_zero]; rfl) | (exact congrArg (List.map D.str) (osTo_yes (by simp_all [onQ, offQ, wayOn, wayOff, wayN, bitQ]; done))) | (exact congrArg (List.map D.str) (osTo_no (by simp_all [onQ, offQ, wayOn, wayOff, wayN, bitQ]; done))))) (And.intro (oR (by first | (rw [osTo_zero]; rfl) | (exact congrArg (List.map D.str) (osTo_yes (by simp_all [onQ, offQ, wayOn, wayOff, wayN, bitQ]; done))) | (exact congrArg (List.map D.str) (osTo_no (by simp_all [onQ, offQ, wayOn, wayOff, wayN, bitQ]; done))))) trivial))))))))⟩ (fun k hp0 => ?_)
 have hpk := osTo_le x (onQ x sig (wayN w)) k; have hqk := osTo_le x (offQ x sig (wayN w)) k
 refine T_seq ?_
 refine T_region hc ?_
 refine Ch.s (.d (.bool (decide (((k : Nat) : Int) < ((x.codes.length : Nat) : Int))))) (.pure (.int _ _ _ _ _ rfl rfl rfl rfl)) ?_
 refine Ch.nil ?_
 refine T_seq ?_
 refine T_cond (b := (decide (((k : Nat) : Int) < ((x.codes.length : Nat) : Int)))) rfl (fun h1 => ?_) (fun h1 => ?_)
 ·
  replace h1 := of_decide_eq_true h1
  try have hlk : (x.codes.getD k default).length = x.sigs.length := (hck (k : Int) (by omega) (by omega)).2
  refine T_skip ?_
  refine T_seq ?_
  refine T_block ?_
  refine T_seq ?_
  refine T_region hc ?_
  refine Ch.s (.d (.int .i64 ((k : Nat) : Int))) (.pure (.move _ rfl rfl)) ?_
  refine Ch.s (.d (.ref (.str (x.codes.getD k default)))) (.pure (.idx _ _ _ 9 (k) rfl Tryz.underlying23 sz9 rfl rfl rfl get_mapA)) ?_
  refine Ch.s (.d (.str (x.codes.getD k default))) (.pure (.loadRef1 _ _ rfl ag9 rfl rfl)) ?_
  refine Ch.s (.d (.int .i64 ((k : Nat) : Int))) (.pure (.assign _ rfl rfl)) ?_
  refine Ch.s (.d (.str (x.codes.getD k default))) (.pure (.assign _ rfl rfl)) ?_
  refine Ch.nil ?_
  refine T_seq ?_
  refine T_regionD hc (by kernel_rfl) ?_
  refine ChD.s (.d (.str (x.codes.getD k default))) [] (.pure (.move _ rfl rfl)) ?_
  refine ChD.s (.d (.int .i64 sig)) [] (.pure (.move _ rfl rfl)) ?_
  refine ChD.s (.d (.int .u8 (((x.codes.getD k default).getD ((sig).toNat) 0).toNat : Int))) [] (.pure (.idxStr _ _ _ ((sig).toNat) rfl Tryz.underlying9 rfl rfl (by omega) get_strA)) ?_
  refine ChD.s (.d (.bool (decide ((((x.codes.getD k default).getD ((sig).toNat) 0) : UInt8) = 49)))) [] (.pure (.int _ _ _ _ _ rfl rfl rfl (u8_eql (((x.codes.getD k default).getD ((sig).toNat) 0) : UInt8) 49 rfl rfl))) ?_
  refine ChD.s (.agg [(.d (.slice false 2 (x.sigs.map Sgn.d))), (.d (.slice false 1 (x.codes.map D.str))), (.d (.slice false 4 (x.arcs.map Arc.d)))]) [3000] (.pure (.loadPtrA _ _ rfl ag35 sz35 rfl rfl (Nat.le_of_ble_eq_true rfl) rfl)) ?_
  refine ChD.s (.d (.int .i64 ((k : Nat) : Int))) [] (.pure (.move _ rfl rfl)) ?_
  refine ChD.s (.d (.int .i64 sig)) [] (.pure (.move _ rfl rfl)) ?_
  refine ChD.s (.d (.bool (excB x ((k : Nat) : Int) sig))) [] (.call 29000 158 _ _ _ en158 rfl (.inl rfl) (.cons (.lend (.agg (.cons (.d _) (.cons (.d _) (.cons (.d _) .nil))) rfl)) (.cons (.d _) (.cons (.d _) .nil))) rfl rfl (sp_spec_l5Excited x ((k : Nat) : Int) sig (by first | assumption | omega | (rw [List.length_take]; omega) | (have := bulkF_mem hb _ (getD_mem (d := default) (by omega)); assumption) | (unfold bulkS at *; omega) | (simp_all; done))) (.skip _ _ (.skip _ _ (.skip _ _ .nil))) rfl) ?_
  refine ChD.s (.d (.bool (decide ((((x.codes.getD k default).getD ((sig).toNat) 0) : UInt8) = 49)))) [] (.pure (.assign _ rfl rfl)) ?_
  refine ChD.s (.d (.bool (excB x ((k : Nat) : Int) sig))) [] (.pure (.assign _ rfl rfl)) ?_
  refine ChD.nil (And.intro ?_ (by kernel_rfl))
  refine T_seq ?_
  refine T_region hc ?_
  refine Ch.s (.d (.bool (excB x ((k : Nat) : Int) sig))) (.pure (.move _ rfl rfl)) ?_
  refine Ch.s (.d (.bool (decide ((((x.codes.getD k default).getD ((sig).toNat) 0) : UInt8) = 49)))) (.pure (.move _ rfl rfl)) ?_
  refine Ch.s (.d (.bool (!(decide ((excB x ((k : Nat) : Int) sig) = (decide ((((x.codes.getD k default).getD ((sig).toNat) 0) : UInt8) = 49))))))) (.pure (.neB _ _ _ _ rfl Tryz.underlying4 rfl rfl)) ?_
  refine Ch.s (.d (.bool (excB x ((k : Nat) : Int) sig))) (.pure (.move _ rfl rfl)) ?_
  refine Ch.s (.d (.bool (decide ((((x.codes.getD k default).getD ((sig).toNat) 0) : UInt8) = 49)))) (.pure (.move _ rfl rfl)) ?_
  refine Ch.s (.d (.bool (decide ((excB x ((k : Nat) : Int) sig) = (decide ((((x.codes.getD k default).getD ((sig).toNat) 0) : UInt8) = 49)))))) (.pure (.eqB _ _ _ _ rfl Tryz.underlying4 rfl rfl)) ?_
  refine Ch.s (.d (.bool (!(decide ((excB x ((k : Nat) : Int) sig) = (decide ((((x.codes.getD k default).getD ((sig).toNat) 0) : UInt8) = 49))))))) (.pure (.assign _ rfl rfl)) ?_
  refine Ch.s (.d (.bool (decide ((excB x ((k : Nat) : Int) sig) = (decide ((((x.codes.getD k default).getD ((sig).toNat) 0) : UInt8) = 49)))))) (.pure (.assign _ rfl rfl)) ?_
  refine Ch.nil ?_
  refine T_seq ?_
  refine T_seq ?_
  refine T_region hc ?_
  refine Ch.s (.d (.str w)) (.pure (.move _ rfl rfl)) ?_
  refine Ch.s (.d (.bool (decide (w = [117, 112])))) (.pure (.str _ _ _ _ _ rfl rfl rfl rfl)) ?_
  refine Ch.nil ?_
  refine T_cond (b := (decide (w = [117, 112]))) rfl (fun h2 => ?_) (fun h2 => ?_)
  ·
   replace h2 := of_decide_eq_true h2
   refine T_region hc ?_
   refine Ch.s (.d (.bool (excB x ((k : Nat) : Int) sig))) (.pure (.move _ rfl rfl)) ?_
   refine Ch.s (.d (.bool (excB x ((k : Nat) : Int) sig))) (.pure (.move _ rfl rfl)) ?_
   cases h3 : (excB x ((k : Nat) : Int) sig) with
   | true =>
    refine Ch.s (.d (.bool (decide ((((x.codes.getD k default).getD ((sig).toNat) 0) : UInt8) = 49)))) (.pure (.move _ rfl rfl)) ?_
    refine Ch.s (.d (.bool (!(decide ((((x.codes.getD k default).getD ((sig).toNat) 0) : UInt8) = 49))))) (.pure (.not _ _ rfl rfl)) ?_
    refine Ch.s (.d (.bool (!(decide ((((x.codes.getD k default).getD ((sig).toNat) 0) : UInt8) = 49))))) (.pure (.pickT _ _ _ rfl rfl rfl)) ?_
    refine Ch.s (.d (.bool true)) (.pure (.move _ rfl rfl)) ?_
    refine Ch.s (.d (.bool (decide ((((x.codes.getD k default).getD ((sig).toNat) 0) : UInt8) = 49)))) (.pure (.move _ rfl rfl)) ?_
    refine Ch.s (.d (.bool (decide (true = (decide ((((x.codes.getD k default).getD ((sig).toNat) 0) : UInt8) = 49)))))) (.pure (.eqB _ _ _ _ rfl Tryz.underlying4 rfl rfl)) ?_
    refine Ch.s (.d (.bool (!(decide ((((x.codes.getD k default).getD ((sig).toNat) 0) : UInt8) = 49))))) (.pure (.assign _ rfl rfl)) ?_
    refine Ch.s (.d (.bool (decide (true = (decide ((((x.codes.getD k default).getD ((sig).toNat) 0) : UInt8) = 49)))))) (.pure (.assign _ rfl rfl)) ?_
    refine Ch.nil ?_
    refine T_seq ?_
    refine T_seq ?_
    refine T_region hc ?_
    refine Ch.s (.d (.str w)) (.pure (.move _ rfl rfl)) ?_
    refine Ch.s (.d (.bool (decide (w = [100, 111, 119, 110])))) (.pure (.str _ _ _ _ _ rfl rfl rfl rfl)) ?_
    refine Ch.nil ?_
    refine T_cond (b := (decide (w = [100, 111, 119, 110]))) rfl (fun h4 => ?_) (fun h4 => ?_)
    ·
     replace h4 := of_decide_eq_true h4
     refine T_region hc ?_
     refine Ch.s (.d (.bool true)) (.pure (.move _ rfl rfl)) ?_
     refine Ch.s (.d (.bool true)) (.pure (.move _ rfl rfl)) ?_
     refine Ch.s (.d (.bool (decide ((((x.codes.getD k default).getD ((sig).toNat) 0) : UInt8) = 49)))) (.pure (.move _ rfl rfl)) ?_
     refine Ch.s (.d (.bool (decide ((((x.codes.getD k default).getD ((sig).toNat) 0) : UInt8) = 49)))) (.pure (.pickT _ _ _ rfl rfl rfl)) ?_
     refine Ch.s (.d (.bool true)) (.pure (.move _ rfl rfl)) ?_
     refine Ch.s (.d (.bool (decide ((((x.codes.getD k default).getD ((sig).toNat) 0) : UInt8) = 49)))) (.pure (.move _ rfl rfl)) ?_
     refine Ch.s (.d (.bool (!(decide (true = (decide ((((x.codes.getD k default).getD ((sig).toNat) 0) : UInt8) = 49))))))) (.pure (.neB _ _ _ _ rfl Tryz.underlying4 rfl rfl)) ?_
     refine Ch.s (.d (.bool (decide ((((x.codes.getD k default).getD ((sig).toNat) 0) : UInt8) = 49)))) (.pure (.assign _ rfl rfl)) ?_
     refine Ch.s (.d (.bool (!(decide (true = (decide ((((x.codes.getD k default).getD ((sig).toNat) 0) : UInt8) = 49))))))) (.pure (.assign _ rfl rfl)) ?_
     refine Ch.nil ?_
     refine T_seq ?_
     refine T_seq ?_
     refine T_region hc ?_
     refine Ch.s (.d (.bool (decide ((((x.codes.getD k default).getD ((sig).toNat) 0) : UInt8) = 49)))) (.pure (.move _ rfl rfl)) ?_
     refine Ch.nil ?_
     refine T_cond (b := (decide ((((x.codes.getD k default).getD ((sig).toNat) 0) : UInt8) = 49))) rfl (fun h5 => ?_) (fun h5 => ?_)
     ·
      replace h5 := of_decide_eq_true h5
      refine T_region hc ?_
      refine Ch.s (.ptr 7000 0) (.pure (.fldPtr _ _ _ rfl fld29_0 rfl)) ?_
      refine Ch.s (.row 7700) (.pure (.loadPtr1 _ _ rfl ag23 rfl rfl rfl)) ?_
      refine Ch.s (.d (.str (x.codes.getD k default))) (.pure (.move _ rfl rfl)) ?_
      refine Ch.step (v := (.row 59000)) rfl (.call 59000 204 _ _ _ en204 rfl (.inl rfl) (.cons (.row rfl) (.cons (.d _) .nil)) rfl (sol (solid_row (fun _ => rfl) _) rfl) (sp_spec_l15Put (osTo x (onQ x sig (wayN w)) k) (x.codes.getD k default) (by first | assumption | omega | (rw [List.length_take]; omega) | (have := bulkF_mem hb _ (getD_mem (d := default) (by omega)); assumption) | (unfold bulkS at *; omega) | (simp_all; done))) (.skip _ _ (.skip _ _ .nil)) rfl) rfl rfl ?_
      refine Ch.s (.ptr 7000 0) (.pure (.fldPtr _ _ _ rfl fld29_0 rfl)) ?_
      refine Ch.s .junk (.storePtr _ _ _ rfl rfl rfl (.one _ rfl) sz23 (Nat.le_of_ble_eq_true rfl)) ?_
      refine Ch.nil ?_
      refine T_seq ?_
      refine T_region hc ?_
      refine Ch.s (.d (.bool (!(decide (true = (decide ((((x.codes.getD k default).getD ((sig).toNat) 0) : UInt8) = 49))))))) (.pure (.move _ rfl rfl)) ?_
      refine Ch.nil ?_
      refine T_cond (b := (!(decide (true = (decide ((((x.codes.getD k default).getD ((sig).toNat) 0) : UInt8) = 49)))))) rfl (fun h6 => ?_) (fun h6 => ?_)
      ·
       replace h6 := nott h6
       replace h6 := of_decide_eq_false h6
       refine T_region hc ?_
       refine Ch.s (.ptr 7000 1) (.pure (.fldPtr _ _ _ rfl fld29_1 rfl)) ?_
       refine Ch.s (.row 7701) (.pure (.loadPtr1 _ _ rfl ag23 rfl rfl rfl)) ?_
       refine Ch.s (.d (.str (x.codes.getD k default))) (.pure (.move _ rfl rfl)) ?_
       refine Ch.step (v := (.row 65000)) rfl (.call 65000 204 _ _ _ en204 rfl (.inl rfl) (.cons (.row rfl) (.cons (.d _) .nil)) rfl (sol (solid_row (fun _ => rfl) _) rfl) (sp_spec_l15Put (osTo x (offQ x sig (wayN w)) k) (x.codes.getD k default) (by first | assumption | omega | (rw [List.length_take]; omega) | (have := bulkF_mem hb _ (getD_mem (d := default) (by omega)); assumption) | (unfold bulkS at *; omega) | (simp_all; done))) (.skip _ _ (.skip _ _ .nil)) rfl) rfl rfl ?_
       refine Ch.s (.ptr 7000 1) (.pure (.fldPtr _ _ _ rfl fld29_1 rfl)) ?_
       refine Ch.s .junk (.storePtr _ _ _ rfl rfl rfl (.one _ rfl) sz23 (Nat.le_of_ble_eq_true rfl)) ?_
       refine Ch.nil ?_
       refine T_region hc ?_
       refine Ch.s (.d (.int .i64 (((k : Nat) : Int) + 1))) (.pure (.int _ _ _ _ _ rfl rfl rfl intV_addA)) ?_
       refine Ch.s (.d (.int .i64 (((k : Nat) : Int) + 1))) (.pure (.move _ rfl rfl)) ?_
       refine Ch.nil ?_
       refine Exists.intro (k + 1) (And.intro (by omega) (And.intro (by first | omega | (dsimp only; omega)) (Wk.ren [(7700, 59000), (7701, 65000)] rfl rfl rfl rfl (And.intro rfl (And.intro rfl (And.intro rfl (And.intro rfl (And.intro rfl (And.intro rfl (And.intro rfl (And.intro (vI (by first | rfl | omega | (simp; done) | (simp; omega))) trivial)))))))) (And.intro rfl (And.intro rfl (And.intro (oB (Eq.trans (b := [(.row 59000), (.row 65000)]) rfl (by rfl))) (And.intro (oR (by first | (rw [osTo_zero]; rfl) | (exact congrArg (List.map D.str) (osTo_yes (by simp_all [onQ, offQ, wayOn, wayOff, wayN, bitQ]; done))) | (exact congrArg (List.map D.str) (osTo_no (by simp_all [onQ, offQ, wayOn, wayOff, wayN, bitQ]; done))))) (And.intro (oR (by first | (rw [osTo_zero]; rfl) | (exact congrArg (List.map D.str) (osTo_yes (by simp_all [onQ, offQ, wayOn, wayOff, wayN, bitQ]; done))) | (exact congrArg (List.map D.str) (osTo_no (by simp_all [onQ, offQ, wayOn, wayOff, wayN, bitQ]; done))))) trivial))))))))
      ·
       replace h6 := notf h6
       replace h6 := of_decide_eq_true h6
       refine T_skip ?_
       refine T_region hc ?_
       refine Ch.s (.d (.int .i64 (((k : Nat) : Int) + 1))) (.pure (.int _ _ _ _ _ rfl rfl rfl intV_addA)) ?_
       refine Ch.s (.d (.int .i64 (((k : Nat) : Int) + 1))) (.pure (.move _ rfl rfl)) ?_
       refine Ch.nil ?_
       refine Exists.intro (k + 1) (And.intro (by omega) (And.intro (by first | omega | (dsimp only; omega)) (Wk.ren [(7700, 59000)] rfl rfl rfl rfl (And.intro rfl (And.intro rfl (And.intro rfl (And.intro rfl (And.intro rfl (And.intro rfl (And.intro rfl (And.intro (vI (by first | rfl | omega | (simp; done) | (simp; omega))) trivial)))))))) (And.intro rfl (And.intro rfl (And.intro (oB (Eq.trans (b := [(.row 59000), (.row 7701)]) rfl (by rfl))) (And.intro (oR (by first | (rw [osTo_zero]; rfl) | (exact congrArg (List.map D.str) (osTo_yes (by simp_all [onQ, offQ, wayOn, wayOff, wayN, bitQ]; done))) | (exact congrArg (List.map D.str) (osTo_no (by simp_all [onQ, offQ, wayOn, wayOff, wayN, bitQ]; done))))) (And.intro (oR (by first | (rw [osTo_zero]; rfl) | (exact congrArg (List.map D.str) (osTo_yes (by simp_all [onQ, offQ, wayOn, wayOff, wayN, bitQ]; done))) | (exact congrArg (List.map D.str) (osTo_no (by simp_all [onQ, offQ, wayOn, wayOff, wayN, bitQ]; done))))) trivial))))))))
     ·
      replace h5 := of_decide_eq_false h5
      refine T_skip ?_
      refine T_seq ?_
      refine T_region hc ?_
      refine Ch.s (.d (.bool (!(decide (true = (decide ((((x.codes.getD k default).getD ((sig).toNat) 0) : UInt8) = 49))))))) (.pure (.move _ rfl rfl)) ?_
      refine Ch.nil ?_
      refine T_cond (b := (!(decide (true = (decide ((((x.codes.getD k default).getD ((sig).toNat) 0) : UInt8) = 49)))))) rfl (fun h7 => ?_) (fun h7 => ?_)
      ·
       replace h7 := nott h7
       replace h7 := of_decide_eq_false h7
       refine T_region hc ?_
       refine Ch.s (.ptr 7000 1) (.pure (.fldPtr _ _ _ rfl fld29_1 rfl)) ?_
       refine Ch.s (.row 7701) (.pure (.loadPtr1 _ _ rfl ag23 rfl rfl rfl)) ?_
       refine Ch.s (.d (.str (x.codes.getD k default))) (.pure (.move _ rfl rfl)) ?_
       refine Ch.step (v := (.row 65000)) rfl (.call 65000 204 _ _ _ en204 rfl (.inl rfl) (.cons (.row rfl) (.cons (.d _) .nil)) rfl (sol (solid_row (fun _ => rfl) _) rfl) (sp_spec_l15Put (osTo x (offQ x sig (wayN w)) k) (x.codes.getD k default) (by first | assumption | omega | (rw [List.length_take]; omega) | (have := bulkF_mem hb _ (getD_mem (d := default) (by omega)); assumption) | (unfold bulkS at *; omega) | (simp_all; done))) (.skip _ _ (.skip _ _ .nil)) rfl) rfl rfl ?_
       refine Ch.s (.ptr 7000 1) (.pure (.fldPtr _ _ _ rfl fld29_1 rfl)) ?_
       refine Ch.s .junk (.storePtr _ _ _ rfl rfl rfl (.one _ rfl) sz23 (Nat.le_of_ble_eq_true rfl)) ?_
       refine Ch.nil ?_
       refine T_region hc ?_
       refine Ch.s (.d (.int .i64 (((k : Nat) : Int) + 1))) (.pure (.int _ _ _ _ _ rfl rfl rfl intV_addA)) ?_
       refine Ch.s (.d (.int .i64 (((k : Nat) : Int) + 1))) (.pure (.move _ rfl rfl)) ?_
       refine Ch.nil ?_
       refine Exists.intro (k + 1) (And.intro (by omega) (And.intro (by first | omega | (dsimp only; omega)) (Wk.ren [(7701, 65000)] rfl rfl rfl rfl (And.intro rfl (And.intro rfl (And.intro rfl (And.intro rfl (And.intro rfl (And.intro rfl (And.intro rfl (And.intro (vI (by first | rfl | omega | (simp; done) | (simp; omega))) trivial)))))))) (And.intro rfl (And.intro rfl (And.intro (oB (Eq.trans (b := [(.row 7700), (.row 65000)]) rfl (by rfl))) (And.intro (oR (by first | (rw [osTo_zero]; rfl) | (exact congrArg (List.map D.str) (osTo_yes (by simp_all [onQ, offQ, wayOn, wayOff, wayN, bitQ]; done))) | (exact congrArg (List.map D.str) (osTo_no (by simp_all [onQ, offQ, wayOn, wayOff, wayN, bitQ]; done))))) (And.intro (oR (by first | (rw [osTo_zero]; rfl) | (exact congrArg (List.map D.str) (osTo_yes (by simp_all [onQ, offQ, wayOn, wayOff, wayN, bitQ]; done))) | (exact congrArg (List.map D.str) (osTo_no (by simp_all [onQ, offQ, wayOn, wayOff, wayN, bitQ]; done))))) trivial))))))))
      ·
       replace h7 := notf h7
       replace h7 := of_decide_eq_true h7
       refine T_skip ?_
       refine T_region hc ?_
       refine Ch.s (.d (.int .i64 (((k : Nat) : Int) + 1))) (.pure (.int _ _ _ _ _ rfl rfl rfl intV_addA)) ?_
       refine Ch.s (.d (.int .i64 (((k : Nat) : Int) + 1))) (.pure (.move _ rfl rfl)) ?_
       refine Ch.nil ?_
       refine Exists.intro (k + 1) (And.intro (by omega) (And.intro (by first | omega | (dsimp only; omega)) (Wk.of rfl rfl (And.intro rfl (And.intro rfl (And.intro rfl (And.intro rfl (And.intro rfl (And.intro rfl (And.intro rfl (And.intro (vI (by first | rfl | omega | (simp; done) | (simp; omega))) trivial)))))))) (And.intro rfl (And.intro rfl (And.intro rfl (And.intro (oR (by first | (rw [osTo_zero]; rfl) | (exact congrArg (List.map D.str) (osTo_yes (by simp_all [onQ, offQ, wayOn, wayOff, wayN, bitQ]; done))) | (exact congrArg (List.map D.str) (osTo_no (by simp_all [onQ, offQ, wayOn, wayOff, wayN, bitQ]; done))))) (And.intro (oR (by first | (rw [osTo_zero]; rfl) | (exact congrArg (List.map D.str) (osTo_yes (by simp_all [onQ, offQ, wayOn, wayOff, wayN, bitQ]; done))) | (exact congrArg (List.map D.str) (osTo_no (by simp_all [onQ, offQ, wayOn, wayOff, wayN, bitQ]; done))))) trivial))))))))
    ·
     replace h4 := of_decide_eq_false h4
     refine T_skip ?_
     refine T_seq ?_
     refine T_seq ?_
     refine T_region hc ?_
     refine Ch.s (.d (.bool (!(decide ((((x.codes.getD k default).getD ((sig).toNat) 0) : UInt8) = 49))))) (.pure (.move _ rfl rfl)) ?_
     refine Ch.nil ?_
     refine T_cond (b := (!(decide ((((x.codes.getD k default).getD ((sig).toNat) 0) : UInt8) = 49)))) rfl (fun h8 => ?_) (fun h8 => ?_)
     ·
      replace h8 := nott h8
      replace h8 := of_decide_eq_false h8
      refine T_region hc ?_
      refine Ch.s (.ptr 7000 0) (.pure (.fldPtr _ _ _ rfl fld29_0 rfl)) ?_
      refine Ch.s (.row 7700) (.pure (.loadPtr1 _ _ rfl ag23 rfl rfl rfl)) ?_
      refine Ch.s (.d (.str (x.codes.getD k default))) (.pure (.move _ rfl rfl)) ?_
      refine Ch.step (v := (.row 59000)) rfl (.call 59000 204 _ _ _ en204 rfl (.inl rfl) (.cons (.row rfl) (.cons (.d _) .nil)) rfl (sol (solid_row (fun _ => rfl) _) rfl) (sp_spec_l15Put (osTo x (onQ x sig (wayN w)) k) (x.codes.getD k default) (by first | assumption | omega | (rw [List.length_take]; omega) | (have := bulkF_mem hb _ (getD_mem (d := default) (by omega)); assumption) | (unfold bulkS at *; omega) | (simp_all; done))) (.skip _ _ (.skip _ _ .nil)) rfl) rfl rfl ?_
      refine Ch.s (.ptr 7000 0) (.pure (.fldPtr _ _ _ rfl fld29_0 rfl)) ?_
      refine Ch.s .junk (.storePtr _ _ _ rfl rfl rfl (.one _ rfl) sz23 (Nat.le_of_ble_eq_true rfl)) ?_
      refine Ch.nil ?_
      refine T_seq ?_
      refine T_region hc ?_
      refine Ch.s (.d (.bool (decide (true = (decide ((((x.codes.getD k default).getD ((sig).toNat) 0) : UInt8) = 49)))))) (.pure (.move _ rfl rfl)) ?_
      refine Ch.nil ?_
      refine T_cond (b := (decide (true = (decide ((((x.codes.getD k default).getD ((sig).toNat) 0) : UInt8) = 49))))) rfl (fun h9 => ?_) (fun h9 => ?_)
      ·
       replace h9 := of_decide_eq_true h9
       refine T_region hc ?_
       refine Ch.s (.ptr 7000 1) (.pure (.fldPtr _ _ _ rfl fld29_1 rfl)) ?_
       refine Ch.s (.row 7701) (.pure (.loadPtr1 _ _ rfl ag23 rfl rfl rfl)) ?_
       refine Ch.s (.d (.str (x.codes.getD k default))) (.pure (.move _ rfl rfl)) ?_
       refine Ch.step (v := (.row 65000)) rfl (.call 65000 204 _ _ _ en204 rfl (.inl rfl) (.cons (.row rfl) (.cons (.d _) .nil)) rfl (sol (solid_row (fun _ => rfl) _) rfl) (sp_spec_l15Put (osTo x (offQ x sig (wayN w)) k) (x.codes.getD k default) (by first | assumption | omega | (rw [List.length_take]; omega) | (have := bulkF_mem hb _ (getD_mem (d := default) (by omega)); assumption) | (unfold bulkS at *; omega) | (simp_all; done))) (.skip _ _ (.skip _ _ .nil)) rfl) rfl rfl ?_
       refine Ch.s (.ptr 7000 1) (.pure (.fldPtr _ _ _ rfl fld29_1 rfl)) ?_
       refine Ch.s .junk (.storePtr _ _ _ rfl rfl rfl (.one _ rfl) sz23 (Nat.le_of_ble_eq_true rfl)) ?_
       refine Ch.nil ?_
       refine T_region hc ?_
       refine Ch.s (.d (.int .i64 (((k : Nat) : Int) + 1))) (.pure (.int _ _ _ _ _ rfl rfl rfl intV_addA)) ?_
       refine Ch.s (.d (.int .i64 (((k : Nat) : Int) + 1))) (.pure (.move _ rfl rfl)) ?_
       refine Ch.nil ?_
       refine Exists.intro (k + 1) (And.intro (by omega) (And.intro (by first | omega | (dsimp only; omega)) (Wk.ren [(7700, 59000), (7701, 65000)] rfl rfl rfl rfl (And.intro rfl (And.intro rfl (And.intro rfl (And.intro rfl (And.intro rfl (And.intro rfl (And.intro rfl (And.intro (vI (by first | rfl | omega | (simp; done) | (simp; omega))) trivial)))))))) (And.intro rfl (And.intro rfl (And.intro (oB (Eq.trans (b := [(.row 59000), (.row 65000)]) rfl (by rfl))) (And.intro (oR (by first | (rw [osTo_zero]; rfl) | (exact congrArg (List.map D.str) (osTo_yes (by simp_all [onQ, offQ, wayOn, wayOff, wayN, bitQ]; done))) | (exact congrArg (List.map D.str) (osTo_no (by simp_all [onQ, offQ, wayOn, wayOff, wayN, bitQ]; done))))) (And.intro (oR (by first | (rw [osTo_zero]; rfl) | (exact congrArg (List.map D.str) (osTo_yes (by simp_all [onQ, offQ, wayOn, wayOff, wayN, bitQ]; done))) | (exact congrArg (List.map D.str) (osTo_no (by simp_all [onQ, offQ, wayOn, wayOff, wayN, bitQ]; done))))) trivial))))))))
      ·
       replace h9 := of_decide_eq_false h9
       refine T_skip ?_
       refine T_region hc ?_
       refine Ch.s (.d (.int .i64 (((k : Nat) : Int) + 1))) (.pure (.int _ _ _ _ _ rfl rfl rfl intV_addA)) ?_
       refine Ch.s (.d (.int .i64 (((k : Nat) : Int) + 1))) (.pure (.move _ rfl rfl)) ?_
       refine Ch.nil ?_
       refine Exists.intro (k + 1) (And.intro (by omega) (And.intro (by first | omega | (dsimp only; omega)) (Wk.ren [(7700, 59000)] rfl rfl rfl rfl (And.intro rfl (And.intro rfl (And.intro rfl (And.intro rfl (And.intro rfl (And.intro rfl (And.intro rfl (And.intro (vI (by first | rfl | omega | (simp; done) | (simp; omega))) trivial)))))))) (And.intro rfl (And.intro rfl (And.intro (oB (Eq.trans (b := [(.row 59000), (.row 7701)]) rfl (by rfl))) (And.intro (oR (by first | (rw [osTo_zero]; rfl) | (exact congrArg (List.map D.str) (osTo_yes (by simp_all [onQ, offQ, wayOn, wayOff, wayN, bitQ]; done))) | (exact congrArg (List.map D.str) (osTo_no (by simp_all [onQ, offQ, wayOn, wayOff, wayN, bitQ]; done))))) (And.intro (oR (by first | (rw [osTo_zero]; rfl) | (exact congrArg (List.map D.str) (osTo_yes (by simp_all [onQ, offQ, wayOn, wayOff, wayN, bitQ]; done))) | (exact congrArg (List.map D.str) (osTo_no (by simp_all [onQ, offQ, wayOn, wayOff, wayN, bitQ]; done))))) trivial))))))))
     ·
      replace h8 := notf h8
      replace h8 := of_decide_eq_true h8
      refine T_skip ?_
      refine T_seq ?_
      refine T_region hc ?_
      refine Ch.s (.d (.bool (decide (true = (decide ((((x.codes.getD k default).getD ((sig).toNat) 0) : UInt8) = 49)))))) (.pure (.move _ rfl rfl)) ?_
      refine Ch.nil ?_
      refine T_cond (b := (decide (true = (decide ((((x.codes.getD k default).getD ((sig).toNat) 0) : UInt8) = 49))))) rfl (fun h10 => ?_) (fun h10 => ?_)
      ·
       replace h10 := of_decide_eq_true h10
       refine T_region hc ?_
       refine Ch.s (.ptr 7000 1) (.pure (.fldPtr _ _ _ rfl fld29_1 rfl)) ?_
       refine Ch.s (.row 7701) (.pure (.loadPtr1 _ _ rfl ag23 rfl rfl rfl)) ?_
       refine Ch.s (.d (.str (x.codes.getD k default))) (.pure (.move _ rfl rfl)) ?_
       refine Ch.step (v := (.row 65000)) rfl (.call 65000 204 _ _ _ en204 rfl (.inl rfl) (.cons (.row rfl) (.cons (.d _) .nil)) rfl (sol (solid_row (fun _ => rfl) _) rfl) (sp_spec_l15Put (osTo x (offQ x sig (wayN w)) k) (x.codes.getD k default) (by first | assumption | omega | (rw [List.length_take]; omega) | (have := bulkF_mem hb _ (getD_mem (d := default) (by omega)); assumption) | (unfold bulkS at *; omega) | (simp_all; done))) (.skip _ _ (.skip _ _ .nil)) rfl) rfl rfl ?_
       refine Ch.s (.ptr 7000 1) (.pure (.fldPtr _ _ _ rfl fld29_1 rfl)) ?_
       refine Ch.s .junk (.storePtr _ _ _ rfl rfl rfl (.one _ rfl) sz23 (Nat.le_of_ble_eq_true rfl)) ?_
       refine Ch.nil ?_
       refine T_region hc ?_
       refine Ch.s (.d (.int .i64 (((k : Nat) : Int) + 1))) (.pure (.int _ _ _ _ _ rfl rfl rfl intV_addA)) ?_
       refine Ch.s (.d (.int .i64 (((k : Nat) : Int) + 1))) (.pure (.move _ rfl rfl)) ?_
       refine Ch.nil ?_
       refine Exists.intro (k + 1) (And.intro (by omega) (And.intro (by first | omega | (dsimp only; omega)) (Wk.ren [(7701, 65000)] rfl rfl rfl rfl (And.intro rfl (And.intro rfl (And.intro rfl (And.intro rfl (And.intro rfl (And.intro rfl (And.intro rfl (And.intro (vI (by first | rfl | omega | (simp; done) | (simp; omega))) trivial)))))))) (And.intro rfl (And.intro rfl (And.intro (oB (Eq.trans (b := [(.row 7700), (.row 65000)]) rfl (by rfl))) (And.intro (oR (by first | (rw [osTo_zero]; rfl) | (exact congrArg (List.map D.str) (osTo_yes (by simp_all [onQ, offQ, wayOn, wayOff, wayN, bitQ]; done))) | (exact congrArg (List.map D.str) (osTo_no (by simp_all [onQ, offQ, wayOn, wayOff, wayN, bitQ]; done))))) (And.intro (oR (by first | (rw [osTo_zero]; rfl) | (exact congrArg (List.map D.str) (osTo_yes (by simp_all [onQ, offQ, wayOn, wayOff, wayN, bitQ]; done))) | (exact congrArg (List.map D.str) (osTo_no (by simp_all [onQ, offQ, wayOn, wayOff, wayN, bitQ]; done))))) trivial))))))))
      ·
       replace h10 := of_decide_eq_false h10
       refine T_skip ?_
       refine T_region hc ?_
       refine Ch.s (.d (.int .i64 (((k : Nat) : Int) + 1))) (.pure (.int _ _ _ _ _ rfl rfl rfl intV_addA)) ?_
       refine Ch.s (.d (.int .i64 (((k : Nat) : Int) + 1))) (.pure (.move _ rfl rfl)) ?_
       refine Ch.nil ?_
       refine Exists.intro (k + 1) (And.intro (by omega) (And.intro (by first | omega | (dsimp only; omega)) (Wk.of rfl rfl (And.intro rfl (And.intro rfl (And.intro rfl (And.intro rfl (And.intro rfl (And.intro rfl (And.intro rfl (And.intro (vI (by first | rfl | omega | (simp; done) | (simp; omega))) trivial)))))))) (And.intro rfl (And.intro rfl (And.intro rfl (And.intro (oR (by first | (rw [osTo_zero]; rfl) | (exact congrArg (List.map D.str) (osTo_yes (by simp_all [onQ, offQ, wayOn, wayOff, wayN, bitQ]; done))) | (exact congrArg (List.map D.str) (osTo_no (by simp_all [onQ, offQ, wayOn, wayOff, wayN, bitQ]; done))))) (And.intro (oR (by first | (rw [osTo_zero]; rfl) | (exact congrArg (List.map D.str) (osTo_yes (by simp_all [onQ, offQ, wayOn, wayOff, wayN, bitQ]; done))) | (exact congrArg (List.map D.str) (osTo_no (by simp_all [onQ, offQ, wayOn, wayOff, wayN, bitQ]; done))))) trivial))))))))
   | false =>
    refine Ch.skip rfl rfl ?_
    refine Ch.skip rfl rfl ?_
    refine Ch.s (.d (.bool false)) (.pure (.pickF _ _ _ rfl rfl rfl)) ?_
    refine Ch.s (.d (.bool false)) (.pure (.move _ rfl rfl)) ?_
    refine Ch.s (.d (.bool (decide ((((x.codes.getD k default).getD ((sig).toNat) 0) : UInt8) = 49)))) (.pure (.move _ rfl rfl)) ?_
    refine Ch.s (.d (.bool (decide (false = (decide ((((x.codes.getD k default).getD ((sig).toNat) 0) : UInt8) = 49)))))) (.pure (.eqB _ _ _ _ rfl Tryz.underlying4 rfl rfl)) ?_
    refine Ch.s (.d (.bool false)) (.pure (.assign _ rfl rfl)) ?_
    refine Ch.s (.d (.bool (decide (false = (decide ((((x.codes.getD k default).getD ((sig).toNat) 0) : UInt8) = 49)))))) (.pure (.assign _ rfl rfl)) ?_
    refine Ch.nil ?_
    refine T_seq ?_
    refine T_seq ?_
    refine T_region hc ?_
    refine Ch.s (.d (.str w)) (.pure (.move _ rfl rfl)) ?_
    refine Ch.s (.d (.bool (decide (w = [100, 111, 119, 110])))) (.pure (.str _ _ _ _ _ rfl rfl rfl rfl)) ?_
    refine Ch.nil ?_
    refine T_cond (b := (decide (w = [100, 111, 119, 110]))) rfl (fun h11 => ?_) (fun h11 => ?_)
    ·
     replace h11 := of_decide_eq_true h11
     refine T_region hc ?_
     refine Ch.s (.d (.bool false)) (.pure (.move _ rfl rfl)) ?_
     refine Ch.s (.d (.bool false)) (.pure (.move _ rfl rfl)) ?_
     refine Ch.skip rfl rfl ?_
     refine Ch.s (.d (.bool false)) (.pure (.pickF _ _ _ rfl rfl rfl)) ?_
     refine Ch.s (.d (.bool false)) (.pure (.move _ rfl rfl)) ?_
     refine Ch.s (.d (.bool (decide ((((x.codes.getD k default).getD ((sig).toNat) 0) : UInt8) = 49)))) (.pure (.move _ rfl rfl)) ?_
     refine Ch.s (.d (.bool (!(decide (false = (decide ((((x.codes.getD k default).getD ((sig).toNat) 0) : UInt8) = 49))))))) (.pure (.neB _ _ _ _ rfl Tryz.underlying4 rfl rfl)) ?_
     refine Ch.s (.d (.bool false)) (.pure (.assign _ rfl rfl)) ?_
     refine Ch.s (.d (.bool (!(decide (false = (decide ((((x.codes.getD k default).getD ((sig).toNat) 0) : UInt8) = 49))))))) (.pure (.assign _ rfl rfl)) ?_
     refine Ch.nil ?_
     refine T_seq ?_
     refine T_seq ?_
     refine T_region hc ?_
     refine Ch.s (.d (.bool false)) (.pure (.move _ rfl rfl)) ?_
     refine Ch.nil ?_
     refine T_cond (b := false) rfl (fun h => nomatch h) (fun _ => ?_)
     refine T_skip ?_
     refine T_seq ?_
     refine T_region hc ?_
     refine Ch.s (.d (.bool (!(decide (false = (decide ((((x.codes.getD k default).getD ((sig).toNat) 0) : UInt8) = 49))))))) (.pure (.move _ rfl rfl)) ?_
     refine Ch.nil ?_
     refine T_cond (b := (!(decide (false = (decide ((((x.codes.getD k default).getD ((sig).toNat) 0) : UInt8) = 49)))))) rfl (fun h12 => ?_) (fun h12 => ?_)
     ·
      replace h12 := nott h12
      replace h12 := of_decide_eq_false h12
      refine T_region hc ?_
      refine Ch.s (.ptr 7000 1) (.pure (.fldPtr _ _ _ rfl fld29_1 rfl)) ?_
      refine Ch.s (.row 7701) (.pure (.loadPtr1 _ _ rfl ag23 rfl rfl rfl)) ?_
      refine Ch.s (.d (.str (x.codes.getD k default))) (.pure (.move _ rfl rfl)) ?_
      refine Ch.step (v := (.row 65000)) rfl (.call 65000 204 _ _ _ en204 rfl (.inl rfl) (.cons (.row rfl) (.cons (.d _) .nil)) rfl (sol (solid_row (fun _ => rfl) _) rfl) (sp_spec_l15Put (osTo x (offQ x sig (wayN w)) k) (x.codes.getD k default) (by first | assumption | omega | (rw [List.length_take]; omega) | (have := bulkF_mem hb _ (getD_mem (d := default) (by omega)); assumption) | (unfold bulkS at *; omega) | (simp_all; done))) (.skip _ _ (.skip _ _ .nil)) rfl) rfl rfl ?_
      refine Ch.s (.ptr 7000 1) (.pure (.fldPtr _ _ _ rfl fld29_1 rfl)) ?_
      refine Ch.s .junk (.storePtr _ _ _ rfl rfl rfl (.one _ rfl) sz23 (Nat.le_of_ble_eq_true rfl)) ?_
      refine Ch.nil ?_
      refine T_region hc ?_
      refine Ch.s (.d (.int .i64 (((k : Nat) : Int) + 1))) (.pure (.int _ _ _ _ _ rfl rfl rfl intV_addA)) ?_
      refine Ch.s (.d (.int .i64 (((k : Nat) : Int) + 1))) (.pure (.move _ rfl rfl)) ?_
      refine Ch.nil ?_
      refine Exists.intro (k + 1) (And.intro (by omega) (And.intro (by first | omega | (dsimp only; omega)) (Wk.ren [(7701, 65000)] rfl rfl rfl rfl (And.intro rfl (And.intro rfl (And.intro rfl (And.intro rfl (And.intro rfl (And.intro rfl (And.intro rfl (And.intro (vI (by first | rfl | omega | (simp; done) | (simp; omega))) trivial)))))))) (And.intro rfl (And.intro rfl (And.intro (oB (Eq.trans (b := [(.row 7700), (.row 65000)]) rfl (by rfl))) (And.intro (oR (by first | (rw [osTo_zero]; rfl) | (exact congrArg (List.map D.str) (osTo_yes (by simp_all [onQ, offQ, wayOn, wayOff, wayN, bitQ]; done))) | (exact congrArg (List.map D.str) (osTo_no (by simp_all [onQ, offQ, wayOn, wayOff, wayN, bitQ]; done))))) (And.intro (oR (by first | (rw [osTo_zero]; rfl) | (exact congrArg (List.map D.str) (osTo_yes (by simp_all [onQ, offQ, wayOn, wayOff, wayN, bitQ]; done))) | (exact congrArg (List.map D.str) (osTo_no (by simp_all [onQ, offQ, wayOn, wayOff, wayN, bitQ]; done))))) trivial))))))))
     ·
      replace h12 := notf h12
      replace h12 := of_decide_eq_true h12
      refine T_skip ?_
      refine T_region hc ?_
      refine Ch.s (.d (.int .i64 (((k : Nat) : Int) + 1))) (.pure (.int _ _ _ _ _ rfl rfl rfl intV_addA)) ?_
      refine Ch.s (.d (.int .i64 (((k : Nat) : Int) + 1))) (.pure (.move _ rfl rfl)) ?_
      refine Ch.nil ?_
      refine Exists.intro (k + 1) (And.intro (by omega) (And.intro (by first | omega | (dsimp only; omega)) (Wk.of rfl rfl (And.intro rfl (And.intro rfl (And.intro rfl (And.intro rfl (And.intro rfl (And.intro rfl (And.intro rfl (And.intro (vI (by first | rfl | omega | (simp; done) | (simp; omega))) trivial)))))))) (And.intro rfl (And.intro rfl (And.intro rfl (And.intro (oR (by first | (rw [osTo_zero]; rfl) | (exact congrArg (List.map D.str) (osTo_yes (by simp_all [onQ, offQ, wayOn, wayOff, wayN, bitQ]; done))) | (exact congrArg (List.map D.str) (osTo_no (by simp_all [onQ, offQ, wayOn, wayOff, wayN, bitQ]; done))))) (And.intro (oR (by first | (rw [osTo_zero]; rfl) | (exact congrArg (List.map D.str) (osTo_yes (by simp_all [onQ, offQ, wayOn, wayOff, wayN, bitQ]; done))) | (exact congrArg (List.map D.str) (osTo_no (by simp_all [onQ, offQ, wayOn, wayOff, wayN, bitQ]; done))))) trivial))))))))
    ·
     replace h11 := of_decide_eq_false h11
     refine T_skip ?_
     refine T_seq ?_
     refine T_seq ?_
     refine T_region hc ?_
     refine Ch.s (.d (.bool false)) (.pure (.move _ rfl rfl)) ?_
     refine Ch.nil ?_
     refine T_cond (b := false) rfl (fun h => nomatch h) (fun _ => ?_)
     refine T_skip ?_
     refine T_seq ?_
     refine T_region hc ?_
     refine Ch.s (.d (.bool (decide (false = (decide ((((x.codes.getD k default).getD ((sig).toNat) 0) : UInt8) = 49)))))) (.pure (.move _ rfl rfl)) ?_
     refine Ch.nil ?_
     refine T_cond (b := (decide (false = (decide ((((x.codes.getD k default).getD ((sig).toNat) 0) : UInt8) = 49))))) rfl (fun h13 => ?_) (fun h13 => ?_)
     ·
      replace h13 := of_decide_eq_true h13
      refine T_region hc ?_
      refine Ch.s (.ptr 7000 1) (.pure (.fldPtr _ _ _ rfl fld29_1 rfl)) ?_
      refine Ch.s (.row 7701) (.pure (.loadPtr1 _ _ rfl ag23 rfl rfl rfl)) ?_
      refine Ch.s (.d (.str (x.codes.getD k default))) (.pure (.move _ rfl rfl)) ?_
      refine Ch.step (v := (.row 65000)) rfl (.call 65000 204 _ _ _ en204 rfl (.inl rfl) (.cons (.row rfl) (.cons (.d _) .nil)) rfl (sol (solid_row (fun _ => rfl) _) rfl) (sp_spec_l15Put (osTo x (offQ x sig (wayN w)) k) (x.codes.getD k default) (by first | assumption | omega | (rw [List.length_take]; omega) | (have := bulkF_mem hb _ (getD_mem (d := default) (by omega)); assumption) | (unfold bulkS at *; omega) | (simp_all; done))) (.skip _ _ (.skip _ _ .nil)) rfl) rfl rfl ?_
      refine Ch.s (.ptr 7000 1) (.pure (.fldPtr _ _ _ rfl fld29_1 rfl)) ?_
      refine Ch.s .junk (.storePtr _ _ _ rfl rfl rfl (.one _ rfl) sz23 (Nat.le_of_ble_eq_true rfl)) ?_
      refine Ch.nil ?_
      refine T_region hc ?_
      refine Ch.s (.d (.int .i64 (((k : Nat) : Int) + 1))) (.pure (.int _ _ _ _ _ rfl rfl rfl intV_addA)) ?_
      refine Ch.s (.d (.int .i64 (((k : Nat) : Int) + 1))) (.pure (.move _ rfl rfl)) ?_
      refine Ch.nil ?_
      refine Exists.intro (k + 1) (And.intro (by omega) (And.intro (by first | omega | (dsimp only; omega)) (Wk.ren [(7701, 65000)] rfl rfl rfl rfl (And.intro rfl (And.intro rfl (And.intro rfl (And.intro rfl (And.intro rfl (And.intro rfl (And.intro rfl (And.intro (vI (by first | rfl | omega | (simp; done) | (simp; omega))) trivial)))))))) (And.intro rfl (And.intro rfl (And.intro (oB (Eq.trans (b := [(.row 7700), (.row 65000)]) rfl (by rfl))) (And.intro (oR (by first | (rw [osTo_zero]; rfl) | (exact congrArg (List.map D.str) (osTo_yes (by simp_all [onQ, offQ, wayOn, wayOff, wayN, bitQ]; done))) | (exact congrArg (List.map D.str) (osTo_no (by simp_all [onQ, offQ, wayOn, wayOff, wayN, bitQ]; done))))) (And.intro (oR (by first | (rw [osTo_zero]; rfl) | (exact congrArg (List.map D.str) (osTo_yes (by simp_all [onQ, offQ, wayOn, wayOff, wayN, bitQ]; done))) | (exact congrArg (List.map D.str) (osTo_no (by simp_all [onQ, offQ, wayOn, wayOff, wayN, bitQ]; done))))) trivial))))))))
     ·
      replace h13 := of_decide_eq_false h13
      refine T_skip ?_
      refine T_region hc ?_
      refine Ch.s (.d (.int .i64 (((k : Nat) : Int) + 1))) (.pure (.int _ _ _ _ _ rfl rfl rfl intV_addA)) ?_
      refine Ch.s (.d (.int .i64 (((k : Nat) : Int) + 1))) (.pure (.move _ rfl rfl)) ?_
      refine Ch.nil ?_
      refine Exists.intro (k + 1) (And.intro (by omega) (And.intro (by first | omega | (dsimp only; omega)) (Wk.of rfl rfl (And.intro rfl (And.intro rfl (And.intro rfl (And.intro rfl (And.intro rfl (And.intro rfl (And.intro rfl (And.intro (vI (by first | rfl | omega | (simp; done) | (simp; omega))) trivial)))))))) (And.intro rfl (And.intro rfl (And.intro rfl (And.intro (oR (by first | (rw [osTo_zero]; rfl) | (exact congrArg (List.map D.str) (osTo_yes (by simp_all [onQ, offQ, wayOn, wayOff, wayN, bitQ]; done))) | (exact congrArg (List.map D.str) (osTo_no (by simp_all [onQ, offQ, wayOn, wayOff, wayN, bitQ]; done))))) (And.intro (oR (by first | (rw [osTo_zero]; rfl) | (exact congrArg (List.map D.str) (osTo_yes (by simp_all [onQ, offQ, wayOn, wayOff, wayN, bitQ]; done))) | (exact congrArg (List.map D.str) (osTo_no (by simp_all [onQ, offQ, wayOn, wayOff, wayN, bitQ]; done))))) trivial))))))))
  ·
   replace h2 := of_decide_eq_false h2
   refine T_skip ?_
   refine T_seq ?_
   refine T_seq ?_
   refine T_region hc ?_
   refine Ch.s (.d (.str w)) (.pure (.move _ rfl rfl)) ?_
   refine Ch.s (.d (.bool (decide (w = [100, 111, 119, 110])))) (.pure (.str _ _ _ _ _ rfl rfl rfl rfl)) ?_
   refine Ch.nil ?_
   refine T_cond (b := (decide (w = [100, 111, 119, 110]))) rfl (fun h14 => ?_) (fun h14 => ?_)
   ·
    replace h14 := of_decide_eq_true h14
    refine T_region hc ?_
    refine Ch.s (.d (.bool (excB x ((k : Nat) : Int) sig))) (.pure (.move _ rfl rfl)) ?_
    refine Ch.s (.d (.bool (excB x ((k : Nat) : Int) sig))) (.pure (.move _ rfl rfl)) ?_
    cases h15 : (excB x ((k : Nat) : Int) sig) with
    | true =>
     refine Ch.s (.d (.bool (decide ((((x.codes.getD k default).getD ((sig).toNat) 0) : UInt8) = 49)))) (.pure (.move _ rfl rfl)) ?_
     refine Ch.s (.d (.bool (decide ((((x.codes.getD k default).getD ((sig).toNat) 0) : UInt8) = 49)))) (.pure (.pickT _ _ _ rfl rfl rfl)) ?_
     refine Ch.s (.d (.bool true)) (.pure (.move _ rfl rfl)) ?_
     refine Ch.s (.d (.bool (decide ((((x.codes.getD k default).getD ((sig).toNat) 0) : UInt8) = 49)))) (.pure (.move _ rfl rfl)) ?_
     refine Ch.s (.d (.bool (!(decide (true = (decide ((((x.codes.getD k default).getD ((sig).toNat) 0) : UInt8) = 49))))))) (.pure (.neB _ _ _ _ rfl Tryz.underlying4 rfl rfl)) ?_
     refine Ch.s (.d (.bool (decide ((((x.codes.getD k default).getD ((sig).toNat) 0) : UInt8) = 49)))) (.pure (.assign _ rfl rfl)) ?_
     refine Ch.s (.d (.bool (!(decide (true = (decide ((((x.codes.getD k default).getD ((sig).toNat) 0) : UInt8) = 49))))))) (.pure (.assign _ rfl rfl)) ?_
     refine Ch.nil ?_
     refine T_seq ?_
     refine T_seq ?_
     refine T_region hc ?_
     refine Ch.s (.d (.bool (decide ((((x.codes.getD k default).getD ((sig).toNat) 0) : UInt8) = 49)))) (.pure (.move _ rfl rfl)) ?_
     refine Ch.nil ?_
     refine T_cond (b := (decide ((((x.codes.getD k default).getD ((sig).toNat) 0) : UInt8) = 49))) rfl (fun h16 => ?_) (fun h16 => ?_)
     ·
      replace h16 := of_decide_eq_true h16
      refine T_region hc ?_
      refine Ch.s (.ptr 7000 0) (.pure (.fldPtr _ _ _ rfl fld29_0 rfl)) ?_
      refine Ch.s (.row 7700) (.pure (.loadPtr1 _ _ rfl ag23 rfl rfl rfl)) ?_
      refine Ch.s (.d (.str (x.codes.getD k default))) (.pure (.move _ rfl rfl)) ?_
      refine Ch.step (v := (.row 59000)) rfl (.call 59000 204 _ _ _ en204 rfl (.inl rfl) (.cons (.row rfl) (.cons (.d _) .nil)) rfl (sol (solid_row (fun _ => rfl) _) rfl) (sp_spec_l15Put (osTo x (onQ x sig (wayN w)) k) (x.codes.getD k default) (by first | assumption | omega | (rw [List.length_take]; omega) | (have := bulkF_mem hb _ (getD_mem (d := default) (by omega)); assumption) | (unfold bulkS at *; omega) | (simp_all; done))) (.skip _ _ (.skip _ _ .nil)) rfl) rfl rfl ?_
      refine Ch.s (.ptr 7000 0) (.pure (.fldPtr _ _ _ rfl fld29_0 rfl)) ?_
      refine Ch.s .junk (.storePtr _ _ _ rfl rfl rfl (.one _ rfl) sz23 (Nat.le_of_ble_eq_true rfl)) ?_
      refine Ch.nil ?_
      refine T_seq ?_
      refine T_region hc ?_
      refine Ch.s (.d (.bool (!(decide (true = (decide ((((x.codes.getD k default).getD ((sig).toNat) 0) : UInt8) = 49))))))) (.pure (.move _ rfl rfl)) ?_
      refine Ch.nil ?_
      refine T_cond (b := (!(decide (true = (decide ((((x.codes.getD k default).getD ((sig).toNat) 0) : UInt8) = 49)))))) rfl (fun h17 => ?_) (fun h17 => ?_)
      ·
       replace h17 := nott h17
       replace h17 := of_decide_eq_false h17
       refine T_region hc ?_
       refine Ch.s (.ptr 7000 1) (.pure (.fldPtr _ _ _ rfl fld29_1 rfl)) ?_
       refine Ch.s (.row 7701) (.pure (.loadPtr1 _ _ rfl ag23 rfl rfl rfl)) ?_
       refine Ch.s (.d (.str (x.codes.getD k default))) (.pure (.move _ rfl rfl)) ?_
       refine Ch.step (v := (.row 65000)) rfl (.call 65000 204 _ _ _ en204 rfl (.inl rfl) (.cons (.row rfl) (.cons (.d _) .nil)) rfl (sol (solid_row (fun _ => rfl) _) rfl) (sp_spec_l15Put (osTo x (offQ x sig (wayN w)) k) (x.codes.getD k default) (by first | assumption | omega | (rw [List.length_take]; omega) | (have := bulkF_mem hb _ (getD_mem (d := default) (by omega)); assumption) | (unfold bulkS at *; omega) | (simp_all; done))) (.skip _ _ (.skip _ _ .nil)) rfl) rfl rfl ?_
       refine Ch.s (.ptr 7000 1) (.pure (.fldPtr _ _ _ rfl fld29_1 rfl)) ?_
       refine Ch.s .junk (.storePtr _ _ _ rfl rfl rfl (.one _ rfl) sz23 (Nat.le_of_ble_eq_true rfl)) ?_
       refine Ch.nil ?_
       refine T_region hc ?_
       refine Ch.s (.d (.int .i64 (((k : Nat) : Int) + 1))) (.pure (.int _ _ _ _ _ rfl rfl rfl intV_addA)) ?_
       refine Ch.s (.d (.int .i64 (((k : Nat) : Int) + 1))) (.pure (.move _ rfl rfl)) ?_
       refine Ch.nil ?_
       refine Exists.intro (k + 1) (And.intro (by omega) (And.intro (by first | omega | (dsimp only; omega)) (Wk.ren [(7700, 59000), (7701, 65000)] rfl rfl rfl rfl (And.intro rfl (And.intro rfl (And.intro rfl (And.intro rfl (And.intro rfl (And.intro rfl (And.intro rfl (And.intro (vI (by first | rfl | omega | (simp; done) | (simp; omega))) trivial)))))))) (And.intro rfl (And.intro rfl (And.intro (oB (Eq.trans (b := [(.row 59000), (.row 65000)]) rfl (by rfl))) (And.intro (oR (by first | (rw [osTo_zero]; rfl) | (exact congrArg (List.map D.str) (osTo_yes (by simp_all [onQ, offQ, wayOn, wayOff, wayN, bitQ]; done))) | (exact congrArg (List.map D.str) (osTo_no (by simp_all [onQ, offQ, wayOn, wayOff, wayN, bitQ]; done))))) (And.intro (oR (by first | (rw [osTo_zero]; rfl) | (exact congrArg (List.map D.str) (osTo_yes (by simp_all [onQ, offQ, wayOn, wayOff, wayN, bitQ]; done))) | (exact congrArg (List.map D.str) (osTo_no (by simp_all [onQ, offQ, wayOn, wayOff, wayN, bitQ]; done))))) trivial))))))))
      ·
       replace h17 := notf h17
       replace h17 := of_decide_eq_true h17
       refine T_skip ?_
       refine T_region hc ?_
       refine Ch.s (.d (.int .i64 (((k : Nat) : Int) + 1))) (.pure (.int _ _ _ _ _ rfl rfl rfl intV_addA)) ?_
       refine Ch.s (.d (.int .i64 (((k : Nat) : Int) + 1))) (.pure (.move _ rfl rfl)) ?_
       refine Ch.nil ?_
       refine Exists.intro (k + 1) (And.intro (by omega) (And.intro (by first | omega | (dsimp only; omega)) (Wk.ren [(7700, 59000)] rfl rfl rfl rfl (And.intro rfl (And.intro rfl (And.intro rfl (And.intro rfl (And.intro rfl (And.intro rfl (And.intro rfl (And.intro (vI (by first | rfl | omega | (simp; done) | (simp; omega))) trivial)))))))) (And.intro rfl (And.intro rfl (And.intro (oB (Eq.trans (b := [(.row 59000), (.row 7701)]) rfl (by rfl))) (And.intro (oR (by first | (rw [osTo_zero]; rfl) | (exact congrArg (List.map D.str) (osTo_yes (by simp_all [onQ, offQ, wayOn, wayOff, wayN, bitQ]; done))) | (exact congrArg (List.map D.str) (osTo_no (by simp_all [onQ, offQ, wayOn, wayOff, wayN, bitQ]; done))))) (And.intro (oR (by first | (rw [osTo_zero]; rfl) | (exact congrArg (List.map D.str) (osTo_yes (by simp_all [onQ, offQ, wayOn, wayOff, wayN, bitQ]; done))) | (exact congrArg (List.map D.str) (osTo_no (by simp_all [onQ, offQ, wayOn, wayOff, wayN, bitQ]; done))))) trivial))))))))
     ·
      replace h16 := of_decide_eq_false h16
      refine T_skip ?_
      refine T_seq ?_
      refine T_region hc ?_
      refine Ch.s (.d (.bool (!(decide (true = (decide ((((x.codes.getD k default).getD ((sig).toNat) 0) : UInt8) = 49))))))) (.pure (.move _ rfl rfl)) ?_
      refine Ch.nil ?_
      refine T_cond (b := (!(decide (true = (decide ((((x.codes.getD k default).getD ((sig).toNat) 0) : UInt8) = 49)))))) rfl (fun h18 => ?_) (fun h18 => ?_)
      ·
       replace h18 := nott h18
       replace h18 := of_decide_eq_false h18
       refine T_region hc ?_
       refine Ch.s (.ptr 7000 1) (.pure (.fldPtr _ _ _ rfl fld29_1 rfl)) ?_
       refine Ch.s (.row 7701) (.pure (.loadPtr1 _ _ rfl ag23 rfl rfl rfl)) ?_
       refine Ch.s (.d (.str (x.codes.getD k default))) (.pure (.move _ rfl rfl)) ?_
       refine Ch.step (v := (.row 65000)) rfl (.call 65000 204 _ _ _ en204 rfl (.inl rfl) (.cons (.row rfl) (.cons (.d _) .nil)) rfl (sol (solid_row (fun _ => rfl) _) rfl) (sp_spec_l15Put (osTo x (offQ x sig (wayN w)) k) (x.codes.getD k default) (by first | assumption | omega | (rw [List.length_take]; omega) | (have := bulkF_mem hb _ (getD_mem (d := default) (by omega)); assumption) | (unfold bulkS at *; omega) | (simp_all; done))) (.skip _ _ (.skip _ _ .nil)) rfl) rfl rfl ?_
       refine Ch.s (.ptr 7000 1) (.pure (.fldPtr _ _ _ rfl fld29_1 rfl)) ?_
       refine Ch.s .junk (.storePtr _ _ _ rfl rfl rfl (.one _ rfl) sz23 (Nat.le_of_ble_eq_true rfl)) ?_
       refine Ch.nil ?_
       refine T_region hc ?_
       refine Ch.s (.d (.int .i64 (((k : Nat) : Int) + 1))) (.pure (.int _ _ _ _ _ rfl rfl rfl intV_addA)) ?_
       refine Ch.s (.d (.int .i64 (((k : Nat) : Int) + 1))) (.pure (.move _ rfl rfl)) ?_
       refine Ch.nil ?_
       refine Exists.intro (k + 1) (And.intro (by omega) (And.intro (by first | omega | (dsimp only; omega)) (Wk.ren [(7701, 65000)] rfl rfl rfl rfl (And.intro rfl (And.intro rfl (And.intro rfl (And.intro rfl (And.intro rfl (And.intro rfl (And.intro rfl (And.intro (vI (by first | rfl | omega | (simp; done) | (simp; omega))) trivial)))))))) (And.intro rfl (And.intro rfl (And.intro (oB (Eq.trans (b := [(.row 7700), (.row 65000)]) rfl (by rfl))) (And.intro (oR (by first | (rw [osTo_zero]; rfl) | (exact congrArg (List.map D.str) (osTo_yes (by simp_all [onQ, offQ, wayOn, wayOff, wayN, bitQ]; done))) | (exact congrArg (List.map D.str) (osTo_no (by simp_all [onQ, offQ, wayOn, wayOff, wayN, bitQ]; done))))) (And.intro (oR (by first | (rw [osTo_zero]; rfl) | (exact congrArg (List.map D.str) (osTo_yes (by simp_all [onQ, offQ, wayOn, wayOff, wayN, bitQ]; done))) | (exact congrArg (List.map D.str) (osTo_no (by simp_all [onQ, offQ, wayOn, wayOff, wayN, bitQ]; done))))) trivial))))))))
      ·
       replace h18 := notf h18
       replace h18 := of_decide_eq_true h18
       refine T_skip ?_
       refine T_region hc ?_
       refine Ch.s (.d (.int .i64 (((k : Nat) : Int) + 1))) (.pure (.int _ _ _ _ _ rfl rfl rfl intV_addA)) ?_
       refine Ch.s (.d (.int .i64 (((k : Nat) : Int) + 1))) (.pure (.move _ rfl rfl)) ?_
       refine Ch.nil ?_
       refine Exists.intro (k + 1) (And.intro (by omega) (And.intro (by first | omega | (dsimp only; omega)) (Wk.of rfl rfl (And.intro rfl (And.intro rfl (And.intro rfl (And.intro rfl (And.intro rfl (And.intro rfl (And.intro rfl (And.intro (vI (by first | rfl | omega | (simp; done) | (simp; omega))) trivial)))))))) (And.intro rfl (And.intro rfl (And.intro rfl (And.intro (oR (by first | (rw [osTo_zero]; rfl) | (exact congrArg (List.map D.str) (osTo_yes (by simp_all [onQ, offQ, wayOn, wayOff, wayN, bitQ]; done))) | (exact congrArg (List.map D.str) (osTo_no (by simp_all [onQ, offQ, wayOn, wayOff, wayN, bitQ]; done))))) (And.intro (oR (by first | (rw [osTo_zero]; rfl) | (exact congrArg (List.map D.str) (osTo_yes (by simp_all [onQ, offQ, wayOn, wayOff, wayN, bitQ]; done))) | (exact congrArg (List.map D.str) (osTo_no (by simp_all [onQ, offQ, wayOn, wayOff, wayN, bitQ]; done))))) trivial))))))))
    | false =>
     refine Ch.skip rfl rfl ?_
     refine Ch.s (.d (.bool false)) (.pure (.pickF _ _ _ rfl rfl rfl)) ?_
     refine Ch.s (.d (.bool false)) (.pure (.move _ rfl rfl)) ?_
     refine Ch.s (.d (.bool (decide ((((x.codes.getD k default).getD ((sig).toNat) 0) : UInt8) = 49)))) (.pure (.move _ rfl rfl)) ?_
     refine Ch.s (.d (.bool (!(decide (false = (decide ((((x.codes.getD k default).getD ((sig).toNat) 0) : UInt8) = 49))))))) (.pure (.neB _ _ _ _ rfl Tryz.underlying4 rfl rfl)) ?_
     refine Ch.s (.d (.bool false)) (.pure (.assign _ rfl rfl)) ?_
     refine Ch.s (.d (.bool (!(decide (false = (decide ((((x.codes.getD k default).getD ((sig).toNat) 0) : UInt8) = 49))))))) (.pure (.assign _ rfl rfl)) ?_
     refine Ch.nil ?_
     refine T_seq ?_
     refine T_seq ?_
     refine T_region hc ?_
     refine Ch.s (.d (.bool false)) (.pure (.move _ rfl rfl)) ?_
     refine Ch.nil ?_
     refine T_cond (b := false) rfl (fun h => nomatch h) (fun _ => ?_)
     refine T_skip ?_
     refine T_seq ?_
     refine T_region hc ?_
     refine Ch.s (.d (.bool (!(decide (false = (decide ((((x.codes.getD k default).getD ((sig).toNat) 0) : UInt8) = 49))))))) (.pure (.move _ rfl rfl)) ?_
     refine Ch.nil ?_
     refine T_cond (b := (!(decide (false = (decide ((((x.codes.getD k default).getD ((sig).toNat) 0) : UInt8) = 49)))))) rfl (fun h19 => ?_) (fun h19 => ?_)
     ·
      replace h19 := nott h19
      replace h19 := of_decide_eq_false h19
      refine T_region hc ?_
      refine Ch.s (.ptr 7000 1) (.pure (.fldPtr _ _ _ rfl fld29_1 rfl)) ?_
      refine Ch.s (.row 7701) (.pure (.loadPtr1 _ _ rfl ag23 rfl rfl rfl)) ?_
      refine Ch.s (.d (.str (x.codes.getD k default))) (.pure (.move _ rfl rfl)) ?_
      refine Ch.step (v := (.row 65000)) rfl (.call 65000 204 _ _ _ en204 rfl (.inl rfl) (.cons (.row rfl) (.cons (.d _) .nil)) rfl (sol (solid_row (fun _ => rfl) _) rfl) (sp_spec_l15Put (osTo x (offQ x sig (wayN w)) k) (x.codes.getD k default) (by first | assumption | omega | (rw [List.length_take]; omega) | (have := bulkF_mem hb _ (getD_mem (d := default) (by omega)); assumption) | (unfold bulkS at *; omega) | (simp_all; done))) (.skip _ _ (.skip _ _ .nil)) rfl) rfl rfl ?_
      refine Ch.s (.ptr 7000 1) (.pure (.fldPtr _ _ _ rfl fld29_1 rfl)) ?_
      refine Ch.s .junk (.storePtr _ _ _ rfl rfl rfl (.one _ rfl) sz23 (Nat.le_of_ble_eq_true rfl)) ?_
      refine Ch.nil ?_
      refine T_region hc ?_
      refine Ch.s (.d (.int .i64 (((k : Nat) : Int) + 1))) (.pure (.int _ _ _ _ _ rfl rfl rfl intV_addA)) ?_
      refine Ch.s (.d (.int .i64 (((k : Nat) : Int) + 1))) (.pure (.move _ rfl rfl)) ?_
      refine Ch.nil ?_
      refine Exists.intro (k + 1) (And.intro (by omega) (And.intro (by first | omega | (dsimp only; omega)) (Wk.ren [(7701, 65000)] rfl rfl rfl rfl (And.intro rfl (And.intro rfl (And.intro rfl (And.intro rfl (And.intro rfl (And.intro rfl (And.intro rfl (And.intro (vI (by first | rfl | omega | (simp; done) | (simp; omega))) trivial)))))))) (And.intro rfl (And.intro rfl (And.intro (oB (Eq.trans (b := [(.row 7700), (.row 65000)]) rfl (by rfl))) (And.intro (oR (by first | (rw [osTo_zero]; rfl) | (exact congrArg (List.map D.str) (osTo_yes (by simp_all [onQ, offQ, wayOn, wayOff, wayN, bitQ]; done))) | (exact congrArg (List.map D.str) (osTo_no (by simp_all [onQ, offQ, wayOn, wayOff, wayN, bitQ]; done))))) (And.intro (oR (by first | (rw [osTo_zero]; rfl) | (exact congrArg (List.map D.str) (osTo_yes (by simp_all [onQ, offQ, wayOn, wayOff, wayN, bitQ]; done))) | (exact congrArg (List.map D.str) (osTo_no (by simp_all [onQ, offQ, wayOn, wayOff, wayN, bitQ]; done))))) trivial))))))))
     ·
      replace h19 := notf h19
      replace h19 := of_decide_eq_true h19
      refine T_skip ?_
      refine T_region hc ?_
      refine Ch.s (.d (.int .i64 (((k : Nat) : Int) + 1))) (.pure (.int _ _ _ _ _ rfl rfl rfl intV_addA)) ?_
      refine Ch.s (.d (.int .i64 (((k : Nat) : Int) + 1))) (.pure (.move _ rfl rfl)) ?_
      refine Ch.nil ?_
      refine Exists.intro (k + 1) (And.intro (by omega) (And.intro (by first | omega | (dsimp only; omega)) (Wk.of rfl rfl (And.intro rfl (And.intro rfl (And.intro rfl (And.intro rfl (And.intro rfl (And.intro rfl (And.intro rfl (And.intro (vI (by first | rfl | omega | (simp; done) | (simp; omega))) trivial)))))))) (And.intro rfl (And.intro rfl (And.intro rfl (And.intro (oR (by first | (rw [osTo_zero]; rfl) | (exact congrArg (List.map D.str) (osTo_yes (by simp_all [onQ, offQ, wayOn, wayOff, wayN, bitQ]; done))) | (exact congrArg (List.map D.str) (osTo_no (by simp_all [onQ, offQ, wayOn, wayOff, wayN, bitQ]; done))))) (And.intro (oR (by first | (rw [osTo_zero]; rfl) | (exact congrArg (List.map D.str) (osTo_yes (by simp_all [onQ, offQ, wayOn, wayOff, wayN, bitQ]; done))) | (exact congrArg (List.map D.str) (osTo_no (by simp_all [onQ, offQ, wayOn, wayOff, wayN, bitQ]; done))))) trivial))))))))
   ·
    replace h14 := of_decide_eq_false h14
    refine T_skip ?_
    refine T_seq ?_
    refine T_seq ?_
    refine T_region hc ?_
    refine Ch.s (.d (.bool (!(decide ((excB x ((k : Nat) : Int) sig) = (decide ((((x.codes.getD k default).getD ((sig).toNat) 0) : UInt8) = 49))))))) (.pure (.move _ rfl rfl)) ?_
    refine Ch.nil ?_
    refine T_cond (b := (!(decide ((excB x ((k : Nat) : Int) sig) = (decide ((((x.codes.getD k default).getD ((sig).toNat) 0) : UInt8) = 49)))))) rfl (fun h20 => ?_) (fun h20 => ?_)
    ·
     replace h20 := nott h20
     replace h20 := of_decide_eq_false h20
     refine T_region hc ?_
     refine Ch.s (.ptr 7000 0) (.pure (.fldPtr _ _ _ rfl fld29_0 rfl)) ?_
     refine Ch.s (.row 7700) (.pure (.loadPtr1 _ _ rfl ag23 rfl rfl rfl)) ?_
     refine Ch.s (.d (.str (x.codes.getD k default))) (.pure (.move _ rfl rfl)) ?_
     refine Ch.step (v := (.row 59000)) rfl (.call 59000 204 _ _ _ en204 rfl (.inl rfl) (.cons (.row rfl) (.cons (.d _) .nil)) rfl (sol (solid_row (fun _ => rfl) _) rfl) (sp_spec_l15Put (osTo x (onQ x sig (wayN w)) k) (x.codes.getD k default) (by first | assumption | omega | (rw [List.length_take]; omega) | (have := bulkF_mem hb _ (getD_mem (d := default) (by omega)); assumption) | (unfold bulkS at *; omega) | (simp_all; done))) (.skip _ _ (.skip _ _ .nil)) rfl) rfl rfl ?_
     refine Ch.s (.ptr 7000 0) (.pure (.fldPtr _ _ _ rfl fld29_0 rfl)) ?_
     refine Ch.s .junk (.storePtr _ _ _ rfl rfl rfl (.one _ rfl) sz23 (Nat.le_of_ble_eq_true rfl)) ?_
     refine Ch.nil ?_
     refine T_seq ?_
     refine T_region hc ?_
     refine Ch.s (.d (.bool (decide ((excB x ((k : Nat) : Int) sig) = (decide ((((x.codes.getD k default).getD ((sig).toNat) 0) : UInt8) = 49)))))) (.pure (.move _ rfl rfl)) ?_
     refine Ch.nil ?_
     refine T_cond (b := (decide ((excB x ((k : Nat) : Int) sig) = (decide ((((x.codes.getD k default).getD ((sig).toNat) 0) : UInt8) = 49))))) rfl (fun h21 => ?_) (fun h21 => ?_)
     ·
      replace h21 := of_decide_eq_true h21
      refine T_region hc ?_
      refine Ch.s (.ptr 7000 1) (.pure (.fldPtr _ _ _ rfl fld29_1 rfl)) ?_
      refine Ch.s (.row 7701) (.pure (.loadPtr1 _ _ rfl ag23 rfl rfl rfl)) ?_
      refine Ch.s (.d (.str (x.codes.getD k default))) (.pure (.move _ rfl rfl)) ?_
      refine Ch.step (v := (.row 65000)) rfl (.call 65000 204 _ _ _ en204 rfl (.inl rfl) (.cons (.row rfl) (.cons (.d _) .nil)) rfl (sol (solid_row (fun _ => rfl) _) rfl) (sp_spec_l15Put (osTo x (offQ x sig (wayN w)) k) (x.codes.getD k default) (by first | assumption | omega | (rw [List.length_take]; omega) | (have := bulkF_mem hb _ (getD_mem (d := default) (by omega)); assumption) | (unfold bulkS at *; omega) | (simp_all; done))) (.skip _ _ (.skip _ _ .nil)) rfl) rfl rfl ?_
      refine Ch.s (.ptr 7000 1) (.pure (.fldPtr _ _ _ rfl fld29_1 rfl)) ?_
      refine Ch.s .junk (.storePtr _ _ _ rfl rfl rfl (.one _ rfl) sz23 (Nat.le_of_ble_eq_true rfl)) ?_
      refine Ch.nil ?_
      refine T_region hc ?_
      refine Ch.s (.d (.int .i64 (((k : Nat) : Int) + 1))) (.pure (.int _ _ _ _ _ rfl rfl rfl intV_addA)) ?_
      refine Ch.s (.d (.int .i64 (((k : Nat) : Int) + 1))) (.pure (.move _ rfl rfl)) ?_
      refine Ch.nil ?_
      refine Exists.intro (k + 1) (And.intro (by omega) (And.intro (by first | omega | (dsimp only; omega)) (Wk.ren [(7700, 59000), (7701, 65000)] rfl rfl rfl rfl (And.intro rfl (And.intro rfl (And.intro rfl (And.intro rfl (And.intro rfl (And.intro rfl (And.intro rfl (And.intro (vI (by first | rfl | omega | (simp; done) | (simp; omega))) trivial)))))))) (And.intro rfl (And.intro rfl (And.intro (oB (Eq.trans (b := [(.row 59000), (.row 65000)]) rfl (by rfl))) (And.intro (oR (by first | (rw [osTo_zero]; rfl) | (exact congrArg (List.map D.str) (osTo_yes (by simp_all [onQ, offQ, wayOn, wayOff, wayN, bitQ]; done))) | (exact congrArg (List.map D.str) (osTo_no (by simp_all [onQ, offQ, wayOn, wayOff, wayN, bitQ]; done))))) (And.intro (oR (by first | (rw [osTo_zero]; rfl) | (exact congrArg (List.map D.str) (osTo_yes (by simp_all [onQ, offQ, wayOn, wayOff, wayN, bitQ]; done))) | (exact congrArg (List.map D.str) (osTo_no (by simp_all [onQ, offQ, wayOn, wayOff, wayN, bitQ]; done))))) trivial))))))))
     ·
      replace h21 := of_decide_eq_false h21
      refine T_skip ?_
      refine T_region hc ?_
      refine Ch.s (.d (.int .i64 (((k : Nat) : Int) + 1))) (.pure (.int _ _ _ _ _ rfl rfl rfl intV_addA)) ?_
      refine Ch.s (.d (.int .i64 (((k : Nat) : Int) + 1))) (.pure (.move _ rfl rfl)) ?_
      refine Ch.nil ?_
      refine Exists.intro (k + 1) (And.intro (by omega) (And.intro (by first | omega | (dsimp only; omega)) (Wk.ren [(7700, 59000)] rfl rfl rfl rfl (And.intro rfl (And.intro rfl (And.intro rfl (And.intro rfl (And.intro rfl (And.intro rfl (And.intro rfl (And.intro (vI (by first | rfl | omega | (simp; done) | (simp; omega))) trivial)))))))) (And.intro rfl (And.intro rfl (And.intro (oB (Eq.trans (b := [(.row 59000), (.row 7701)]) rfl (by rfl))) (And.intro (oR (by first | (rw [osTo_zero]; rfl) | (exact congrArg (List.map D.str) (osTo_yes (by simp_all [onQ, offQ, wayOn, wayOff, wayN, bitQ]; done))) | (exact congrArg (List.map D.str) (osTo_no (by simp_all [onQ, offQ, wayOn, wayOff, wayN, bitQ]; done))))) (And.intro (oR (by first | (rw [osTo_zero]; rfl) | (exact congrArg (List.map D.str) (osTo_yes (by simp_all [onQ, offQ, wayOn, wayOff, wayN, bitQ]; done))) | (exact congrArg (List.map D.str) (osTo_no (by simp_all [onQ, offQ, wayOn, wayOff, wayN, bitQ]; done))))) trivial))))))))
    ·
     replace h20 := notf h20
     replace h20 := of_decide_eq_true h20
     refine T_skip ?_
     refine T_seq ?_
     refine T_region hc ?_
     refine Ch.s (.d (.bool (decide ((excB x ((k : Nat) : Int) sig) = (decide ((((x.codes.getD k default).getD ((sig).toNat) 0) : UInt8) = 49)))))) (.pure (.move _ rfl rfl)) ?_
     refine Ch.nil ?_
     refine T_cond (b := (decide ((excB x ((k : Nat) : Int) sig) = (decide ((((x.codes.getD k default).getD ((sig).toNat) 0) : UInt8) = 49))))) rfl (fun h22 => ?_) (fun h22 => ?_)
     ·
      replace h22 := of_decide_eq_true h22
      refine T_region hc ?_
      refine Ch.s (.ptr 7000 1) (.pure (.fldPtr _ _ _ rfl fld29_1 rfl)) ?_
      refine Ch.s (.row 7701) (.pure (.loadPtr1 _ _ rfl ag23 rfl rfl rfl)) ?_
      refine Ch.s (.d (.str (x.codes.getD k default))) (.pure (.move _ rfl rfl)) ?_
      refine Ch.step (v := (.row 65000)) rfl (.call 65000 204 _ _ _ en204 rfl (.inl rfl) (.cons (.row rfl) (.cons (.d _) .nil)) rfl (sol (solid_row (fun _ => rfl) _) rfl) (sp_spec_l15Put (osTo x (offQ x sig (wayN w)) k) (x.codes.getD k default) (by first | assumption | omega | (rw [List.length_take]; omega) | (have := bulkF_mem hb _ (getD_mem (d := default) (by omega)); assumption) | (unfold bulkS at *; omega) | (simp_all; done))) (.skip _ _ (.skip _ _ .nil)) rfl) rfl rfl ?_
      refine Ch.s (.ptr 7000 1) (.pure (.fldPtr _ _ _ rfl fld29_1 rfl)) ?_
      refine Ch.s .junk (.storePtr _ _ _ rfl rfl rfl (.one _ rfl) sz23 (Nat.le_of_ble_eq_true rfl)) ?_
      refine Ch.nil ?_
      refine T_region hc ?_
      refine Ch.s (.d (.int .i64 (((k : Nat) : Int) + 1))) (.pure (.int _ _ _ _ _ rfl rfl rfl intV_addA)) ?_
      refine Ch.s (.d (.int .i64 (((k : Nat) : Int) + 1))) (.pure (.move _ rfl rfl)) ?_
      refine Ch.nil ?_
      refine Exists.intro (k + 1) (And.intro (by omega) (And.intro (by first | omega | (dsimp only; omega)) (Wk.ren [(7701, 65000)] rfl rfl rfl rfl (And.intro rfl (And.intro rfl (And.intro rfl (And.intro rfl (And.intro rfl (And.intro rfl (And.intro rfl (And.intro (vI (by first | rfl | omega | (simp; done) | (simp; omega))) trivial)))))))) (And.intro rfl (And.intro rfl (And.intro (oB (Eq.trans (b := [(.row 7700), (.row 65000)]) rfl (by rfl))) (And.intro (oR (by first | (rw [osTo_zero]; rfl) | (exact congrArg (List.map D.str) (osTo_yes (by simp_all [onQ, offQ, wayOn, wayOff, wayN, bitQ]; done))) | (exact congrArg (List.map D.str) (osTo_no (by simp_all [onQ, offQ, wayOn, wayOff, wayN, bitQ]; done))))) (And.intro (oR (by first | (rw [osTo_zero]; rfl) | (exact congrArg (List.map D.str) (osTo_yes (by simp_all [onQ, offQ, wayOn, wayOff, wayN, bitQ]; done))) | (exact congrArg (List.map D.str) (osTo_no (by simp_all [onQ, offQ, wayOn, wayOff, wayN, bitQ]; done))))) trivial))))))))
     ·
      replace h22 := of_decide_eq_false h22
      refine T_skip ?_
      refine T_region hc ?_
      refine Ch.s (.d (.int .i64 (((k : Nat) : Int) + 1))) (.pure (.int _ _ _ _ _ rfl rfl rfl intV_addA)) ?_
      refine Ch.s (.d (.int .i64 (((k : Nat) : Int) + 1))) (.pure (.move _ rfl rfl)) ?_
      refine Ch.nil ?_
      refine Exists.intro (k + 1) (And.intro (by omega) (And.intro (by first | omega | (dsimp only; omega)) (Wk.of rfl rfl (And.intro rfl (And.intro rfl (And.intro rfl (And.intro rfl (And.intro rfl (And.intro rfl (And.intro rfl (And.intro (vI (by first | rfl | omega | (simp; done) | (simp; omega))) trivial)))))))) (And.intro rfl (And.intro rfl (And.intro rfl (And.intro (oR (by first | (rw [osTo_zero]; rfl) | (exact congrArg (List.map D.str) (osTo_yes (by simp_all [onQ, offQ, wayOn, wayOff, wayN, bitQ]; done))) | (exact congrArg (List.map D.str) (osTo_no (by simp_all [onQ, offQ, wayOn, wayOff, wayN, bitQ]; done))))) (And.intro (oR (by first | (rw [osTo_zero]; rfl) | (exact congrArg (List.map D.str) (osTo_yes (by simp_all [onQ, offQ, wayOn, wayOff, wayN, bitQ]; done))) | (exact congrArg (List.map D.str) (osTo_no (by simp_all [onQ, offQ, wayOn, wayOff, wayN, bitQ]; done))))) trivial))))))))
 ·
  replace h1 := of_decide_eq_false h1
  try have hlk : (x.codes.getD k default).length = x.sigs.length := (hck (k : Int) (by omega) (by omega)).2
  refine T_exit ?_
  refine T_seq ?_
  refine T_region hc ?_
  refine Ch.s (.agg [(.row 7700), (.row 7701)]) (.pure (.loadPtrA _ _ rfl ag29 sz29 rfl rfl (Nat.le_of_ble_eq_true rfl) rfl)) ?_
  refine Ch.s .junk (.storePtr _ _ _ rfl rfl rfl (.agg _ rfl) sz29 (Nat.le_of_ble_eq_true rfl)) ?_
  refine Ch.nil ?_
  refine T_ret ?_
  refine And.intro (.inr rfl) ?_
  exact Exists.intro [(.agg [(.row 7700), (.row 7701)])] (Exists.intro [] (Exists.intro [7700, 7701] (And.intro (.cons (.cellA _ _ rfl rfl ag29 sz29) .nil) (And.intro (.cons (.any _) (.cons (.any _) (.cons (.any _) .nil))) (And.intro (.agg (.cons (Exp.of (congrArg (D.slice true 1) (by rw [osL, show x.codes.length = k by omega])) (.row rfl)) (.cons (Exp.of (congrArg (D.slice true 1) (by rw [osL, show x.codes.length = k by omega])) (.row rfl)) .nil)) rfl) (And.intro rfl rfl))))))

theorem sp_spec_l15Told (x : Sgr) (sig : Int) (w : List UInt8) (hb : x.bulk ≤ 1048576) : Sp Tryz.prog 69 [(.agg [(.slice false 2 (x.sigs.map Sgn.d)), (.slice false 1 (x.codes.map D.str)), (.slice false 4 (x.arcs.map Arc.d))]), (.int .i64 sig), (.str w)] [.any, .any, .any] (.tup [(.agg [(.slice true 1 ((osOn x sig (wayN w)).map D.str)), (.slice true 1 ((osOff x sig (wayN w)).map D.str))]), (.bool (osOk x sig (wayN w)))]) := by
 refine Sp_intro (lend := true) Tryz.func69 rfl rfl rfl (fun _ => rfl) (fun c hc hX => ?_)
 obtain ⟨hp0, hp1, hp2⟩ := Sgr.parts hb
 have hn0 := bulkF_len hp0
 have hn1 := bulk_len hp1
 have hx1 := bulk_mem hp1
 have hn2 := bulkF_len hp2
 refine T_seq ?_
 refine T_region hc ?_
 refine Ch.s (.ptr 3000 0) (.box 3000 _ _ rfl (.aggD _)) ?_
 refine Ch.s (.ptr 6000 0) (.alloc 6000 _ rfl zer29) ?_
 refine Ch.s (.d (.bool false)) (.pure (.assign _ rfl rfl)) ?_
 refine Ch.nil ?_
 refine T_seq ?_
 refine T_seq ?_
 refine T_region hc ?_
 refine Ch.s (.agg [(.d (.slice false 2 (x.sigs.map Sgn.d))), (.d (.slice false 1 (x.codes.map D.str))), (.d (.slice false 4 (x.arcs.map Arc.d)))]) (.pure (.loadPtrA _ _ rfl ag35 sz35 rfl rfl (Nat.le_of_ble_eq_true rfl) rfl)) ?_
 refine Ch.s (.d (.int .i64 sig)) (.pure (.move _ rfl rfl)) ?_
 refine Ch.s (.d (.bool (outSig x sig))) (.call 11000 134 _ _ _ en134 rfl (.inl rfl) (.cons (.lend (.agg (.cons (.d _) (.cons (.d _) (.cons (.d _) .nil))) rfl)) (.cons (.d _) .nil)) rfl rfl (sp_spec_l15Asked x sig (by first | assumption | omega | (rw [List.length_take]; omega) | (have := bulkF_mem hb _ (getD_mem (d := default) (by omega)); assumption) | (unfold bulkS at *; omega) | (simp_all; done))) (.skip _ _ (.skip _ _ .nil)) rfl) ?_
 refine Ch.s (.d (.bool (!(outSig x sig)))) (.pure (.not _ _ rfl rfl)) ?_
 refine Ch.nil ?_
 refine T_cond (b := (!(outSig x sig))) rfl (fun h1 => ?_) (fun h1 => ?_)
 ·
  replace h1 := nott h1
  try have hsr := outSig_has h1
  try have hx := sg_has hsr.1
  try have hsx := hsr.2
  try have hxl := hx.len
  try have hop : (osL x (onQ x sig (wayN w))).length ≤ x.codes.length := osTo_le x (onQ x sig (wayN w)) x.codes.length
  try have hoq : (osL x (offQ x sig (wayN w))).length ≤ x.codes.length := osTo_le x (offQ x sig (wayN w)) x.codes.length
  try have hpx : ∀ u ∈ osL x (onQ x sig (wayN w)), u.length ≤ 1048576 := fun u hu => hx1 u (osTo_in (Nat.le_refl _) u hu)
  try have hqx : ∀ u ∈ osL x (offQ x sig (wayN w)), u.length ≤ 1048576 := fun u hu => hx1 u (osTo_in (Nat.le_refl _) u hu)
  refine T_seq ?_
  refine T_region hc ?_
  refine Ch.s (.agg [(.c (.slice none 0 0)), (.c (.slice none 0 0))]) (.build _ _ rfl stru29 .nil rfl) ?_
  refine Ch.s .junk (.storePtr _ _ _ rfl rfl rfl (.agg _ rfl) sz29 (Nat.le_of_ble_eq_true rfl)) ?_
  refine Ch.s (.d (.bool false)) (.pure (.assign _ rfl rfl)) ?_
  refine Ch.nil ?_
  refine T_ret ?_
  refine And.intro (.inr rfl) ?_
  exact Exists.intro [(.agg [(.c (.slice none 0 0)), (.c (.slice none 0 0))]), (.d (.bool false))] (Exists.intro [] (Exists.intro [] (And.intro (.cons (.cellA _ _ rfl rfl ag29 sz29) (.cons (.tmp 7 rfl) .nil)) (And.intro (.cons (.any _) (.cons (.any _) (.cons (.any _) .nil))) (And.intro (.tup (.cons (.agg (.cons (Exp.of (congrArg (D.slice true 1) (by first | (have hk : setsOk x (onQ x sig (wayN w)) (offQ x sig (wayN w)) = true := h2; first | (rw [osOn, h1, if_pos rfl, setsOn, hk]; rfl) | (rw [osOff, h1, if_pos rfl, setsOff, hk]; rfl) | (rw [osOk, h1, hk]; rfl)) | (have hk : setsOk x (onQ x sig (wayN w)) (offQ x sig (wayN w)) = false := h2; first | (rw [osOn, h1, if_pos rfl, setsOn_no hk]; rfl) | (rw [osOff, h1, if_pos rfl, setsOff_no hk]; rfl) | (rw [osOk, h1, hk]; rfl)) | (rw [osOn, h1]; rfl) | (rw [osOff, h1]; rfl) | (rw [osOk, h1]; rfl))) (.nil true 1)) (.cons (Exp.of (congrArg (D.slice true 1) (by first | (have hk : setsOk x (onQ x sig (wayN w)) (offQ x sig (wayN w)) = true := h2; first | (rw [osOn, h1, if_pos rfl, setsOn, hk]; rfl) | (rw [osOff, h1, if_pos rfl, setsOff, hk]; rfl) | (rw [osOk, h1, hk]; rfl)) | (have hk : setsOk x (onQ x sig (wayN w)) (offQ x sig (wayN w)) = false := h2; first | (rw [osOn, h1, if_pos rfl, setsOn_no hk]; rfl) | (rw [osOff, h1, if_pos rfl, setsOff_no hk]; rfl) | (rw [osOk, h1, hk]; rfl)) | (rw [osOn, h1]; rfl) | (rw [osOff, h1]; rfl) | (rw [osOk, h1]; rfl))) (.nil true 1)) .nil)) rfl) (.cons (Exp.of (congrArg D.bool (by first | (have hk : setsOk x (onQ x sig (wayN w)) (offQ x sig (wayN w)) = true := h2; first | (rw [osOn, h1, if_pos rfl, setsOn, hk]; rfl) | (rw [osOff, h1, if_pos rfl, setsOff, hk]; rfl) | (rw [osOk, h1, hk]; rfl)) | (have hk : setsOk x (onQ x sig (wayN w)) (offQ x sig (wayN w)) = false := h2; first | (rw [osOn, h1, if_pos rfl, setsOn_no hk]; rfl) | (rw [osOff, h1, if_pos rfl, setsOff_no hk]; rfl) | (rw [osOk, h1, hk]; rfl)) | (rw [osOn, h1]; rfl) | (rw [osOff, h1]; rfl) | (rw [osOk, h1]; rfl))) (.d _)) .nil))) (And.intro rfl rfl))))))
 ·
  replace h1 := notf h1
  try have hsr := outSig_has h1
  try have hx := sg_has hsr.1
  try have hsx := hsr.2
  try have hxl := hx.len
  try have hop : (osL x (onQ x sig (wayN w))).length ≤ x.codes.length := osTo_le x (onQ x sig (wayN w)) x.codes.length
  try have hoq : (osL x (offQ x sig (wayN w))).length ≤ x.codes.length := osTo_le x (offQ x sig (wayN w)) x.codes.length
  try have hpx : ∀ u ∈ osL x (onQ x sig (wayN w)), u.length ≤ 1048576 := fun u hu => hx1 u (osTo_in (Nat.le_refl _) u hu)
  try have hqx : ∀ u ∈ osL x (offQ x sig (wayN w)), u.length ≤ 1048576 := fun u hu => hx1 u (osTo_in (Nat.le_refl _) u hu)
  refine T_skip ?_
  refine T_seq ?_
  refine T_region hc ?_
  refine Ch.s (.agg [(.d (.slice false 2 (x.sigs.map Sgn.d))), (.d (.slice false 1 (x.codes.map D.str))), (.d (.slice false 4 (x.arcs.map Arc.d)))]) (.pure (.loadPtrA _ _ rfl ag35 sz35 rfl rfl (Nat.le_of_ble_eq_true rfl) rfl)) ?_
  refine Ch.s (.d (.int .i64 sig)) (.pure (.move _ rfl rfl)) ?_
  refine Ch.s (.d (.str w)) (.pure (.move _ rfl rfl)) ?_
  refine Ch.step (v := (.agg [(.row 17000), (.row 17001)])) rfl (.call 17000 135 _ _ _ en135 rfl (.inl rfl) (.cons (.lend (.agg (.cons (.d _) (.cons (.d _) (.cons (.d _) .nil))) rfl)) (.cons (.d _) (.cons (.d _) .nil))) rfl (sol (by rw [D.solid]; exact solids_c (solid_row (fun _ => rfl) _) (solids_c (solid_row (fun _ => rfl) _) rfl)) rfl) (sp_spec_l15Sets x sig w (by first | assumption | omega | (rw [List.length_take]; omega) | (have := bulkF_mem hb _ (getD_mem (d := default) (by omega)); assumption) | (unfold bulkS at *; omega) | (simp_all; done)) (by assumption) (by omega)) (.skip _ _ (.skip _ _ (.skip _ _ .nil))) rfl) rfl rfl ?_
  refine Ch.s (.ptr 8000 0) (.alloc 8000 _ rfl zer29) ?_
  refine Ch.s .junk (.storePtr _ _ _ rfl rfl rfl (.agg _ rfl) sz29 (Nat.le_of_ble_eq_true rfl)) ?_
  refine Ch.nil ?_
  refine T_seq ?_
  refine T_seq ?_
  refine T_region hc ?_
  refine Ch.s (.ptr 3000 0) (.pure (.fldPtr _ _ _ rfl fld35_0 rfl)) ?_
  refine Ch.s (.d (.slice false 2 (x.sigs.map Sgn.d))) (.pure (.loadPtr1 _ _ rfl ag32 rfl rfl rfl)) ?_
  refine Ch.s (.d (.int .i64 ((x.sigs.length : Nat) : Int))) (.pure (.len _ _ 154 rfl Tryz.underlying32 (.sh _ _) (by simp))) ?_
  refine Ch.s (.ptr 8000 0) (.pure (.fldPtr _ _ _ rfl fld29_0 rfl)) ?_
  refine Ch.s (.row 17000) (.pure (.loadPtr1 _ _ rfl ag23 rfl rfl rfl)) ?_
  refine Ch.s (.ptr 8000 1) (.pure (.fldPtr _ _ _ rfl fld29_1 rfl)) ?_
  refine Ch.s (.row 17001) (.pure (.loadPtr1 _ _ rfl ag23 rfl rfl rfl)) ?_
  refine Ch.s (.d (.bool (onoffB ((x.sigs.length : Nat) : Int) (osL x (onQ x sig (wayN w))) (osL x (offQ x sig (wayN w)))))) (.call 25000 136 _ _ _ en136 rfl (.inl rfl) (.cons (.d _) (.cons (.lend (.row rfl (frozs_map (fun _ => rfl) _))) (.cons (.lend (.row rfl (frozs_map (fun _ => rfl) _))) .nil))) rfl rfl (sp_spec_l14Sets ((x.sigs.length : Nat) : Int) (osL x (onQ x sig (wayN w))) (osL x (offQ x sig (wayN w))) (by first | omega | assumption | (exact hx _ (getD_mem (by omega))) | (exact hx _ (by assumption)) | (exact Nat.le_trans (hx _ (by assumption)) (by omega)) | (simp only [List.length_append, List.length_take, List.length_drop, List.length_cons, List.length_nil]; omega) | (simp_all; done)) (by first | omega | assumption | (exact hx _ (getD_mem (by omega))) | (exact hx _ (by assumption)) | (exact Nat.le_trans (hx _ (by assumption)) (by omega)) | (simp only [List.length_append, List.length_take, List.length_drop, List.length_cons, List.length_nil]; omega) | (simp_all; done)) (by first | omega | assumption | (exact hx _ (getD_mem (by omega))) | (exact hx _ (by assumption)) | (exact Nat.le_trans (hx _ (by assumption)) (by omega)) | (simp only [List.length_append, List.length_take, List.length_drop, List.length_cons, List.length_nil]; omega) | (simp_all; done)) (by first | omega | assumption | (exact hx _ (getD_mem (by omega))) | (exact hx _ (by assumption)) | (exact Nat.le_trans (hx _ (by assumption)) (by omega)) | (simp only [List.length_append, List.length_take, List.length_drop, List.length_cons, List.length_nil]; omega) | (simp_all; done))) (.skip _ _ (.skip _ _ (.skip _ _ .nil))) rfl) ?_
  refine Ch.s (.d (.bool (!(onoffB ((x.sigs.length : Nat) : Int) (osL x (onQ x sig (wayN w))) (osL x (offQ x sig (wayN w))))))) (.pure (.not _ _ rfl rfl)) ?_
  refine Ch.nil ?_
  refine T_cond (b := (!(onoffB ((x.sigs.length : Nat) : Int) (osL x (onQ x sig (wayN w))) (osL x (offQ x sig (wayN w)))))) rfl (fun h2 => ?_) (fun h2 => ?_)
  ·
   replace h2 := nott h2
   refine T_seq ?_
   refine T_region hc ?_
   refine Ch.s (.agg [(.c (.slice none 0 0)), (.c (.slice none 0 0))]) (.build _ _ rfl stru29 .nil rfl) ?_
   refine Ch.s .junk (.storePtr _ _ _ rfl rfl rfl (.agg _ rfl) sz29 (Nat.le_of_ble_eq_true rfl)) ?_
   refine Ch.s (.d (.bool false)) (.pure (.assign _ rfl rfl)) ?_
   refine Ch.nil ?_
   refine T_ret ?_
   refine And.intro (.inr rfl) ?_
   exact Exists.intro [(.agg [(.c (.slice none 0 0)), (.c (.slice none 0 0))]), (.d (.bool false))] (Exists.intro [] (Exists.intro [] (And.intro (.cons (.cellA _ _ rfl rfl ag29 sz29) (.cons (.tmp 7 rfl) .nil)) (And.intro (.cons (.any _) (.cons (.any _) (.cons (.any _) .nil))) (And.intro (.tup (.cons (.agg (.cons (Exp.of (congrArg (D.slice true 1) (by first | (have hk : setsOk x (onQ x sig (wayN w)) (offQ x sig (wayN w)) = true := h2; first | (rw [osOn, h1, if_pos rfl, setsOn, hk]; rfl) | (rw [osOff, h1, if_pos rfl, setsOff, hk]; rfl) | (rw [osOk, h1, hk]; rfl)) | (have hk : setsOk x (onQ x sig (wayN w)) (offQ x sig (wayN w)) = false := h2; first | (rw [osOn, h1, if_pos rfl, setsOn_no hk]; rfl) | (rw [osOff, h1, if_pos rfl, setsOff_no hk]; rfl) | (rw [osOk, h1, hk]; rfl)) | (rw [osOn, h1]; rfl) | (rw [osOff, h1]; rfl) | (rw [osOk, h1]; rfl))) (.nil true 1)) (.cons (Exp.of (congrArg (D.slice true 1) (by first | (have hk : setsOk x (onQ x sig (wayN w)) (offQ x sig (wayN w)) = true := h2; first | (rw [osOn, h1, if_pos rfl, setsOn, hk]; rfl) | (rw [osOff, h1, if_pos rfl, setsOff, hk]; rfl) | (rw [osOk, h1, hk]; rfl)) | (have hk : setsOk x (onQ x sig (wayN w)) (offQ x sig (wayN w)) = false := h2; first | (rw [osOn, h1, if_pos rfl, setsOn_no hk]; rfl) | (rw [osOff, h1, if_pos rfl, setsOff_no hk]; rfl) | (rw [osOk, h1, hk]; rfl)) | (rw [osOn, h1]; rfl) | (rw [osOff, h1]; rfl) | (rw [osOk, h1]; rfl))) (.nil true 1)) .nil)) rfl) (.cons (Exp.of (congrArg D.bool (by first | (have hk : setsOk x (onQ x sig (wayN w)) (offQ x sig (wayN w)) = true := h2; first | (rw [osOn, h1, if_pos rfl, setsOn, hk]; rfl) | (rw [osOff, h1, if_pos rfl, setsOff, hk]; rfl) | (rw [osOk, h1, hk]; rfl)) | (have hk : setsOk x (onQ x sig (wayN w)) (offQ x sig (wayN w)) = false := h2; first | (rw [osOn, h1, if_pos rfl, setsOn_no hk]; rfl) | (rw [osOff, h1, if_pos rfl, setsOff_no hk]; rfl) | (rw [osOk, h1, hk]; rfl)) | (rw [osOn, h1]; rfl) | (rw [osOff, h1]; rfl) | (rw [osOk, h1]; rfl))) (.d _)) .nil))) (And.intro rfl rfl))))))
  ·
   replace h2 := notf h2
   refine T_skip ?_
   refine T_seq ?_
   refine T_region hc ?_
   refine Ch.s (.agg [(.row 17000), (.row 17001)]) (.pure (.loadPtrA _ _ rfl ag29 sz29 rfl rfl (Nat.le_of_ble_eq_true rfl) rfl)) ?_
   refine Ch.s .junk (.storePtr _ _ _ rfl rfl rfl (.agg _ rfl) sz29 (Nat.le_of_ble_eq_true rfl)) ?_
   refine Ch.s (.d (.bool true)) (.pure (.assign _ rfl rfl)) ?_
   refine Ch.nil ?_
   refine T_ret ?_
   refine And.intro (.inr rfl) ?_
   exact Exists.intro [(.agg [(.row 17000), (.row 17001)]), (.d (.bool true))] (Exists.intro [] (Exists.intro [17000, 17001] (And.intro (.cons (.cellA _ _ rfl rfl ag29 sz29) (.cons (.tmp 7 rfl) .nil)) (And.intro (.cons (.any _) (.cons (.any _) (.cons (.any _) .nil))) (And.intro (.tup (.cons (.agg (.cons (Exp.of (congrArg (D.slice true 1) (by first | (have hk : setsOk x (onQ x sig (wayN w)) (offQ x sig (wayN w)) = true := h2; first | (rw [osOn, h1, if_pos rfl, setsOn, hk]; rfl) | (rw [osOff, h1, if_pos rfl, setsOff, hk]; rfl) | (rw [osOk, h1, hk]; rfl)) | (have hk : setsOk x (onQ x sig (wayN w)) (offQ x sig (wayN w)) = false := h2; first | (rw [osOn, h1, if_pos rfl, setsOn_no hk]; rfl) | (rw [osOff, h1, if_pos rfl, setsOff_no hk]; rfl) | (rw [osOk, h1, hk]; rfl)) | (rw [osOn, h1]; rfl) | (rw [osOff, h1]; rfl) | (rw [osOk, h1]; rfl))) (.row rfl)) (.cons (Exp.of (congrArg (D.slice true 1) (by first | (have hk : setsOk x (onQ x sig (wayN w)) (offQ x sig (wayN w)) = true := h2; first | (rw [osOn, h1, if_pos rfl, setsOn, hk]; rfl) | (rw [osOff, h1, if_pos rfl, setsOff, hk]; rfl) | (rw [osOk, h1, hk]; rfl)) | (have hk : setsOk x (onQ x sig (wayN w)) (offQ x sig (wayN w)) = false := h2; first | (rw [osOn, h1, if_pos rfl, setsOn_no hk]; rfl) | (rw [osOff, h1, if_pos rfl, setsOff_no hk]; rfl) | (rw [osOk, h1, hk]; rfl)) | (rw [osOn, h1]; rfl) | (rw [osOff, h1]; rfl) | (rw [osOk, h1]; rfl))) (.row rfl)) .nil)) rfl) (.cons (Exp.of (congrArg D.bool (by first | (have hk : setsOk x (onQ x sig (wayN w)) (offQ x sig (wayN w)) = true := h2; first | (rw [osOn, h1, if_pos rfl, setsOn, hk]; rfl) | (rw [osOff, h1, if_pos rfl, setsOff, hk]; rfl) | (rw [osOk, h1, hk]; rfl)) | (have hk : setsOk x (onQ x sig (wayN w)) (offQ x sig (wayN w)) = false := h2; first | (rw [osOn, h1, if_pos rfl, setsOn_no hk]; rfl) | (rw [osOff, h1, if_pos rfl, setsOff_no hk]; rfl) | (rw [osOk, h1, hk]; rfl)) | (rw [osOn, h1]; rfl) | (rw [osOff, h1]; rfl) | (rw [osOk, h1]; rfl))) (.d _)) .nil))) (And.intro rfl rfl))))))

theorem sp_spec_ResetFunctionSets (x : Sgr) (sig : Int) (hb : x.bulk ≤ 1048576) : Sp Tryz.prog 17 [(.agg [(.slice false 2 (x.sigs.map Sgn.d)), (.slice false 1 (x.codes.map D.str)), (.slice false 4 (x.arcs.map Arc.d))]), (.int .i64 sig)] [.any, .any] (.tup [(.agg [(.slice true 1 ((osOn x sig 2).map D.str)), (.slice true 1 ((osOff x sig 2).map D.str))]), (.bool (osOk x sig 2))]) := by
 refine Sp_intro (lend := true) Tryz.func17 rfl rfl rfl (fun _ => rfl) (fun c hc hX => ?_)
 obtain ⟨hp0, hp1, hp2⟩ := Sgr.parts hb
 have hn0 := bulkF_len hp0
 have hn1 := bulk_len hp1
 have hx1 := bulk_mem hp1
 have hn2 := bulkF_len hp2
 refine T_seq ?_
 refine T_region hc ?_
 refine Ch.s (.ptr 2000 0) (.box 2000 _ _ rfl (.aggD _)) ?_
 refine Ch.s (.ptr 4000 0) (.alloc 4000 _ rfl zer29) ?_
 refine Ch.s (.d (.bool false)) (.pure (.assign _ rfl rfl)) ?_
 refine Ch.nil ?_
 refine T_seq ?_
 refine T_region hc ?_
 refine Ch.s (.agg [(.d (.slice false 2 (x.sigs.map Sgn.d))), (.d (.slice false 1 (x.codes.map D.str))), (.d (.slice false 4 (x.arcs.map Arc.d)))]) (.pure (.loadPtrA _ _ rfl ag35 sz35 rfl rfl (Nat.le_of_ble_eq_true rfl) rfl)) ?_
 refine Ch.s (.d (.int .i64 sig)) (.pure (.move _ rfl rfl)) ?_
 refine Ch.step (v := (.tup [(.agg [(.row 8000), (.row 8001)]), (.d (.bool (osOk x sig (wayN ([100, 111, 119, 110])))))])) rfl (.call 8000 69 _ _ _ en69 rfl (.inl rfl) (.cons (.lend (.agg (.cons (.d _) (.cons (.d _) (.cons (.d _) .nil))) rfl)) (.cons (.d _) (.cons (.d _) .nil))) rfl (sol (by rw [D.solid]; exact solids_c (by rw [D.solid]; exact solids_c (solid_row (fun _ => rfl) _) (solids_c (solid_row (fun _ => rfl) _) rfl)) rfl) rfl) (sp_spec_l15Told x sig ([100, 111, 119, 110]) (by first | assumption | omega | (rw [List.length_take]; omega) | (have := bulkF_mem hb _ (getD_mem (d := default) (by omega)); assumption) | (unfold bulkS at *; omega) | (simp_all; done))) (.skip _ _ (.skip _ _ (.skip _ _ .nil))) rfl) rfl rfl ?_
 refine Ch.s (.agg [(.row 8000), (.row 8001)]) (.pure (.extract _ rfl rfl rfl)) ?_
 refine Ch.s (.d (.bool (osOk x sig (wayN ([100, 111, 119, 110]))))) (.pure (.extract _ rfl rfl rfl)) ?_
 refine Ch.s .junk (.storePtr _ _ _ rfl rfl rfl (.agg _ rfl) sz29 (Nat.le_of_ble_eq_true rfl)) ?_
 refine Ch.s (.d (.bool (osOk x sig (wayN ([100, 111, 119, 110]))))) (.pure (.assign _ rfl rfl)) ?_
 refine Ch.nil ?_
 refine T_ret ?_
 refine And.intro (.inr rfl) ?_
 exact Exists.intro [(.agg [(.row 8000), (.row 8001)]), (.d (.bool (osOk x sig (wayN ([100, 111, 119, 110])))))] (Exists.intro [] (Exists.intro [8000, 8001] (And.intro (.cons (.cellA _ _ rfl rfl ag29 sz29) (.cons (.tmp 5 rfl) .nil)) (And.intro (.cons (.any _) (.cons (.any _) .nil)) (And.intro (.tup (.cons (.agg (.cons (Exp.of (congrArg (D.slice true 1) (by rfl)) (.row rfl)) (.cons (Exp.of (congrArg (D.slice true 1) (by rfl)) (.row rfl)) .nil)) rfl) (.cons (Exp.of (congrArg D.bool (by rfl)) (.d _)) .nil))) (And.intro rfl rfl))))))

theorem sp_laws_markOnOffSets (xs ys : List (List UInt8)) (k : Nat) (hn : xs.length ≤ 1048576) (hm : ys.length ≤ 1048576) (hk : k ≤ 1) : Sp Tryz.prog 23 [(.agg [(.slice true 1 (xs.map D.str)), (.slice true 1 (ys.map D.str))]), (.int .i64 ((k : Nat) : Int))] [(.agg [(.slice true 1 ((marks k xs.length).map D.str)), (.slice true 1 ((marks (k + xs.length) ys.length).map D.str))]), .any] (.int .i64 ((k + xs.length + ys.length : Nat) : Int)) := by
 refine Sp_intro (lend := false) Tryz.func23 rfl rfl rfl (fun h => nomatch h) (fun c hc hX => ?_)
 refine T_seq ?_
 refine T_region hc ?_
 refine Ch.s (.ptr 2000 0) (.box 2000 _ _ rfl (.agg _ rfl)) ?_
 refine Ch.s (.d (.int .i64 0)) (.pure (.assign _ rfl rfl)) ?_
 refine Ch.nil ?_
 refine T_seq ?_
 refine T_region hc ?_
 refine Ch.s (.ptr 2000 0) (.pure (.fldPtr _ _ _ rfl fld29_0 rfl)) ?_
 refine Ch.s (.row 1) (.pure (.loadPtr1 _ _ rfl ag23 rfl rfl rfl)) ?_
 refine Ch.s (.d (.int .i64 ((k : Nat) : Int))) (.pure (.move _ rfl rfl)) ?_
 refine Ch.step (v := (.d (.int .i64 ((k + xs.length : Nat) : Int)))) rfl (.call 8000 30 _ _ _ en30 rfl (.inl rfl) (.cons (.row rfl) (.cons (.d _) .nil)) rfl (sol rfl (solids_c (solid_row (fun _ => rfl) _) rfl)) (sp_laws_markStringS xs k (by first | omega | assumption | (exact hx _ (getD_mem (by omega))) | (exact hx _ (by assumption)) | (exact Nat.le_trans (hx _ (by assumption)) (by omega)) | (simp only [List.length_append, List.length_take, List.length_drop, List.length_cons, List.length_nil]; omega) | (simp_all; done)) (by first | omega | assumption | (exact hx _ (getD_mem (by omega))) | (exact hx _ (by assumption)) | (exact Nat.le_trans (hx _ (by assumption)) (by omega)) | (simp only [List.length_append, List.length_take, List.length_drop, List.length_cons, List.length_nil]; omega) | (simp_all; done))) (.row _ _ _ (.skip _ _ .nil)) rfl) rfl rfl ?_
 refine Ch.s (.d (.int .i64 ((k + xs.length : Nat) : Int))) (.pure (.assign _ rfl rfl)) ?_
 refine Ch.nil ?_
 refine T_seq ?_
 refine T_region hc ?_
 refine Ch.s (.ptr 2000 1) (.pure (.fldPtr _ _ _ rfl fld29_1 rfl)) ?_
 refine Ch.s (.row 2) (.pure (.loadPtr1 _ _ rfl ag23 rfl rfl rfl)) ?_
 refine Ch.s (.d (.int .i64 ((k + xs.length : Nat) : Int))) (.pure (.move _ rfl rfl)) ?_
 refine Ch.step (v := (.d (.int .i64 (((k + xs.length) + ys.length : Nat) : Int)))) rfl (.call 12000 30 _ _ _ en30 rfl (.inl rfl) (.cons (.row rfl) (.cons (.d _) .nil)) rfl (sol rfl (solids_c (solid_row (fun _ => rfl) _) rfl)) (sp_laws_markStringS ys (k + xs.length) (by first | omega | assumption | (exact hx _ (getD_mem (by omega))) | (exact hx _ (by assumption)) | (exact Nat.le_trans (hx _ (by assumption)) (by omega)) | (simp only [List.length_append, List.length_take, List.length_drop, List.length_cons, List.length_nil]; omega) | (simp_all; done)) (by first | omega | assumption | (exact hx _ (getD_mem (by omega))) | (exact hx _ (by assumption)) | (exact Nat.le_trans (hx _ (by assumption)) (by omega)) | (simp only [List.length_append, List.length_take, List.length_drop, List.length_cons, List.length_nil]; omega) | (simp_all; done))) (.row _ _ _ (.skip _ _ .nil)) rfl) rfl rfl ?_
 refine Ch.s (.d (.int .i64 (((k + xs.length) + ys.length : Nat) : Int))) (.pure (.assign _ rfl rfl)) ?_
 refine Ch.nil ?_
 refine T_seq ?_
 refine T_region hc ?_
 refine Ch.s (.d (.int .i64 (((k + xs.length) + ys.length : Nat) : Int))) (.pure (.move _ rfl rfl)) ?_
 refine Ch.s (.d (.int .i64 (((k + xs.length) + ys.length : Nat) : Int))) (.pure (.assign _ rfl rfl)) ?_
 refine Ch.nil ?_
 refine T_ret ?_
 refine And.intro (.inr rfl) ?_
 exact Exists.intro [(.d (.int .i64 (((k + xs.length) + ys.length : Nat) : Int)))] (Exists.intro [1, 2] (Exists.intro [] (And.intro (.cons (.tmp 4 rfl) .nil) (And.intro (.cons (.agg (.cons (.row rfl) (.cons (.row rfl) .nil)) rfl) (.cons (.any _) .nil)) (And.intro (Exp.of (congrArg (D.int .i64) (by first | rfl | omega)) (.d _)) (And.intro rfl rfl))))))

theorem sp_heldq (xs : List (List UInt8)) (k : Nat) (hn : xs.length ≤ 1048576) (hk : k ≤ 3145728) (hq : heldR xs k = ((k + xs.length : Nat) : Int)) : Sp Tryz.prog 31 [.slice false 1 (xs.map D.str), .int .i64 ((k : Nat) : Int)] [.any, .any] (.int .i64 ((k + xs.length : Nat) : Int)) := by
  have h := sp_laws_heldStringS xs k hn hk
  rw [hq] at h
  exact h

theorem sp_laws_heldOnOffSets (xs ys : List (List UInt8)) (k : Nat) (hn : xs.length ≤ 1048576) (hm : ys.length ≤ 1048576) (hk : k ≤ 1) (hq1 : heldR xs k = ((k + xs.length : Nat) : Int)) (hq2 : heldR ys (k + xs.length) = ((k + xs.length + ys.length : Nat) : Int)) : Sp Tryz.prog 24 [(.agg [(.slice false 1 (xs.map D.str)), (.slice false 1 (ys.map D.str))]), (.int .i64 ((k : Nat) : Int))] [.any, .any] (.int .i64 ((k + xs.length + ys.length : Nat) : Int)) := by
 refine Sp_intro (lend := true) Tryz.func24 rfl rfl rfl (fun _ => rfl) (fun c hc hX => ?_)
 refine T_seq ?_
 refine T_region hc ?_
 refine Ch.s (.ptr 2000 0) (.box 2000 _ _ rfl (.aggD _)) ?_
 refine Ch.s (.d (.int .i64 0)) (.pure (.assign _ rfl rfl)) ?_
 refine Ch.nil ?_
 refine T_seq ?_
 refine T_region hc ?_
 refine Ch.s (.ptr 2000 0) (.pure (.fldPtr _ _ _ rfl fld29_0 rfl)) ?_
 refine Ch.s (.d (.slice false 1 (xs.map D.str))) (.pure (.loadPtr1 _ _ rfl ag23 rfl rfl rfl)) ?_
 refine Ch.s (.d (.int .i64 ((k : Nat) : Int))) (.pure (.move _ rfl rfl)) ?_
 refine Ch.s (.d (.int .i64 ((k + xs.length : Nat) : Int))) (.call 8000 31 _ _ _ en31 rfl (.inl rfl) (.cons (.d _) (.cons (.d _) .nil)) rfl rfl (sp_heldq xs k (by first | assumption | omega | (rw [List.length_take]; omega) | (have := bulkF_mem hb _ (getD_mem (d := default) (by omega)); assumption) | (unfold bulkS at *; omega) | (simp_all; done)) (by first | assumption | omega | (rw [List.length_take]; omega) | (have := bulkF_mem hb _ (getD_mem (d := default) (by omega)); assumption) | (unfold bulkS at *; omega) | (simp_all; done)) (by assumption)) (.skip _ _ (.skip _ _ .nil)) rfl) ?_
 refine Ch.s (.d (.int .i64 ((k + xs.length : Nat) : Int))) (.pure (.assign _ rfl rfl)) ?_
 refine Ch.nil ?_
 refine T_seq ?_
 refine T_seq ?_
 refine T_region hc ?_
 refine Ch.s (.d (.int .i64 ((k + xs.length : Nat) : Int))) (.pure (.move _ rfl rfl)) ?_
 refine Ch.s (.d (.bool (decide (((k + xs.length : Nat) : Int) < 0)))) (.pure (.int _ _ _ _ _ rfl rfl rfl rfl)) ?_
 refine Ch.nil ?_
 refine T_cond (b := (decide (((k + xs.length : Nat) : Int) < 0))) rfl (fun h1 => ?_) (fun h1 => ?_)
 ·
  replace h1 := of_decide_eq_true h1
  refine T_seq ?_
  refine T_region hc ?_
  refine Ch.s (.d (.int .i64 (-1))) (.pure (.assign _ rfl rfl)) ?_
  refine Ch.nil ?_
  refine T_ret ?_
  refine And.intro (.inr rfl) ?_
  exact Exists.intro [(.d (.int .i64 (-1)))] (Exists.intro [] (Exists.intro [] (And.intro (.cons (.tmp 4 rfl) .nil) (And.intro (.cons (.any _) (.cons (.any _) .nil)) (And.intro (Exp.of (congrArg (D.int .i64) (by first | rfl | (exfalso; omega) | omega)) (.d _)) (And.intro rfl rfl))))))
 ·
  replace h1 := of_decide_eq_false h1
  refine T_skip ?_
  refine T_seq ?_
  refine T_region hc ?_
  refine Ch.s (.ptr 2000 1) (.pure (.fldPtr _ _ _ rfl fld29_1 rfl)) ?_
  refine Ch.s (.d (.slice false 1 (ys.map D.str))) (.pure (.loadPtr1 _ _ rfl ag23 rfl rfl rfl)) ?_
  refine Ch.s (.d (.int .i64 ((k + xs.length : Nat) : Int))) (.pure (.move _ rfl rfl)) ?_
  refine Ch.s (.d (.int .i64 (((k + xs.length) + ys.length : Nat) : Int))) (.call 14000 31 _ _ _ en31 rfl (.inl rfl) (.cons (.d _) (.cons (.d _) .nil)) rfl rfl (sp_heldq ys (k + xs.length) (by first | assumption | omega | (rw [List.length_take]; omega) | (have := bulkF_mem hb _ (getD_mem (d := default) (by omega)); assumption) | (unfold bulkS at *; omega) | (simp_all; done)) (by first | assumption | omega | (rw [List.length_take]; omega) | (have := bulkF_mem hb _ (getD_mem (d := default) (by omega)); assumption) | (unfold bulkS at *; omega) | (simp_all; done)) (by assumption)) (.skip _ _ (.skip _ _ .nil)) rfl) ?_
  refine Ch.s (.d (.int .i64 (((k + xs.length) + ys.length : Nat) : Int))) (.pure (.assign _ rfl rfl)) ?_
  refine Ch.nil ?_
  refine T_seq ?_
  refine T_seq ?_
  refine T_region hc ?_
  refine Ch.s (.d (.int .i64 (((k + xs.length) + ys.length : Nat) : Int))) (.pure (.move _ rfl rfl)) ?_
  refine Ch.s (.d (.bool (decide ((((k + xs.length) + ys.length : Nat) : Int) < 0)))) (.pure (.int _ _ _ _ _ rfl rfl rfl rfl)) ?_
  refine Ch.nil ?_
  refine T_cond (b := (decide ((((k + xs.length) + ys.length : Nat) : Int) < 0))) rfl (fun h2 => ?_) (fun h2 => ?_)
  ·
   replace h2 := of_decide_eq_true h2
   refine T_seq ?_
   refine T_region hc ?_
   refine Ch.s (.d (.int .i64 (-1))) (.pure (.assign _ rfl rfl)) ?_
   refine Ch.nil ?_
   refine T_ret ?_
   refine And.intro (.inr rfl) ?_
   exact Exists.intro [(.d (.int .i64 (-1)))] (Exists.intro [] (Exists.intro [] (And.intro (.cons (.tmp 4 rfl) .nil) (And.intro (.cons (.any _) (.cons (.any _) .nil)) (And.intro (Exp.of (congrArg (D.int .i64) (by first | rfl | (exfalso; omega) | omega)) (.d _)) (And.intro rfl rfl))))))
  ·
   replace h2 := of_decide_eq_false h2
   refine T_skip ?_
   refine T_seq ?_
   refine T_region hc ?_
   refine Ch.s (.d (.int .i64 (((k + xs.length) + ys.length : Nat) : Int))) (.pure (.move _ rfl rfl)) ?_
   refine Ch.s (.d (.int .i64 (((k + xs.length) + ys.length : Nat) : Int))) (.pure (.assign _ rfl rfl)) ?_
   refine Ch.nil ?_
   refine T_ret ?_
   refine And.intro (.inr rfl) ?_
   exact Exists.intro [(.d (.int .i64 (((k + xs.length) + ys.length : Nat) : Int)))] (Exists.intro [] (Exists.intro [] (And.intro (.cons (.tmp 4 rfl) .nil) (And.intro (.cons (.any _) (.cons (.any _) .nil)) (And.intro (Exp.of (congrArg (D.int .i64) (by first | rfl | (exfalso; omega) | omega)) (.d _)) (And.intro rfl rfl))))))

theorem heldq_marks (k n : Nat) : heldR (marks k n) k = ((k + (marks k n).length : Nat) : Int) := by
  have h := held_marks k n
  rw [marks_length]
  omega

set_option maxHeartbeats 1000000 in
theorem sp_laws_FnExactResetFunctionSets (x : Sgr) (sig : Int) (hwx : x.wide) : Sp Tryz.prog 3 [(.agg [(.slice false 2 (x.sigs.map Sgn.d)), (.slice false 1 (x.codes.map D.str)), (.slice false 4 (x.arcs.map Arc.d))]), (.int .i64 sig)] [.any, .any] (.bool true) := by
 refine Sp_intro (lend := true) Tryz.func3 rfl rfl rfl (fun _ => rfl) (fun c hc hX => ?_)
 refine T_seq ?_
 refine T_region hc ?_
 refine Ch.s (.ptr 2000 0) (.box 2000 _ _ rfl (.aggD _)) ?_
 refine Ch.s (.d (.bool false)) (.pure (.assign _ rfl rfl)) ?_
 refine Ch.nil ?_
 refine T_seq ?_
 refine T_region hc ?_
 refine Ch.s (.d (.int .i64 1048576)) (.pure (.assign _ rfl rfl)) ?_
 refine Ch.nil ?_
 refine T_seq ?_
 refine T_region hc ?_
 refine Ch.s (.agg [(.d (.slice false 2 (x.sigs.map Sgn.d))), (.d (.slice false 1 (x.codes.map D.str))), (.d (.slice false 4 (x.arcs.map Arc.d)))]) (.pure (.loadPtrA _ _ rfl ag26 sz26 rfl rfl (Nat.le_of_ble_eq_true rfl) rfl)) ?_
 refine Ch.s (.d (.int .i64 1048576)) (.pure (.move _ rfl rfl)) ?_
 refine Ch.s (.d (.int .i64 (szR x.bulk 1048576))) (.call 18000 16 _ _ _ en16 rfl (.inl rfl) (.cons (.lend (.agg (.cons (.d _) (.cons (.d _) (.cons (.d _) .nil))) rfl)) (.cons (.d _) .nil)) rfl rfl (sp_laws_szStateGraph x 1048576 (by first | omega | assumption | (exact hx _ (getD_mem (by omega))) | (exact hx _ (by assumption)) | (exact Nat.le_trans (hx _ (by assumption)) (by omega)) | (simp only [List.length_append, List.length_take, List.length_drop, List.length_cons, List.length_nil]; omega) | (simp_all; done)) (by first | omega | assumption | (exact hx _ (getD_mem (by omega))) | (exact hx _ (by assumption)) | (exact Nat.le_trans (hx _ (by assumption)) (by omega)) | (simp only [List.length_append, List.length_take, List.length_drop, List.length_cons, List.length_nil]; omega) | (simp_all; done)) (by first | assumption | omega | trivial | (simp_all; done) | (exact fun _ _ => trivial) | (exact hx _ (by assumption)) | (refine ⟨?_, ?_⟩ <;> first | assumption | omega))) (.skip _ _ (.skip _ _ .nil)) rfl) ?_
 refine Ch.s (.d (.int .i64 (szR x.bulk 1048576))) (.pure (.assign _ rfl rfl)) ?_
 refine Ch.nil ?_
 refine T_seq ?_
 refine T_seq ?_
 refine T_region hc ?_
 refine Ch.s (.d (.int .i64 (szR x.bulk 1048576))) (.pure (.move _ rfl rfl)) ?_
 refine Ch.s (.d (.bool (decide ((szR x.bulk 1048576) < 0)))) (.pure (.int _ _ _ _ _ rfl rfl rfl rfl)) ?_
 refine Ch.nil ?_
 refine T_cond (b := (decide ((szR x.bulk 1048576) < 0))) rfl (fun h1 => ?_) (fun h1 => ?_)
 ·
  replace h1 := of_decide_eq_true h1
  try have hz := szR_ok (t := x.bulk) (left := 1048576) h1 (by omega)
  try have hb : x.bulk ≤ 1048576 := by omega
  try have hl := hz.2
  try have hcl : (osOn x sig 2).length ≤ 1048576 := Nat.le_trans (osOn_le x sig 2) (bulk_len (Sgr.parts hb).2.1)
  try have hdl : (osOff x sig 2).length ≤ 1048576 := Nat.le_trans (osOff_le x sig 2) (bulk_len (Sgr.parts hb).2.1)
  try have hm1 := marks_length 1 (osOn x sig 2).length
  try have hm2 := marks_length (1 + (osOn x sig 2).length) (osOff x sig 2).length
  refine T_seq ?_
  refine T_region hc ?_
  refine Ch.s (.d (.bool true)) (.pure (.assign _ rfl rfl)) ?_
  refine Ch.nil ?_
  refine T_ret ?_
  refine And.intro (.inr rfl) ?_
  exact Exists.intro [(.d (.bool true))] (Exists.intro [] (Exists.intro [] (And.intro (.cons (.tmp 4 rfl) .nil) (And.intro (.cons (.any _) (.cons (.any _) .nil)) (And.intro (.d _) (And.intro rfl rfl))))))
 ·
  replace h1 := of_decide_eq_false h1
  try have hz := szR_ok (t := x.bulk) (left := 1048576) h1 (by omega)
  try have hb : x.bulk ≤ 1048576 := by omega
  try have hl := hz.2
  try have hcl : (osOn x sig 2).length ≤ 1048576 := Nat.le_trans (osOn_le x sig 2) (bulk_len (Sgr.parts hb).2.1)
  try have hdl : (osOff x sig 2).length ≤ 1048576 := Nat.le_trans (osOff_le x sig 2) (bulk_len (Sgr.parts hb).2.1)
  try have hm1 := marks_length 1 (osOn x sig 2).length
  try have hm2 := marks_length (1 + (osOn x sig 2).length) (osOff x sig 2).length
  refine T_skip ?_
  refine T_seq ?_
  refine T_region hc ?_
  refine Ch.s (.agg [(.d (.slice false 2 (x.sigs.map Sgn.d))), (.d (.slice false 1 (x.codes.map D.str))), (.d (.slice false 4 (x.arcs.map Arc.d)))]) (.pure (.loadPtrA _ _ rfl ag26 sz26 rfl rfl (Nat.le_of_ble_eq_true rfl) rfl)) ?_
  refine Ch.step (v := (.agg [(.row 23000), (.row 23001), (.row 23002)])) rfl (.call 23000 18 _ _ _ en18 rfl (.inl rfl) (.cons (.lend (.agg (.cons (.d _) (.cons (.d _) (.cons (.d _) .nil))) rfl)) .nil) rfl (sol (Sgr.sol _) rfl) (sp_laws_toStateGraph x (by first | assumption | omega | (rw [List.length_take]; omega) | (have := bulkF_mem hb _ (getD_mem (d := default) (by omega)); assumption) | (unfold bulkS at *; omega) | (simp_all; done))) (.skip _ _ .nil) rfl) rfl rfl ?_
  refine Ch.s (.d (.int .i64 sig)) (.pure (.move _ rfl rfl)) ?_
  refine Ch.step (v := (.tup [(.agg [(.row 25000), (.row 25001)]), (.d (.bool (osOk x sig 2)))])) rfl (.call 25000 17 _ _ _ en17 rfl (.inl rfl) (.cons (.lend (.agg (.cons (.row rfl (frozs_map (fun _ => rfl) _)) (.cons (.row rfl (frozs_map (fun _ => rfl) _)) (.cons (.row rfl (frozs_map (fun _ => rfl) _)) .nil))) rfl)) (.cons (.d _) .nil)) rfl (sol (by rw [D.solid]; exact solids_c (by rw [D.solid]; exact solids_c (solid_row (fun _ => rfl) _) (solids_c (solid_row (fun _ => rfl) _) rfl)) rfl) rfl) (sp_spec_ResetFunctionSets x sig (by first | assumption | omega | (rw [List.length_take]; omega) | (have := bulkF_mem hb _ (getD_mem (d := default) (by omega)); assumption) | (unfold bulkS at *; omega) | (simp_all; done))) (.skip _ _ (.skip _ _ .nil)) rfl) rfl rfl ?_
  refine Ch.s (.tup [(.agg [(.row 25000), (.row 25001)]), (.d (.bool (osOk x sig 2)))]) (.pure (.move _ rfl rfl)) ?_
  refine Ch.s (.agg [(.row 25000), (.row 25001)]) (.pure (.extract _ rfl rfl rfl)) ?_
  refine Ch.s (.d (.bool (osOk x sig 2))) (.pure (.extract _ rfl rfl rfl)) ?_
  refine Ch.s (.ptr 6000 0) (.alloc 6000 _ rfl zer29) ?_
  refine Ch.s .junk (.storePtr _ _ _ rfl rfl rfl (.agg _ rfl) sz29 (Nat.le_of_ble_eq_true rfl)) ?_
  refine Ch.s (.d (.bool (osOk x sig 2))) (.pure (.assign _ rfl rfl)) ?_
  refine Ch.nil ?_
  refine T_seq ?_
  refine T_region hc ?_
  refine Ch.s (.agg [(.d (.slice false 2 (x.sigs.map Sgn.d))), (.d (.slice false 1 (x.codes.map D.str))), (.d (.slice false 4 (x.arcs.map Arc.d)))]) (.pure (.loadPtrA _ _ rfl ag26 sz26 rfl rfl (Nat.le_of_ble_eq_true rfl) rfl)) ?_
  refine Ch.step (v := (.agg [(.row 29000), (.row 29001), (.row 29002)])) rfl (.call 29000 18 _ _ _ en18 rfl (.inl rfl) (.cons (.lend (.agg (.cons (.d _) (.cons (.d _) (.cons (.d _) .nil))) rfl)) .nil) rfl (sol (Sgr.sol _) rfl) (sp_laws_toStateGraph x (by first | assumption | omega | (rw [List.length_take]; omega) | (have := bulkF_mem hb _ (getD_mem (d := default) (by omega)); assumption) | (unfold bulkS at *; omega) | (simp_all; done))) (.skip _ _ .nil) rfl) rfl rfl ?_
  refine Ch.s (.ptr 8000 0) (.alloc 8000 _ rfl zer35) ?_
  refine Ch.s .junk (.storePtr _ _ _ rfl rfl rfl (.agg _ rfl) sz35 (Nat.le_of_ble_eq_true rfl)) ?_
  refine Ch.nil ?_
  refine T_seq ?_
  refine T_region hc ?_
  refine Ch.s (.agg [(.row 29000), (.row 29001), (.row 29002)]) (.pure (.loadPtrA _ _ rfl ag35 sz35 rfl rfl (Nat.le_of_ble_eq_true rfl) rfl)) ?_
  refine Ch.s (.d (.int .i64 sig)) (.pure (.move _ rfl rfl)) ?_
  refine Ch.step (v := (.tup [(.agg [(.row 33000), (.row 33001)]), (.d (.bool (osOk x sig 2)))])) rfl (.call 33000 19 _ _ _ en19 rfl (.inl rfl) (.cons (.lend (.agg (.cons (.row rfl (frozs_map (fun _ => rfl) _)) (.cons (.row rfl (frozs_map (fun _ => rfl) _)) (.cons (.row rfl (frozs_map (fun _ => rfl) _)) .nil))) rfl)) (.cons (.d _) .nil)) rfl (sol (by rw [D.solid]; exact solids_c (by rw [D.solid]; exact solids_c (solid_row (fun _ => rfl) _) (solids_c (solid_row (fun _ => rfl) _) rfl)) rfl) rfl) (sp_impl_ResetFunctionSets x sig (by first | assumption | omega | (rw [List.length_take]; omega) | (have := bulkF_mem hb _ (getD_mem (d := default) (by omega)); assumption) | (unfold bulkS at *; omega) | (simp_all; done))) (.skip _ _ (.skip _ _ .nil)) rfl) rfl rfl ?_
  refine Ch.s (.tup [(.agg [(.row 33000), (.row 33001)]), (.d (.bool (osOk x sig 2)))]) (.pure (.move _ rfl rfl)) ?_
  refine Ch.s (.agg [(.row 33000), (.row 33001)]) (.pure (.extract _ rfl rfl rfl)) ?_
  refine Ch.s (.d (.bool (osOk x sig 2))) (.pure (.extract _ rfl rfl rfl)) ?_
  refine Ch.s (.ptr 9000 0) (.alloc 9000 _ rfl zer29) ?_
  refine Ch.s .junk (.storePtr _ _ _ rfl rfl rfl (.agg _ rfl) sz29 (Nat.le_of_ble_eq_true rfl)) ?_
  refine Ch.s (.d (.bool (osOk x sig 2))) (.pure (.assign _ rfl rfl)) ?_
  refine Ch.nil ?_
  refine T_seq ?_
  refine T_seq ?_
  refine T_region hc ?_
  refine Ch.s (.agg [(.row 33000), (.row 33001)]) (.pure (.loadPtrA _ _ rfl ag29 sz29 rfl rfl (Nat.le_of_ble_eq_true rfl) rfl)) ?_
  refine Ch.s (.agg [(.row 25000), (.row 25001)]) (.pure (.loadPtrA _ _ rfl ag29 sz29 rfl rfl (Nat.le_of_ble_eq_true rfl) rfl)) ?_
  refine Ch.s (.d (.bool (eqO (osOn x sig 2) (osOff x sig 2) (osOn x sig 2) (osOff x sig 2)))) (.call 38000 20 _ _ _ en20 rfl (.inl rfl) (.cons (.lend (.agg (.cons (.row rfl (frozs_map (fun _ => rfl) _)) (.cons (.row rfl (frozs_map (fun _ => rfl) _)) .nil)) rfl)) (.cons (.lend (.agg (.cons (.row rfl (frozs_map (fun _ => rfl) _)) (.cons (.row rfl (frozs_map (fun _ => rfl) _)) .nil)) rfl)) .nil)) rfl rfl (sp_laws_eqOnOffSets (osOn x sig 2) (osOff x sig 2) (osOn x sig 2) (osOff x sig 2) (by first | omega | assumption | (exact hx _ (getD_mem (by omega))) | (exact hx _ (by assumption)) | (exact Nat.le_trans (hx _ (by assumption)) (by omega)) | (simp only [List.length_append, List.length_take, List.length_drop, List.length_cons, List.length_nil]; omega) | (simp_all; done)) (by first | omega | assumption | (exact hx _ (getD_mem (by omega))) | (exact hx _ (by assumption)) | (exact Nat.le_trans (hx _ (by assumption)) (by omega)) | (simp only [List.length_append, List.length_take, List.length_drop, List.length_cons, List.length_nil]; omega) | (simp_all; done))) (.skip _ _ (.skip _ _ .nil)) rfl) ?_
  refine Ch.s (.d (.bool (!(eqO (osOn x sig 2) (osOff x sig 2) (osOn x sig 2) (osOff x sig 2))))) (.pure (.not _ _ rfl rfl)) ?_
  refine Ch.s (.d (.bool (!(eqO (osOn x sig 2) (osOff x sig 2) (osOn x sig 2) (osOff x sig 2))))) (.pure (.move _ rfl rfl)) ?_
  cases h2 : (eqO (osOn x sig 2) (osOff x sig 2) (osOn x sig 2) (osOff x sig 2)) with
  | true =>
   refine Ch.s (.d (.bool (osOk x sig 2))) (.pure (.move _ rfl rfl)) ?_
   refine Ch.s (.d (.bool (osOk x sig 2))) (.pure (.move _ rfl rfl)) ?_
   refine Ch.s (.d (.bool (!(decide ((osOk x sig 2) = (osOk x sig 2)))))) (.pure (.neB _ _ _ _ rfl Tryz.underlying4 rfl rfl)) ?_
   refine Ch.s (.d (.bool (!(decide ((osOk x sig 2) = (osOk x sig 2)))))) (.pure (.pickF _ _ _ rfl rfl rfl)) ?_
   refine Ch.nil ?_
   refine T_cond (b := (!(decide ((osOk x sig 2) = (osOk x sig 2))))) rfl (fun h3 => ?_) (fun h3 => ?_)
   ·
    replace h3 := nott h3
    replace h3 := of_decide_eq_false h3
    refine T_seq ?_
    refine T_region hc ?_
    refine Ch.s (.d (.bool false)) (.pure (.assign _ rfl rfl)) ?_
    refine Ch.nil ?_
    refine T_ret ?_
    refine And.intro (.inr rfl) ?_
    exact Exists.intro [(.d (.bool false))] (Exists.intro [] (Exists.intro [] (And.intro (.cons (.tmp 4 rfl) .nil) (And.intro (.cons (.any _) (.cons (.any _) .nil)) (And.intro (Exp.of (congrArg D.bool (by first | rfl | (simp_all [eqO]; done) | (exfalso; simp_all [eqO]; done) | (exfalso; omega) | (exfalso; simp_all [eqO]; omega))) (.d _)) (And.intro rfl rfl))))))
   ·
    replace h3 := notf h3
    replace h3 := of_decide_eq_true h3
    refine T_skip ?_
    refine T_seq ?_
    refine T_seq ?_
    refine T_regionD hc (by kernel_rfl) ?_
    refine ChD.s (.agg [(.row 29000), (.row 29001), (.row 29002)]) [8000, 29000, 29001, 29002] (.pure (.loadPtrA _ _ rfl ag35 sz35 rfl rfl (Nat.le_of_ble_eq_true rfl) rfl)) ?_
    refine ChD.s (.agg [(.d (.slice false 2 (x.sigs.map Sgn.d))), (.d (.slice false 1 (x.codes.map D.str))), (.d (.slice false 4 (x.arcs.map Arc.d)))]) [2000] (.pure (.loadPtrA _ _ rfl ag26 sz26 rfl rfl (Nat.le_of_ble_eq_true rfl) rfl)) ?_
    refine ChD.s (.agg [(.row 47000), (.row 47001), (.row 47002)]) [] (.call 47000 18 _ _ _ en18 rfl (.inl rfl) (.cons (.lend (.agg (.cons (.d _) (.cons (.d _) (.cons (.d _) .nil))) rfl)) .nil) rfl (sol (Sgr.sol _) rfl) (sp_laws_toStateGraph x (by first | assumption | omega | (rw [List.length_take]; omega) | (have := bulkF_mem hb _ (getD_mem (d := default) (by omega)); assumption) | (unfold bulkS at *; omega) | (simp_all; done))) (.skip _ _ .nil) rfl) ?_
    refine ChD.s (.d (.bool (decide (x = x)))) [29000, 29001, 29002, 47000, 47001, 47002] (.call 48000 21 _ _ _ en21 rfl (.inl rfl) (.cons (.lend (.agg (.cons (.row rfl (frozs_map (fun _ => rfl) _)) (.cons (.row rfl (frozs_map (fun _ => rfl) _)) (.cons (.row rfl (frozs_map (fun _ => rfl) _)) .nil))) rfl)) (.cons (.lend (.agg (.cons (.row rfl (frozs_map (fun _ => rfl) _)) (.cons (.row rfl (frozs_map (fun _ => rfl) _)) (.cons (.row rfl (frozs_map (fun _ => rfl) _)) .nil))) rfl)) .nil)) rfl rfl (sp_laws_eqStateGraph x x (by first | assumption | omega | (rw [List.length_take]; omega) | (have := bulkF_mem hb _ (getD_mem (d := default) (by omega)); assumption) | (unfold bulkS at *; omega) | (simp_all; done))) (.skip _ _ (.skip _ _ .nil)) rfl) ?_
    refine ChD.s (.d (.bool (!(decide (x = x))))) [] (.pure (.not _ _ rfl rfl)) ?_
    refine ChD.nil (And.intro ?_ (by kernel_rfl))
    refine T_cond (b := (!(decide (x = x)))) rfl (fun h4 => ?_) (fun h4 => ?_)
    ·
     replace h4 := nott h4
     replace h4 := of_decide_eq_false h4
     refine T_seq ?_
     refine T_region hc ?_
     refine Ch.s (.d (.bool false)) (.pure (.assign _ rfl rfl)) ?_
     refine Ch.nil ?_
     refine T_ret ?_
     refine And.intro (.inr rfl) ?_
     exact Exists.intro [(.d (.bool false))] (Exists.intro [] (Exists.intro [] (And.intro (.cons (.tmp 4 rfl) .nil) (And.intro (.cons (.any _) (.cons (.any _) .nil)) (And.intro (Exp.of (congrArg D.bool (by first | rfl | (simp_all [eqO]; done) | (exfalso; simp_all [eqO]; done) | (exfalso; omega) | (exfalso; simp_all [eqO]; omega))) (.d _)) (And.intro rfl rfl))))))
    ·
     replace h4 := notf h4
     replace h4 := of_decide_eq_true h4
     refine T_skip ?_
     refine T_seq ?_
     refine T_region hc ?_
     refine Ch.s (.d (.int .i64 1)) (.pure (.assign _ rfl rfl)) ?_
     refine Ch.nil ?_
     refine T_seq ?_
     refine T_region hc ?_
     refine Ch.s (.agg [(.row 29000), (.row 29001), (.row 29002)]) (.pure (.loadPtrA _ _ rfl ag35 sz35 rfl rfl (Nat.le_of_ble_eq_true rfl) rfl)) ?_
     refine Ch.s (.d (.int .i64 1)) (.pure (.move _ rfl rfl)) ?_
     refine Ch.s (.d (.int .i64 ((1 + 2 * x.sigs.length + x.codes.length + 4 * x.arcs.length : Nat) : Int))) (.call 52000 22 _ _ _ en22 rfl (.inl rfl) (.cons (.agg (.cons (.row rfl) (.cons (.row rfl) (.cons (.row rfl) .nil))) rfl) (.cons (.d _) .nil)) rfl rfl (sp_laws_markStateGraph x 1 (by first | assumption | omega | (rw [List.length_take]; omega) | (have := bulkF_mem hb _ (getD_mem (d := default) (by omega)); assumption) | (unfold bulkS at *; omega) | (simp_all; done)) (by first | assumption | omega | (rw [List.length_take]; omega) | (have := bulkF_mem hb _ (getD_mem (d := default) (by omega)); assumption) | (unfold bulkS at *; omega) | (simp_all; done))) (.skip _ _ (.skip _ _ .nil)) rfl) ?_
     refine Ch.s (.d (.int .i64 ((1 + 2 * x.sigs.length + x.codes.length + 4 * x.arcs.length : Nat) : Int))) (.pure (.assign _ rfl rfl)) ?_
     refine Ch.nil ?_
     refine T_seq ?_
     refine T_seq ?_
     refine T_region hc ?_
     refine Ch.s (.d (.int .i64 ((1 + 2 * x.sigs.length + x.codes.length + 4 * x.arcs.length : Nat) : Int))) (.pure (.move _ rfl rfl)) ?_
     refine Ch.s (.d (.bool (decide (((1 + 2 * x.sigs.length + x.codes.length + 4 * x.arcs.length : Nat) : Int) < 0)))) (.pure (.int _ _ _ _ _ rfl rfl rfl rfl)) ?_
     refine Ch.s (.d (.bool (decide (((1 + 2 * x.sigs.length + x.codes.length + 4 * x.arcs.length : Nat) : Int) < 0)))) (.pure (.move _ rfl rfl)) ?_
     cases h5 : (decide (((1 + 2 * x.sigs.length + x.codes.length + 4 * x.arcs.length : Nat) : Int) < 0)) with
     | true =>
      replace h5 := of_decide_eq_true h5
      refine Ch.skip rfl rfl ?_
      refine Ch.skip rfl rfl ?_
      refine Ch.skip rfl rfl ?_
      refine Ch.skip rfl rfl ?_
      refine Ch.s (.d (.bool true)) (.pure (.pickT _ _ _ rfl rfl rfl)) ?_
      refine Ch.s (.d (.bool true)) (.pure (.move _ rfl rfl)) ?_
      refine Ch.skip rfl rfl ?_
      refine Ch.skip rfl rfl ?_
      refine Ch.skip rfl rfl ?_
      refine Ch.s (.d (.bool true)) (.pure (.pickT _ _ _ rfl rfl rfl)) ?_
      refine Ch.nil ?_
      refine T_cond (b := true) rfl (fun _ => ?_) (fun h => nomatch h)
      refine T_seq ?_
      refine T_region hc ?_
      refine Ch.s (.d (.bool false)) (.pure (.assign _ rfl rfl)) ?_
      refine Ch.nil ?_
      refine T_ret ?_
      refine And.intro (.inr rfl) ?_
      exact Exists.intro [(.d (.bool false))] (Exists.intro [] (Exists.intro [] (And.intro (.cons (.tmp 4 rfl) .nil) (And.intro (.cons (.any _) (.cons (.any _) .nil)) (And.intro (Exp.of (congrArg D.bool (by first | rfl | (simp_all [eqO]; done) | (exfalso; simp_all [eqO]; done) | (exfalso; omega) | (exfalso; simp_all [eqO]; omega))) (.d _)) (And.intro rfl rfl))))))
     | false =>
      replace h5 := of_decide_eq_false h5
      refine Ch.s (.agg [(.row 33000), (.row 33001)]) (.pure (.loadPtrA _ _ rfl ag29 sz29 rfl rfl (Nat.le_of_ble_eq_true rfl) rfl)) ?_
      refine Ch.s (.agg [(.row 25000), (.row 25001)]) (.pure (.loadPtrA _ _ rfl ag29 sz29 rfl rfl (Nat.le_of_ble_eq_true rfl) rfl)) ?_
      refine Ch.s (.d (.bool (eqO (osOn x sig 2) (osOff x sig 2) (osOn x sig 2) (osOff x sig 2)))) (.call 58000 20 _ _ _ en20 rfl (.inl rfl) (.cons (.lend (.agg (.cons (.row rfl (frozs_map (fun _ => rfl) _)) (.cons (.row rfl (frozs_map (fun _ => rfl) _)) .nil)) rfl)) (.cons (.lend (.agg (.cons (.row rfl (frozs_map (fun _ => rfl) _)) (.cons (.row rfl (frozs_map (fun _ => rfl) _)) .nil)) rfl)) .nil)) rfl rfl (sp_laws_eqOnOffSets (osOn x sig 2) (osOff x sig 2) (osOn x sig 2) (osOff x sig 2) (by first | omega | assumption | (exact hx _ (getD_mem (by omega))) | (exact hx _ (by assumption)) | (exact Nat.le_trans (hx _ (by assumption)) (by omega)) | (simp only [List.length_append, List.length_take, List.length_drop, List.length_cons, List.length_nil]; omega) | (simp_all; done)) (by first | omega | assumption | (exact hx _ (getD_mem (by omega))) | (exact hx _ (by assumption)) | (exact Nat.le_trans (hx _ (by assumption)) (by omega)) | (simp only [List.length_append, List.length_take, List.length_drop, List.length_cons, List.length_nil]; omega) | (simp_all; done))) (.skip _ _ (.skip _ _ .nil)) rfl) ?_
      refine Ch.s (.d (.bool (!(eqO (osOn x sig 2) (osOff x sig 2) (osOn x sig 2) (osOff x sig 2))))) (.pure (.not _ _ rfl rfl)) ?_
      refine Ch.s (.d (.bool (!(eqO (osOn x sig 2) (osOff x sig 2) (osOn x sig 2) (osOff x sig 2))))) (.pure (.pickF _ _ _ rfl rfl rfl)) ?_
      refine Ch.s (.d (.bool (!(eqO (osOn x sig 2) (osOff x sig 2) (osOn x sig 2) (osOff x sig 2))))) (.pure (.move _ rfl rfl)) ?_
      cases h6 : (eqO (osOn x sig 2) (osOff x sig 2) (osOn x sig 2) (osOff x sig 2)) with
      | true =>
       refine Ch.s (.d (.bool (osOk x sig 2))) (.pure (.move _ rfl rfl)) ?_
       refine Ch.s (.d (.bool (osOk x sig 2))) (.pure (.move _ rfl rfl)) ?_
       refine Ch.s (.d (.bool (!(decide ((osOk x sig 2) = (osOk x sig 2)))))) (.pure (.neB _ _ _ _ rfl Tryz.underlying4 rfl rfl)) ?_
       refine Ch.s (.d (.bool (!(decide ((osOk x sig 2) = (osOk x sig 2)))))) (.pure (.pickF _ _ _ rfl rfl rfl)) ?_
       refine Ch.nil ?_
       refine T_cond (b := (!(decide ((osOk x sig 2) = (osOk x sig 2))))) rfl (fun h7 => ?_) (fun h7 => ?_)
       ·
        replace h7 := nott h7
        replace h7 := of_decide_eq_false h7
        refine T_seq ?_
        refine T_region hc ?_
        refine Ch.s (.d (.bool false)) (.pure (.assign _ rfl rfl)) ?_
        refine Ch.nil ?_
        refine T_ret ?_
        refine And.intro (.inr rfl) ?_
        exact Exists.intro [(.d (.bool false))] (Exists.intro [] (Exists.intro [] (And.intro (.cons (.tmp 4 rfl) .nil) (And.intro (.cons (.any _) (.cons (.any _) .nil)) (And.intro (Exp.of (congrArg D.bool (by first | rfl | (simp_all [eqO]; done) | (exfalso; simp_all [eqO]; done) | (exfalso; omega) | (exfalso; simp_all [eqO]; omega))) (.d _)) (And.intro rfl rfl))))))
       ·
        replace h7 := notf h7
        replace h7 := of_decide_eq_true h7
        refine T_skip ?_
        refine T_seq ?_
        refine T_region hc ?_
        refine Ch.s (.d (.int .i64 1)) (.pure (.assign _ rfl rfl)) ?_
        refine Ch.nil ?_
        refine T_seq ?_
        refine T_region hc ?_
        refine Ch.s (.agg [(.row 33000), (.row 33001)]) (.pure (.loadPtrA _ _ rfl ag29 sz29 rfl rfl (Nat.le_of_ble_eq_true rfl) rfl)) ?_
        refine Ch.s (.d (.int .i64 1)) (.pure (.move _ rfl rfl)) ?_
        refine Ch.step (v := (.d (.int .i64 ((1 + (osOn x sig 2).length + (osOff x sig 2).length : Nat) : Int)))) rfl (.call 68000 23 _ _ _ en23 rfl (.inl rfl) (.cons (.agg (.cons (.row rfl) (.cons (.row rfl) .nil)) rfl) (.cons (.d _) .nil)) rfl (sol rfl (solids_c (by rw [D.solid]; exact solids_c (solid_row (fun _ => rfl) _) (solids_c (solid_row (fun _ => rfl) _) rfl)) rfl)) (sp_laws_markOnOffSets (osOn x sig 2) (osOff x sig 2) 1 (by first | assumption | omega | (rw [List.length_take]; omega) | (have := bulkF_mem hb _ (getD_mem (d := default) (by omega)); assumption) | (unfold bulkS at *; omega) | (simp_all; done)) (by first | assumption | omega | (rw [List.length_take]; omega) | (have := bulkF_mem hb _ (getD_mem (d := default) (by omega)); assumption) | (unfold bulkS at *; omega) | (simp_all; done)) (by first | assumption | omega | (rw [List.length_take]; omega) | (have := bulkF_mem hb _ (getD_mem (d := default) (by omega)); assumption) | (unfold bulkS at *; omega) | (simp_all; done))) (.agg (.row _ _ _ (.row _ _ _ .nil)) (.skip _ _ .nil)) rfl) rfl rfl ?_
        refine Ch.s (.d (.int .i64 ((1 + (osOn x sig 2).length + (osOff x sig 2).length : Nat) : Int))) (.pure (.assign _ rfl rfl)) ?_
        refine Ch.nil ?_
        refine T_seq ?_
        refine T_region hc ?_
        refine Ch.s (.d (.int .i64 1)) (.pure (.assign _ rfl rfl)) ?_
        refine Ch.nil ?_
        refine T_seq ?_
        refine T_region hc ?_
        refine Ch.s (.agg [(.row 33000), (.row 33001)]) (.pure (.loadPtrA _ _ rfl ag29 sz29 rfl rfl (Nat.le_of_ble_eq_true rfl) rfl)) ?_
        refine Ch.s (.d (.int .i64 1)) (.pure (.move _ rfl rfl)) ?_
        refine Ch.s (.d (.int .i64 ((1 + (marks 1 (osOn x sig 2).length).length + (marks (1 + (osOn x sig 2).length) (osOff x sig 2).length).length : Nat) : Int))) (.call 71000 24 _ _ _ en24 rfl (.inl rfl) (.cons (.lend (.agg (.cons (.row rfl (frozs_map (fun _ => rfl) _)) (.cons (.row rfl (frozs_map (fun _ => rfl) _)) .nil)) rfl)) (.cons (.d _) .nil)) rfl rfl (sp_laws_heldOnOffSets (marks 1 (osOn x sig 2).length) (marks (1 + (osOn x sig 2).length) (osOff x sig 2).length) 1 (by first | assumption | omega | (rw [List.length_take]; omega) | (have := bulkF_mem hb _ (getD_mem (d := default) (by omega)); assumption) | (unfold bulkS at *; omega) | (simp_all; done)) (by first | assumption | omega | (rw [List.length_take]; omega) | (have := bulkF_mem hb _ (getD_mem (d := default) (by omega)); assumption) | (unfold bulkS at *; omega) | (simp_all; done)) (by first | assumption | omega | (rw [List.length_take]; omega) | (have := bulkF_mem hb _ (getD_mem (d := default) (by omega)); assumption) | (unfold bulkS at *; omega) | (simp_all; done)) (heldq_marks _ _) (by rw [marks_length]; exact heldq_marks _ _)) (.skip _ _ (.skip _ _ .nil)) rfl) ?_
        refine Ch.s (.d (.int .i64 ((1 + (marks 1 (osOn x sig 2).length).length + (marks (1 + (osOn x sig 2).length) (osOff x sig 2).length).length : Nat) : Int))) (.pure (.assign _ rfl rfl)) ?_
        refine Ch.nil ?_
        refine T_seq ?_
        refine T_seq ?_
        refine T_region hc ?_
        refine Ch.s (.d (.int .i64 ((1 + (marks 1 (osOn x sig 2).length).length + (marks (1 + (osOn x sig 2).length) (osOff x sig 2).length).length : Nat) : Int))) (.pure (.move _ rfl rfl)) ?_
        refine Ch.s (.d (.bool (decide (((1 + (marks 1 (osOn x sig 2).length).length + (marks (1 + (osOn x sig 2).length) (osOff x sig 2).length).length : Nat) : Int) < 0)))) (.pure (.int _ _ _ _ _ rfl rfl rfl rfl)) ?_
        refine Ch.nil ?_
        refine T_cond (b := (decide (((1 + (marks 1 (osOn x sig 2).length).length + (marks (1 + (osOn x sig 2).length) (osOff x sig 2).length).length : Nat) : Int) < 0))) rfl (fun h8 => ?_) (fun h8 => ?_)
        ·
         replace h8 := of_decide_eq_true h8
         refine T_seq ?_
         refine T_region hc ?_
         refine Ch.s (.d (.bool false)) (.pure (.assign _ rfl rfl)) ?_
         refine Ch.nil ?_
         refine T_ret ?_
         refine And.intro (.inr rfl) ?_
         exact Exists.intro [(.d (.bool false))] (Exists.intro [] (Exists.intro [] (And.intro (.cons (.tmp 4 rfl) .nil) (And.intro (.cons (.any _) (.cons (.any _) .nil)) (And.intro (Exp.of (congrArg D.bool (by first | rfl | (simp_all [eqO]; done) | (exfalso; simp_all [eqO]; done) | (exfalso; omega) | (exfalso; simp_all [eqO]; omega))) (.d _)) (And.intro rfl rfl))))))
        ·
         replace h8 := of_decide_eq_false h8
         refine T_skip ?_
         refine T_seq ?_
         refine T_seq ?_
         refine T_region hc ?_
         refine Ch.s (.d (.int .i64 ((1 + (marks 1 (osOn x sig 2).length).length + (marks (1 + (osOn x sig 2).length) (osOff x sig 2).length).length : Nat) : Int))) (.pure (.move _ rfl rfl)) ?_
         refine Ch.s (.d (.int .i64 ((1 + (osOn x sig 2).length + (osOff x sig 2).length : Nat) : Int))) (.pure (.move _ rfl rfl)) ?_
         refine Ch.s (.d (.bool (!(decide (((1 + (marks 1 (osOn x sig 2).length).length + (marks (1 + (osOn x sig 2).length) (osOff x sig 2).length).length : Nat) : Int) = ((1 + (osOn x sig 2).length + (osOff x sig 2).length : Nat) : Int)))))) (.pure (.int _ _ _ _ _ rfl rfl rfl rfl)) ?_
         refine Ch.nil ?_
         refine T_cond (b := (!(decide (((1 + (marks 1 (osOn x sig 2).length).length + (marks (1 + (osOn x sig 2).length) (osOff x sig 2).length).length : Nat) : Int) = ((1 + (osOn x sig 2).length + (osOff x sig 2).length : Nat) : Int))))) rfl (fun h9 => ?_) (fun h9 => ?_)
         ·
          replace h9 := nott h9
          replace h9 := of_decide_eq_false h9
          refine T_seq ?_
          refine T_region hc ?_
          refine Ch.s (.d (.bool false)) (.pure (.assign _ rfl rfl)) ?_
          refine Ch.nil ?_
          refine T_ret ?_
          refine And.intro (.inr rfl) ?_
          exact Exists.intro [(.d (.bool false))] (Exists.intro [] (Exists.intro [] (And.intro (.cons (.tmp 4 rfl) .nil) (And.intro (.cons (.any _) (.cons (.any _) .nil)) (And.intro (Exp.of (congrArg D.bool (by first | rfl | (simp_all [eqO]; done) | (exfalso; simp_all [eqO]; done) | (exfalso; omega) | (exfalso; simp_all [eqO]; omega))) (.d _)) (And.intro rfl rfl))))))
         ·
          replace h9 := notf h9
          replace h9 := of_decide_eq_true h9
          refine T_skip ?_
          refine T_seq ?_
          refine T_region hc ?_
          refine Ch.s (.agg [(.d (.slice false 2 (x.sigs.map Sgn.d))), (.d (.slice false 1 (x.codes.map D.str))), (.d (.slice false 4 (x.arcs.map Arc.d)))]) (.pure (.loadPtrA _ _ rfl ag26 sz26 rfl rfl (Nat.le_of_ble_eq_true rfl) rfl)) ?_
          refine Ch.step (v := (.agg [(.row 79000), (.row 79001), (.row 79002)])) rfl (.call 79000 18 _ _ _ en18 rfl (.inl rfl) (.cons (.lend (.agg (.cons (.d _) (.cons (.d _) (.cons (.d _) .nil))) rfl)) .nil) rfl (sol (Sgr.sol _) rfl) (sp_laws_toStateGraph x (by first | assumption | omega | (rw [List.length_take]; omega) | (have := bulkF_mem hb _ (getD_mem (d := default) (by omega)); assumption) | (unfold bulkS at *; omega) | (simp_all; done))) (.skip _ _ .nil) rfl) rfl rfl ?_
          refine Ch.s (.d (.int .i64 sig)) (.pure (.move _ rfl rfl)) ?_
          refine Ch.step (v := (.tup [(.agg [(.row 81000), (.row 81001)]), (.d (.bool (osOk x sig 2)))])) rfl (.call 81000 19 _ _ _ en19 rfl (.inl rfl) (.cons (.lend (.agg (.cons (.row rfl (frozs_map (fun _ => rfl) _)) (.cons (.row rfl (frozs_map (fun _ => rfl) _)) (.cons (.row rfl (frozs_map (fun _ => rfl) _)) .nil))) rfl)) (.cons (.d _) .nil)) rfl (sol (by rw [D.solid]; exact solids_c (by rw [D.solid]; exact solids_c (solid_row (fun _ => rfl) _) (solids_c (solid_row (fun _ => rfl) _) rfl)) rfl) rfl) (sp_impl_ResetFunctionSets x sig (by first | assumption | omega | (rw [List.length_take]; omega) | (have := bulkF_mem hb _ (getD_mem (d := default) (by omega)); assumption) | (unfold bulkS at *; omega) | (simp_all; done))) (.skip _ _ (.skip _ _ .nil)) rfl) rfl rfl ?_
          refine Ch.s (.tup [(.agg [(.row 81000), (.row 81001)]), (.d (.bool (osOk x sig 2)))]) (.pure (.move _ rfl rfl)) ?_
          refine Ch.s (.agg [(.row 81000), (.row 81001)]) (.pure (.extract _ rfl rfl rfl)) ?_
          refine Ch.s (.d (.bool (osOk x sig 2))) (.pure (.extract _ rfl rfl rfl)) ?_
          refine Ch.s (.ptr 14000 0) (.alloc 14000 _ rfl zer29) ?_
          refine Ch.s .junk (.storePtr _ _ _ rfl rfl rfl (.agg _ rfl) sz29 (Nat.le_of_ble_eq_true rfl)) ?_
          refine Ch.s (.d (.bool (osOk x sig 2))) (.pure (.assign _ rfl rfl)) ?_
          refine Ch.nil ?_
          refine T_seq ?_
          refine T_seq ?_
          refine T_region hc ?_
          refine Ch.s (.agg [(.row 81000), (.row 81001)]) (.pure (.loadPtrA _ _ rfl ag29 sz29 rfl rfl (Nat.le_of_ble_eq_true rfl) rfl)) ?_
          refine Ch.s (.agg [(.row 25000), (.row 25001)]) (.pure (.loadPtrA _ _ rfl ag29 sz29 rfl rfl (Nat.le_of_ble_eq_true rfl) rfl)) ?_
          refine Ch.s (.d (.bool (eqO (osOn x sig 2) (osOff x sig 2) (osOn x sig 2) (osOff x sig 2)))) (.call 86000 20 _ _ _ en20 rfl (.inl rfl) (.cons (.lend (.agg (.cons (.row rfl (frozs_map (fun _ => rfl) _)) (.cons (.row rfl (frozs_map (fun _ => rfl) _)) .nil)) rfl)) (.cons (.lend (.agg (.cons (.row rfl (frozs_map (fun _ => rfl) _)) (.cons (.row rfl (frozs_map (fun _ => rfl) _)) .nil)) rfl)) .nil)) rfl rfl (sp_laws_eqOnOffSets (osOn x sig 2) (osOff x sig 2) (osOn x sig 2) (osOff x sig 2) (by first | omega | assumption | (exact hx _ (getD_mem (by omega))) | (exact hx _ (by assumption)) | (exact Nat.le_trans (hx _ (by assumption)) (by omega)) | (simp only [List.length_append, List.length_take, List.length_drop, List.length_cons, List.length_nil]; omega) | (simp_all; done)) (by first | omega | assumption | (exact hx _ (getD_mem (by omega))) | (exact hx _ (by assumption)) | (exact Nat.le_trans (hx _ (by assumption)) (by omega)) | (simp only [List.length_append, List.length_take, List.length_drop, List.length_cons, List.length_nil]; omega) | (simp_all; done))) (.skip _ _ (.skip _ _ .nil)) rfl) ?_
          refine Ch.s (.d (.bool (!(eqO (osOn x sig 2) (osOff x sig 2) (osOn x sig 2) (osOff x sig 2))))) (.pure (.not _ _ rfl rfl)) ?_
          refine Ch.s (.d (.bool (!(eqO (osOn x sig 2) (osOff x sig 2) (osOn x sig 2) (osOff x sig 2))))) (.pure (.move _ rfl rfl)) ?_
          cases h10 : (eqO (osOn x sig 2) (osOff x sig 2) (osOn x sig 2) (osOff x sig 2)) with
          | true =>
           refine Ch.s (.d (.bool (osOk x sig 2))) (.pure (.move _ rfl rfl)) ?_
           refine Ch.s (.d (.bool (osOk x sig 2))) (.pure (.move _ rfl rfl)) ?_
           refine Ch.s (.d (.bool (!(decide ((osOk x sig 2) = (osOk x sig 2)))))) (.pure (.neB _ _ _ _ rfl Tryz.underlying4 rfl rfl)) ?_
           refine Ch.s (.d (.bool (!(decide ((osOk x sig 2) = (osOk x sig 2)))))) (.pure (.pickF _ _ _ rfl rfl rfl)) ?_
           refine Ch.nil ?_
           refine T_cond (b := (!(decide ((osOk x sig 2) = (osOk x sig 2))))) rfl (fun h11 => ?_) (fun h11 => ?_)
           ·
            replace h11 := nott h11
            replace h11 := of_decide_eq_false h11
            refine T_seq ?_
            refine T_region hc ?_
            refine Ch.s (.d (.bool false)) (.pure (.assign _ rfl rfl)) ?_
            refine Ch.nil ?_
            refine T_ret ?_
            refine And.intro (.inr rfl) ?_
            exact Exists.intro [(.d (.bool false))] (Exists.intro [] (Exists.intro [] (And.intro (.cons (.tmp 4 rfl) .nil) (And.intro (.cons (.any _) (.cons (.any _) .nil)) (And.intro (Exp.of (congrArg D.bool (by first | rfl | (simp_all [eqO]; done) | (exfalso; simp_all [eqO]; done) | (exfalso; omega) | (exfalso; simp_all [eqO]; omega))) (.d _)) (And.intro rfl rfl))))))
           ·
            replace h11 := notf h11
            replace h11 := of_decide_eq_true h11
            refine T_skip ?_
            refine T_seq ?_
            refine T_region hc ?_
            refine Ch.s (.d (.int .i64 1)) (.pure (.assign _ rfl rfl)) ?_
            refine Ch.nil ?_
            refine T_seq ?_
            refine T_region hc ?_
            refine Ch.s (.agg [(.row 33000), (.row 33001)]) (.pure (.loadPtrA _ _ rfl ag29 sz29 rfl rfl (Nat.le_of_ble_eq_true rfl) rfl)) ?_
            refine Ch.s (.d (.int .i64 1)) (.pure (.move _ rfl rfl)) ?_
            refine Ch.s (.d (.int .i64 ((1 + (marks 1 (osOn x sig 2).length).length + (marks (1 + (osOn x sig 2).length) (osOff x sig 2).length).length : Nat) : Int))) (.call 95000 24 _ _ _ en24 rfl (.inl rfl) (.cons (.lend (.agg (.cons (.row rfl (frozs_map (fun _ => rfl) _)) (.cons (.row rfl (frozs_map (fun _ => rfl) _)) .nil)) rfl)) (.cons (.d _) .nil)) rfl rfl (sp_laws_heldOnOffSets (marks 1 (osOn x sig 2).length) (marks (1 + (osOn x sig 2).length) (osOff x sig 2).length) 1 (by first | assumption | omega | (rw [List.length_take]; omega) | (have := bulkF_mem hb _ (getD_mem (d := default) (by omega)); assumption) | (unfold bulkS at *; omega) | (simp_all; done)) (by first | assumption | omega | (rw [List.length_take]; omega) | (have := bulkF_mem hb _ (getD_mem (d := default) (by omega)); assumption) | (unfold bulkS at *; omega) | (simp_all; done)) (by first | assumption | omega | (rw [List.length_take]; omega) | (have := bulkF_mem hb _ (getD_mem (d := default) (by omega)); assumption) | (unfold bulkS at *; omega) | (simp_all; done)) (heldq_marks _ _) (by rw [marks_length]; exact heldq_marks _ _)) (.skip _ _ (.skip _ _ .nil)) rfl) ?_
            refine Ch.s (.d (.int .i64 ((1 + (marks 1 (osOn x sig 2).length).length + (marks (1 + (osOn x sig 2).length) (osOff x sig 2).length).length : Nat) : Int))) (.pure (.assign _ rfl rfl)) ?_
            refine Ch.nil ?_
            refine T_seq ?_
            refine T_seq ?_
            refine T_region hc ?_
            refine Ch.s (.d (.int .i64 ((1 + (marks 1 (osOn x sig 2).length).length + (marks (1 + (osOn x sig 2).length) (osOff x sig 2).length).length : Nat) : Int))) (.pure (.move _ rfl rfl)) ?_
            refine Ch.s (.d (.bool (decide (((1 + (marks 1 (osOn x sig 2).length).length + (marks (1 + (osOn x sig 2).length) (osOff x sig 2).length).length : Nat) : Int) < 0)))) (.pure (.int _ _ _ _ _ rfl rfl rfl rfl)) ?_
            refine Ch.nil ?_
            refine T_cond (b := (decide (((1 + (marks 1 (osOn x sig 2).length).length + (marks (1 + (osOn x sig 2).length) (osOff x sig 2).length).length : Nat) : Int) < 0))) rfl (fun h12 => ?_) (fun h12 => ?_)
            ·
             replace h12 := of_decide_eq_true h12
             refine T_seq ?_
             refine T_region hc ?_
             refine Ch.s (.d (.bool false)) (.pure (.assign _ rfl rfl)) ?_
             refine Ch.nil ?_
             refine T_ret ?_
             refine And.intro (.inr rfl) ?_
             exact Exists.intro [(.d (.bool false))] (Exists.intro [] (Exists.intro [] (And.intro (.cons (.tmp 4 rfl) .nil) (And.intro (.cons (.any _) (.cons (.any _) .nil)) (And.intro (Exp.of (congrArg D.bool (by first | rfl | (simp_all [eqO]; done) | (exfalso; simp_all [eqO]; done) | (exfalso; omega) | (exfalso; simp_all [eqO]; omega))) (.d _)) (And.intro rfl rfl))))))
            ·
             replace h12 := of_decide_eq_false h12
             refine T_skip ?_
             refine T_seq ?_
             refine T_seq ?_
             refine T_region hc ?_
             refine Ch.s (.d (.int .i64 ((1 + (marks 1 (osOn x sig 2).length).length + (marks (1 + (osOn x sig 2).length) (osOff x sig 2).length).length : Nat) : Int))) (.pure (.move _ rfl rfl)) ?_
             refine Ch.s (.d (.int .i64 ((1 + (osOn x sig 2).length + (osOff x sig 2).length : Nat) : Int))) (.pure (.move _ rfl rfl)) ?_
             refine Ch.s (.d (.bool (!(decide (((1 + (marks 1 (osOn x sig 2).length).length + (marks (1 + (osOn x sig 2).length) (osOff x sig 2).length).length : Nat) : Int) = ((1 + (osOn x sig 2).length + (osOff x sig 2).length : Nat) : Int)))))) (.pure (.int _ _ _ _ _ rfl rfl rfl rfl)) ?_
             refine Ch.nil ?_
             refine T_cond (b := (!(decide (((1 + (marks 1 (osOn x sig 2).length).length + (marks (1 + (osOn x sig 2).length) (osOff x sig 2).length).length : Nat) : Int) = ((1 + (osOn x sig 2).length + (osOff x sig 2).length : Nat) : Int))))) rfl (fun h13 => ?_) (fun h13 => ?_)
             ·
              replace h13 := nott h13
              replace h13 := of_decide_eq_false h13
              refine T_seq ?_
              refine T_region hc ?_
              refine Ch.s (.d (.bool false)) (.pure (.assign _ rfl rfl)) ?_
              refine Ch.nil ?_
              refine T_ret ?_
              refine And.intro (.inr rfl) ?_
              exact Exists.intro [(.d (.bool false))] (Exists.intro [] (Exists.intro [] (And.intro (.cons (.tmp 4 rfl) .nil) (And.intro (.cons (.any _) (.cons (.any _) .nil)) (And.intro (Exp.of (congrArg D.bool (by first | rfl | (simp_all [eqO]; done) | (exfalso; simp_all [eqO]; done) | (exfalso; omega) | (exfalso; simp_all [eqO]; omega))) (.d _)) (And.intro rfl rfl))))))
             ·
              replace h13 := notf h13
              replace h13 := of_decide_eq_true h13
              refine T_skip ?_
              refine T_seq ?_
              refine T_region hc ?_
              refine Ch.s (.d (.bool true)) (.pure (.assign _ rfl rfl)) ?_
              refine Ch.nil ?_
              refine T_ret ?_
              refine And.intro (.inr rfl) ?_
              exact Exists.intro [(.d (.bool true))] (Exists.intro [] (Exists.intro [] (And.intro (.cons (.tmp 4 rfl) .nil) (And.intro (.cons (.any _) (.cons (.any _) .nil)) (And.intro (.d _) (And.intro rfl rfl))))))
          | false =>
           refine Ch.skip rfl rfl ?_
           refine Ch.skip rfl rfl ?_
           refine Ch.skip rfl rfl ?_
           refine Ch.s (.d (.bool true)) (.pure (.pickT _ _ _ rfl rfl rfl)) ?_
           refine Ch.nil ?_
           refine T_cond (b := true) rfl (fun _ => ?_) (fun h => nomatch h)
           refine T_seq ?_
           refine T_region hc ?_
           refine Ch.s (.d (.bool false)) (.pure (.assign _ rfl rfl)) ?_
           refine Ch.nil ?_
           refine T_ret ?_
           refine And.intro (.inr rfl) ?_
           exact Exists.intro [(.d (.bool false))] (Exists.intro [] (Exists.intro [] (And.intro (.cons (.tmp 4 rfl) .nil) (And.intro (.cons (.any _) (.cons (.any _) .nil)) (And.intro (Exp.of (congrArg D.bool (by first | rfl | (simp_all [eqO]; done) | (exfalso; simp_all [eqO]; done) | (exfalso; omega) | (exfalso; simp_all [eqO]; omega))) (.d _)) (And.intro rfl rfl))))))
      | false =>
       refine Ch.skip rfl rfl ?_
       refine Ch.skip rfl rfl ?_
       refine Ch.skip rfl rfl ?_
       refine Ch.s (.d (.bool true)) (.pure (.pickT _ _ _ rfl rfl rfl)) ?_
       refine Ch.nil ?_
       refine T_cond (b := true) rfl (fun _ => ?_) (fun h => nomatch h)
       refine T_seq ?_
       refine T_region hc ?_
       refine Ch.s (.d (.bool false)) (.pure (.assign _ rfl rfl)) ?_
       refine Ch.nil ?_
       refine T_ret ?_
       refine And.intro (.inr rfl) ?_
       exact Exists.intro [(.d (.bool false))] (Exists.intro [] (Exists.intro [] (And.intro (.cons (.tmp 4 rfl) .nil) (And.intro (.cons (.any _) (.cons (.any _) .nil)) (And.intro (Exp.of (congrArg D.bool (by first | rfl | (simp_all [eqO]; done) | (exfalso; simp_all [eqO]; done) | (exfalso; omega) | (exfalso; simp_all [eqO]; omega))) (.d _)) (And.intro rfl rfl))))))
  | false =>
   refine Ch.skip rfl rfl ?_
   refine Ch.skip rfl rfl ?_
   refine Ch.skip rfl rfl ?_
   refine Ch.s (.d (.bool true)) (.pure (.pickT _ _ _ rfl rfl rfl)) ?_
   refine Ch.nil ?_
   refine T_cond (b := true) rfl (fun _ => ?_) (fun h => nomatch h)
   refine T_seq ?_
   refine T_region hc ?_
   refine Ch.s (.d (.bool false)) (.pure (.assign _ rfl rfl)) ?_
   refine Ch.nil ?_
   refine T_ret ?_
   refine And.intro (.inr rfl) ?_
   exact Exists.intro [(.d (.bool false))] (Exists.intro [] (Exists.intro [] (And.intro (.cons (.tmp 4 rfl) .nil) (And.intro (.cons (.any _) (.cons (.any _) .nil)) (And.intro (Exp.of (congrArg D.bool (by first | rfl | (simp_all [eqO]; done) | (exfalso; simp_all [eqO]; done) | (exfalso; omega) | (exfalso; simp_all [eqO]; omega))) (.d _)) (And.intro rfl rfl))))))

end Go.AM
