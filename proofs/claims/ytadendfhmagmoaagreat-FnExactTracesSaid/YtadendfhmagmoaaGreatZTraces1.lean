/-
  The contracts that the law FnExactTraces needs.
-/
import Derived.Test.YtadendfhmagmoaaGreatAmO
import Derived.Test.YtadendfhmagmoaaGreatProg
import Derived.KernelRfl
import Derived.Test.YtadendfhmagmoaaGreatAmP
import Derived.Test.YtadendfhmagmoaaGreatAmW
import Derived.Test.YtadendfhmagmoaaGreatAmX
import Derived.Test.YtadendfhmagmoaaGreatAmY
import Derived.Test.YtadendfhmagmoaaGreatAmZ
namespace Go.AM
open Go.Proofs
set_option linter.unusedVariables false
set_option linter.unusedSimpArgs false

theorem iX {P : Program} {ρ : Operand → V} {h : Nat → Option Ob} {dst : Option Nat} {op t x y t' a2 b2 c2 d2} {k a b r} (hx : ρ x = .d (.int k a)) (hy : ρ y = .d (.int k b)) (hv : intV op k a b = some r) : Ev P ρ h (Oper.mk dst (.binOp op t x y t') a2 b2 c2 d2) (.d r) {} := .pure (.int _ _ _ _ _ rfl hx hy hv)
theorem lb {n m : Nat} (h : Nat.ble n m = true) : n ≤ m := Nat.le_of_ble_eq_true h
theorem T_condD {P : Program} {c : Ctx} {Q : Exit → St → Prop} {α : St} {k : Operand} {x y : Code} {p : Prop} [Decidable p] (hk : α.ev k = .d (.bool (decide p))) (ht : p → T P c x Q α) (hf : ¬p → T P c y Q α) : T P c (.cond k x y) Q α := T_cond hk (fun h => ht (of_decide_eq_true h)) (fun h => hf (of_decide_eq_false h))
theorem T_condN {P : Program} {c : Ctx} {Q : Exit → St → Prop} {α : St} {k : Operand} {x y : Code} {b : Bool} (hk : α.ev k = .d (.bool (!b))) (ht : b = false → T P c x Q α) (hf : b = true → T P c y Q α) : T P c (.cond k x y) Q α := T_cond hk (fun h => ht (nott h)) (fun h => hf (notf h))
theorem ar {α : Sort _} {x : α} {b : Prop} (k : b) : x = x ∧ b := ⟨rfl, k⟩
theorem eR {P : Program} {rs : List ResultVar} {pvs : List V} {ds' : List D} {r : D} {lend : Bool} {α : St} (vs : List V) (k1 k2 : List Nat) (h1 : ResVs P α rs vs) (h2 : Exps α.ob (fun _ => none) pvs ds' k1) (h3 : Exp α.ob (fun id => if lend = true ∧ id ∉ k1 ++ k2 then α.ob id else none) (packV vs) r k2) (h4 : nodupB (k1 ++ k2) = true := by rfl) (h5 : ((idss pvs).all fun i => α.pin.contains i) = true := by rfl) : (Exit.ret = .normal ∨ Exit.ret = .ret) ∧ Ret P rs pvs ds' r lend α := endR vs k1 k2 h1 h2 h3 h4 h5
theorem odt {p : Prop} [Decidable p] (h : decide p = true) : p := of_decide_eq_true h
theorem odf {p : Prop} [Decidable p] (h : decide p = false) : ¬p := of_decide_eq_false h
@[reducible] def dI (n : Int) : V := .d (.int .i64 n)
@[reducible] def dB (b : Bool) : V := .d (.bool b)
@[reducible] def dS (s : List UInt8) : V := .d (.str s)
theorem pT {P : Program} {ρ : Operand → V} {h : Nat → Option Ob} {dst : Option Nat} {a2 b2 c2 d2} {c x y} (hc : ρ c = .d (.bool true)) : Ev P ρ h (Oper.mk dst (.pick c x y) a2 b2 c2 d2) (ρ x) {} := .pure (.pickT _ _ _ rfl hc rfl)
theorem pF {P : Program} {ρ : Operand → V} {h : Nat → Option Ob} {dst : Option Nat} {a2 b2 c2 d2} {c x y} (hc : ρ c = .d (.bool false)) : Ev P ρ h (Oper.mk dst (.pick c x y) a2 b2 c2 d2) (ρ y) {} := .pure (.pickF _ _ _ rfl hc rfl)
theorem nT {P : Program} {ρ : Operand → V} {h : Nat → Option Ob} {dst : Option Nat} {a2 b2 c2 d2} {t x b} (hx : ρ x = .d (.bool b)) : Ev P ρ h (Oper.mk dst (.unOp .not t x) a2 b2 c2 d2) (.d (.bool (!b))) {} := .pure (.not _ _ rfl hx)
theorem lP {P : Program} {ρ : Operand → V} {h : Nat → Option Ob} {dst : Option Nat} {a2 b2 c2 d2} {t x id off cs v} (ht : AggIs P t false) (hx : ρ x = .ptr id off) (hob : h id = some (.box cs)) (hv : cs[off]? = some v) : Ev P ρ h (Oper.mk dst (.load t x) a2 b2 c2 d2) v {} := .pure (.loadPtr1 _ _ rfl ht hx hob hv)
theorem fP {P : Program} {ρ : Operand → V} {h : Nat → Option Ob} {dst : Option Nat} {a2 b2 c2 d2} {s x f id o0 off n agg} (hf : FieldIs P s f off n agg) (hx : ρ x = .ptr id o0) : Ev P ρ h (Oper.mk dst (.fieldAddr s x f) a2 b2 c2 d2) (.ptr id (o0 + off)) {} := .pure (.fldPtr _ _ _ rfl hf hx)
theorem lA {P : Program} {ρ : Operand → V} {h : Nat → Option Ob} {dst : Option Nat} {a2 b2 c2 d2} {t x id off cs n vs} (ht : AggIs P t true) (hsz : SizeIs P t n) (hx : ρ x = .ptr id off) (hob : h id = some (.box cs)) (hn : off + n ≤ cs.length) (hv : (cs.drop off).take n = vs) : Ev P ρ h (Oper.mk dst (.load t x) a2 b2 c2 d2) (.agg vs) {} := .pure (.loadPtrA _ _ rfl ht hsz hx hob hn hv)
theorem rF {P : Program} {ρ : Operand → V} {h : Nat → Option Ob} {dst : Option Nat} {a2 b2 c2 d2} {t x y} (ht : AggIs P t false) (hx : ρ x = .d (.ref y)) (h1 : y.one = true) : Ev P ρ h (Oper.mk dst (.load t x) a2 b2 c2 d2) (.d y) {} := .pure (.loadRef1 _ _ rfl ht hx h1)
theorem xT {P : Program} {ρ : Operand → V} {h : Nat → Option Ob} {dst : Option Nat} {a2 b2 c2 d2} {x n vs v} (hx : ρ x = .tup vs) (hv : vs[n]? = some v) : Ev P ρ h (Oper.mk dst (.extract x n) a2 b2 c2 d2) v {} := .pure (.extract _ rfl hx hv)
theorem Tz {P : Program} {c : Ctx} {Q : Exit → St → Prop} {α : St} {id : Nat} {l : List Oper} (hc : CtxOK c) (h : Ch P l.toArray (fun α' => Q .normal α') l α) : T P c (.region id l.toArray false) Q α := T_region hc h
theorem Tb {P : Program} {c : Ctx} {Q : Exit → St → Prop} {α : St} {id : Nat} {x : Code} (h : T P c x (blockQ id Q) α) : T P c (.block id x) Q α := T_block h
theorem Tk {P : Program} {c : Ctx} {Q : Exit → St → Prop} {α : St} (h : Q .normal α) : T P c .skip Q α := T_skip h
theorem Tq {P : Program} {c : Ctx} {Q : Exit → St → Prop} {α : St} {x y : Code} (h : T P c x (thenQ (T P c y Q) Q) α) : T P c (.seq x y) Q α := T_seq h
theorem Ts {P : Program} {c : Ctx} {Q : Exit → St → Prop} {α : St} {id : Nat} {l : List Oper} {y : Code} (hc : CtxOK c) (h : Ch P l.toArray (fun α' => thenQ (T P c y Q) Q .normal α') l α) : T P c (.seq (.region id l.toArray false) y) Q α := T_seq (T_region hc h)
theorem Ck {P : Program} {all : Array Oper} {K : St → Prop} {o : Oper} {rest : List Oper} {α : St} (r : Ch P all K rest (α.put o.dst (.c undef))) (hw : wantA all α o = some false := by rfl) (hd : dstB o α.n = true := by rfl) : Ch P all K (o :: rest) α := .skip hw hd r
theorem eA {h hb : Nat → Option Ob} {v : V} : Exps h hb [v] [D.any] [] := .cons (.any _) .nil
theorem eB {h hb : Nat → Option Ob} {v w : V} : Exps h hb [v, w] [D.any, D.any] [] := .cons (.any _) (.cons (.any _) .nil)
theorem eC {h hb : Nat → Option Ob} {v w x : V} : Exps h hb [v, w, x] [D.any, D.any, D.any] [] := .cons (.any _) (.cons (.any _) (.cons (.any _) .nil))
theorem a73 {p : Prop} (h : p := by first | assumption | omega) : p := h
theorem a72 {p : Prop} (h : p := by cases x; cases y; simp_all) : p := h
theorem a71 {p : Prop} (h : p := by unfold trOk; rw [h1, h2, h3]; rfl) : p := h
theorem a70 {p : Prop} (h : p := by intro S w; rw [DR]; exact ⟨rfl, rfl⟩) : p := h
theorem a69 {p : Prop} (h : p := by exact eqL_at default k (by assumption)) : p := h
theorem a68 {p : Prop} (h : p := by first | assumption | exact setL_rising _ _) : p := h
theorem a67 {p : Prop} (h : p := by first | rfl | omega | (simp; done) | (simp; omega)) : p := h
theorem a66 {p : Prop} (h : p := by first | rfl | (rw [show k = x.arcs.length by omega])) : p := h
theorem a65 {p : Prop} (h : p := by first | rfl | (exact push rfl (steps_take (by omega)))) : p := h
theorem a64 {p : Prop} (h : p := by first | assumption | (unfold arcB codeAt; simp_all; done)) : p := h
theorem a63 {p : Prop} (h : p := by rw [D.solid]; exact solids_c (solid_row (fun _ => rfl) _) rfl) : p := h
theorem a62 {p : Prop} (h : p := by exact eqL_all default (by omega) (fun j hj => hp0.2 j (by omega))) : p := h
theorem a61 {p : Prop} (h : p := by first | (exact metIt_start x) | (rw [metTo_all x k (by omega)]; done)) : p := h
theorem a60 {p : Prop} (h : p := by exact (ixF_none (d := default) (fun j hj => hp0.2 j (by omega))).symm) : p := h
theorem a59 {p : Prop} (h : p := by first | rfl | (exact congrArg (List.map D.str) (putSk_end (by omega)))) : p := h
theorem a58 {p : Prop} (h : p := by first | (rw [sumF_zero]; omega) | (rw [sumF_succ _ (by omega)]; omega)) : p := h
theorem a57 {p : Prop} (h : p := by first | (rw [sumTo_zero]; omega) | (rw [sumTo_succ (by omega)]; omega)) : p := h
theorem a56 {p : Prop} (h : p := by first | (simp_all [edgeB, lab_eq]; done) | (simp_all [edgeB, lab_eq]; omega)) : p := h
theorem a55 {p : Prop} (h : p := by first | (exact wrd_up h0 (by assumption)) | (exact wrd_down h0 (by assumption))) : p := h
theorem a54 {p : Prop} (h : p := by first | assumption | exact zero_in hx | exact (stO_ok hme.tok.ok (by omega)).inn) : p := h
theorem a53 {p : Prop} (h : p := by first | rfl | (exact congrArg (List.map Trc.u) (mor_next (by omega) (by omega)))) : p := h
theorem a52 {p : Prop} (h : p := by first | omega | (simp only [List.length_map, List.length_set]; omega) | (simp; omega)) : p := h
theorem a51 {p : Prop} (h : p := by first | assumption | exact zero_in hx | (exact fun a ha => hto.2.2.1 a (tidI_mem.1 ha))) : p := h
theorem a50 {p : Prop} (h : p := by first | assumption | exact (zero_ok hx).rise | exact (stO_ok hme.tok.ok (by omega)).rise) : p := h
theorem a49 {p : Prop} (h : p := by show _ = szR (bulkF Sgn.bulk x.sigs + bulkS x.codes + bulkF Arc.bulk x.arcs) left; omega) : p := h
theorem a48 {p : Prop} (h : p := by first | (rw [marked_zero]; done) | (rw [← marked_set xs k (by omega), List.map_set]; done)) : p := h
theorem a47 {p : Prop} (h : p := by first | rfl | (rw [show k = x.arcs.length by omega]; rfl) | (rw [stl_next (by omega)]; done)) : p := h
theorem a46 {p : Prop} (h : p := by first | assumption | omega | (rw [List.length_take]; omega) | (rw [List.length_drop]; omega)) : p := h
theorem a45 {p : Prop} (h : p := by first | rfl | contradiction | (exfalso; omega) | (simp_all; done) | (exfalso; simp_all; omega)) : p := h
theorem a44 {p : Prop} (h : p := by first | (exact congrArg (List.map Trc.u) (stO_zero x hid _).symm) | (exact stO_step (by omega) _)) : p := h
theorem a43 {p : Prop} (h : p := by first | (simp [List.map_take, List.map_drop]; done) | (rw [List.take_length, List.map_drop]; done)) : p := h
theorem a42 {p : Prop} (h : p := by first | (rw [adjTo_zero, List.map_replicate]; rfl) | (rw [adjTo_succ (by omega), linked]; exact set_holeI)) : p := h
theorem a41 {p : Prop} (h : p := by first | (rw [List.map_drop, List.take_of_length_le (by simp)]; done) | (simp [List.map_take, List.map_drop]; done)) : p := h
theorem a40 {p : Prop} (h : p := by first | (exact congrArg (List.map Trc.u) (setT_zero' t.pos (by omega))) | (exact setT_step (by omega) (by omega) _)) : p := h
theorem a39 {p : Prop} (h : p := by first | (rw [fill_zero, List.map_replicate]; done) | (rw [← fill_set xs [] default (by omega), List.map_set]; done)) : p := h
theorem a38 {p : Prop} (h : p := by first | (rw [fill_zero, List.map_replicate]; rfl) | (rw [← fill_set xs default default (by omega), List.map_set]; rfl)) : p := h
theorem a37 {p : Prop} (h : p := by first | rfl | (rw [show m = ((adjTo n l l.length).getD (q.1.2.getD q.2 default).toNat default).length by omega] <;> rfl)) : p := h
theorem a36 {p : Prop} (h : p := by first | (rw [sigOk, h2, h3, any_take (by omega) (by omega) hp1.2]; rfl) | (simp_all [sigOk]; done) | (simp_all [sigOk]; omega)) : p := h
theorem a35 {p : Prop} (h : p := by first | rfl | (exact metTo_yes (by omega) (by assumption)) | (exact congrArg (List.map _) (metTo_no (by omega) (by assumption)))) : p := h
theorem a34 {p : Prop} (h : p := by first | (exact putT_hit (by omega) hp0.2 (by assumption) (by assumption) (by omega)) | (exact putT_out (fun j hj => hp0.2 j (by omega)))) : p := h
theorem a33 {p : Prop} (h : p := by first | omega | (simp only [List.length_append, List.length_map, List.length_cons, List.length_nil]; omega) | (simp; omega) | (simp; done)) : p := h
theorem a32 {p : Prop} (h : p := by first | (have hal := sumF_all Sgn.bulk (xs := xs) (k := k) (by omega); rw [szR, bulkF]; split <;> omega) | (rw [szR, bulkF]; split <;> omega)) : p := h
theorem a31 {p : Prop} (h : p := by first | (rw [codeN, allB_no k (by omega) (by simp_all [codeCh])]; rfl) | (rw [codeN, allB_of (fun j hj => hp0.2 j (by omega)), Bool.true_and])) : p := h
theorem a30 {p : Prop} (h : p := by first | (rw [codeN, allB_no k (by omega) (by simp_all [codeCh])]; rfl) | (rw [codeN, allB_of (fun j hj => hp0.2 j (by omega)), Bool.true_and]; done)) : p := h
theorem a29 {p : Prop} (h : p := by first | rfl | (rw [List.map_set]; done) | (rw [show m = ((adjTo n l l.length).getD (q.1.2.getD q.2 default).toNat default).length by omega] <;> rfl)) : p := h
theorem a28 {p : Prop} (h : p := by first | (rw [heldR, heldB, allB_no m (by omega) (by simp_all)]; rfl) | (rw [heldR, heldB, allB_of (fun j hj => hp0.2 j (by omega)), if_pos rfl]; omega)) : p := h
theorem a27 {p : Prop} (h : p := by first | rfl | (rw [relaxTo_succ (by omega), relax, if_pos (by assumption), List.map_set]) | (rw [relaxTo_succ (by omega), relax, if_neg (by assumption)])) : p := h
theorem a26 {p : Prop} (h : p := by first | rfl | (rw [relaxTo_succ (by omega), relax, if_pos (by assumption), List.map_append]; rfl) | (rw [relaxTo_succ (by omega), relax, if_neg (by assumption)])) : p := h
theorem a25 {p : Prop} (h : p := by first | assumption | omega | trivial | (simp_all; done) | (exact fun _ _ => trivial) | (exact hx _ (by assumption)) | (refine ⟨?_, ?_⟩ <;> first | assumption | omega)) : p := h
theorem a24 {p : Prop} (h : p := by first | omega | (simp only [List.length_map, List.length_append, List.length_take, List.length_drop, List.length_cons, List.length_nil]; omega) | (simp; omega) | (simp; done)) : p := h
theorem a23 {p : Prop} (h : p := by first | rfl | (rw [List.set_set, List.map_set]; rfl) | (rw [List.set_set, List.set_set, List.map_set]; rfl) | (rw [List.set_set, List.set_set, List.set_set, List.map_set]; rfl)) : p := h
theorem a22 {p : Prop} (h : p := by first | (rw [wrdE, if_pos (by assumption)]; done) | (rw [wrdE, if_neg (by assumption), if_pos (by assumption)]; done) | (rw [wrdE, if_neg (by assumption), if_neg (by simp_all)]; done)) : p := h
theorem a21 {p : Prop} (h : p := by first | assumption | omega | (rw [List.length_take]; omega) | (have := bulkF_mem hb _ (getD_mem (d := default) (by omega)); assumption) | (unfold bulkS at *; omega) | (simp_all; done)) : p := h
theorem a20 {p : Prop} (h : p := by first | (rw [sigsB, allB_no k (by omega) (by first | (simp_all [sigOk]; done) | (simp_all [sigOk]; omega))] <;> rfl) | (rw [sigsB, allB_of (fun j hj => hp0.2 j (by omega)), Bool.true_and]; done)) : p := h
theorem a19 {p : Prop} (h : p := by first | (simp only [fitCh, *, if_true, if_false, reduceIte, decide_true, decide_false, Bool.and_true, Bool.true_and, Bool.and_false, Bool.false_and, Bool.not_true, Bool.not_false]; done) | (simp_all [fitCh]; done)) : p := h
theorem a18 {p : Prop} (h : p := by first | rfl | (exact af_yes (by omega) (by assumption) (by assumption) (by assumption)) | (exact af_no1 (by omega) (by assumption)) | (exact af_no2 (by omega) (sil_1 (by assumption))) | (exact af_no2 (by omega) (sil_2 (by assumption)))) : p := h
theorem a17 {p : Prop} (h : p := by first | (rw [sigsB, allB_no k (by omega) (by first | (rw [sigOk, h2, h3, ← hy]; done) | (rw [sigOk, h2, h3, ← hy]; rfl) | (simp_all [sigOk]; done) | (simp_all [sigOk]; omega))] <;> rfl) | (rw [sigsB, allB_of (fun j hj => hp0.2 j (by omega)), Bool.true_and]; done)) : p := h
theorem a16 {p : Prop} (h : p := by first | omega | assumption | (exact hx _ (getD_mem (by omega))) | (exact hx _ (by assumption)) | (exact Nat.le_trans (hx _ (by assumption)) (by omega)) | (simp only [List.length_append, List.length_take, List.length_drop, List.length_cons, List.length_nil]; omega) | (simp_all; done)) : p := h
theorem a15 {p : Prop} (h : p := by first | rfl | (rw [stl_put (by omega) (by first | exact sil_1 (by assumption) | exact sil_2 (by assumption)) (by assumption)]; done) | (exact congrArg (List.map _) (stl_out (by omega) (by assumption))) | (exact congrArg (List.map _) (stl_vis (by omega) (sil_no (by assumption) (by assumption))))) : p := h
theorem a14 {p : Prop} (h : p := by first | (exact congrArg (List.map _) (put15_same (k := k) (by omega) (by assumption))) | (rw [← put15_new hr (k := k) (by omega) hp0.2 (fun hl => by first | assumption | (exfalso; omega)) (fun hl => by first | assumption | (exfalso; omega))]; simp only [List.map_append, List.map_take, List.map_drop]; rfl)) : p := h
theorem a13 {p : Prop} (h : p := by first | (exact met_no hn hen (k := k) (by omega) m (by omega) (by assumption)) | (exact met_yes hn hen (k := k) (by omega) (fun j hj => hp2.2 j (by clear hp2; omega))) | (have hge : x.codes.length ≤ m := (by omega); exact met_yes hn hen (k := k) (by omega) (fun j hj => hp2.2 j (Nat.lt_of_lt_of_le hj hge)))) : p := h
theorem a12 {p : Prop} (h : p := by first | rfl | (exact congrArg (List.map Trc.u) (mor_yes (by omega) (by assumption) (by assumption) (by assumption))) | (exact congrArg (List.map Trc.u) (mor_no1 (by omega) (by first | exact sil_1 (by assumption) | exact sil_2 (by assumption)))) | (exact congrArg (List.map Trc.u) (mor_no2 (by omega) (by assumption)))) : p := h
theorem a11 {p : Prop} (h : p := by first | (exact congrArg (List.map _) (putI_same (k := k) (by omega) (by assumption))) | (rw [← putI_new hr (k := k) (by omega) hp0.2 (fun hl => by first | assumption | (intro e; omega) | omega) (fun hl => by first | assumption | (intro e; omega) | omega)]; simp only [List.map_append, List.map_take, List.map_drop]; rfl)) : p := h
theorem a10 {p : Prop} (h : p := by first | (rw [sgB, h1]; rfl) | (rw [sgB, h1, h2]; rfl) | (rw [sgB, h1, h2, decide_eq_true (by omega)]; rfl) | (exact (sg_no_code (k := k) (by omega) (by assumption)).symm) | (exact (sg_no_arc (k := m) (by omega) a64).symm) | (exact sg_end h1 h2 (by omega) hcl hal)) : p := h
theorem a9 {p : Prop} (h : p := by first | (rw [fitB, allB_no k (by omega) a19]; done) | (rw [fitB, allB_of (fun j hj => hp0.2 j (by omega))]; done)) : p := h
theorem a8 {p : Prop} (h : p := by first | (rw [sgB, h1]; rfl) | (rw [sgB, h1, h2]; rfl) | (rw [sgB, h1, h2, decide_eq_true (by omega)]; rfl) | (exact (sg_no_code (k := k) (by omega) (by assumption)).symm) | (exact (sg_no_arc (k := m) (by omega) a64).symm) | (rw [← sg_end h1 h2 (by omega) hcl hal]; done) | (exact sg_end h1 h2 (by omega) hcl hal)) : p := h
theorem a7 {p : Prop} (h : p := by first | (rw [show frozs (xs.map D.str) = (xs.map D.str) from (frozs_map (fun _ => rfl) _), List.map_drop, List.take_of_length_le (by simp)]; done) | (rw [show frozs (xs.map D.str) = (xs.map D.str) from (frozs_map (fun _ => rfl) _)]; simp [List.map_take, List.map_drop]; done) | (rw [show frozs (xs.map D.str) = (xs.map D.str) from (frozs_map (fun _ => rfl) _), ← List.map_take, ← List.map_drop]; done)) : p := h
theorem a6 {p : Prop} (h : p := by first | rfl | (exact push rfl (row_yes (by omega) (by rw [← hvc]; assumption) (by first | exact sil_1 (by assumption) | exact sil_2 (by assumption)) (by assumption))) | (exact congrArg (List.map _) (row_no1 (by omega) (by rw [← hvc]; assumption))) | (exact congrArg (List.map _) (row_no2 (by omega) (sil_no (by assumption) (by assumption)))) | (exact congrArg (List.map _) (row_no3 (by omega) (by assumption)))) : p := h
theorem a5 {p : Prop} (h : p := by first | (rw [arcB, h1]; rfl) | (rw [arcB, h1, h2]; rfl) | (rw [arcB, h1, h2, h3]; rfl) | (rw [arcB, h1, h2, h3, hf4]; rfl) | (rw [arcB, h1, h2, h3, hf5]; unfold codeAt setCh; simp only [*, decide_true, decide_false, Bool.true_and, Bool.false_and]; done) | (rw [arcB, h1, h2, h3, hf5]; unfold codeAt setCh; rw [decide_eq_true h5]; rfl) | (rw [arcB, h1, h2, h3, hf5]; unfold codeAt setCh; rw [decide_eq_false h5]; rfl)) : p := h
theorem a4 {p : Prop} (h : p := by first | (rw [nameCh, letB, digB]; simp only [*, decide_true, decide_false, Bool.and_true, Bool.true_and, Bool.and_false, Bool.false_and, Bool.or_false, Bool.false_or, Bool.or_true, Bool.true_or, Bool.not_true, Bool.not_false, not_false_eq_true]; done) | (rw [nameCh, letB, digB_n]; simp only [*, decide_true, decide_false, Bool.and_true, Bool.true_and, Bool.and_false, Bool.false_and, Bool.or_false, Bool.false_or, Bool.or_true, Bool.true_or, Bool.not_true, Bool.not_false, not_false_eq_true]; done)) : p := h
theorem a3 {p : Prop} (h : p := by first | (exact (tr_over hx hct (by omega) (by omega)).1.symm) | (exact congrArg (List.map D.str) (tr_over hx hct (by omega) (by omega)).2) | (exact (tr_end hx ho hp0 (by omega)).1) | (exact congrArg (List.map D.str) (tr_end hx ho hp0 (by omega)).2) | (first | (exact (tr_bad1 (by assumption)).1) | (exact congrArg (List.map D.str) (tr_bad1 (by assumption)).2) | (exact (tr_bad2 (by assumption)).1) | (exact congrArg (List.map D.str) (tr_bad2 (by assumption)).2) | (exact (tr_bad3 (by assumption)).1) | (exact congrArg (List.map D.str) (tr_bad3 (by assumption)).2))) : p := h
theorem a2 {p : Prop} (h : p := by first | (rw [nameB, allB_no k (by omega) a4]; rfl) | (rw [nameB, allB_of (fun j hj => hp0.2 j (by omega)), Bool.true_and]; done)) : p := h
theorem a1 {p : Prop} (h : p := by first | (exact (ts_over' hx (k := k) (m := m) (by omega) (by omega) (by omega)).1) | (exact congrArg (List.map D.str) (ts_over' hx (k := k) (m := m) (by omega) (by omega) (by omega)).2) | (exact (ts_end' ho (k := k) (m := m) (by omega) (by omega) (by omega) (by omega)).1) | (exact congrArg (List.map D.str) (ts_end' ho (k := k) (m := m) (by omega) (by omega) (by omega) (by omega)).2) | (first | (exact (tr_bad1 (by assumption)).1) | (exact congrArg (List.map D.str) (tr_bad1 (by assumption)).2) | (exact (tr_bad2 (by assumption)).1) | (exact congrArg (List.map D.str) (tr_bad2 (by assumption)).2) | (exact (tr_bad3 (by assumption)).1) | (exact congrArg (List.map D.str) (tr_bad3 (by assumption)).2))) : p := h

def bitN (up : Bool) : UInt8 := if up then 49 else 48

def withinB (n lo hi : Int) : Bool := decide (lo ≤ n) && decide (n ≤ hi)

theorem sp_impl_within (n lo hi : Int) : Sp Tryz.prog 25 [(.int .i64 n), (.int .i64 lo), (.int .i64 hi)] [.any, .any, .any] (.bool (withinB n lo hi)) := by
 refine Sp_intro (lend := true) Tryz.func25 rfl rfl rfl (fun _ => rfl) (fun c hc hX => ?_)
 refine Ts hc (Ch.s (dB false) pa (Ch.nil (Ts hc (Ch.s (dI lo) pm (Ch.s (dI n) pm ?_)))))
 refine Ch.s (dB (decide (lo ≤ n))) (iX rfl rfl rfl) (Ch.s (dB (decide (lo ≤ n))) pm ?_)
 cases h1 : (decide (lo ≤ n)) with
 | true =>
  replace h1 := odt h1
  refine Ch.s (dI n) pm (Ch.s (dI hi) pm (Ch.s (dB (decide (n ≤ hi))) (iX rfl rfl rfl) (Ch.s (dB (decide (n ≤ hi))) (pT rfl) (Ch.s (dB (decide (n ≤ hi))) pa (Ch.nil (T_ret ?_))))))
  exact eR [(dB (decide (n ≤ hi)))] [] [] (.cons (.tmp 6 rfl) .nil) eC (Exp.of (congrArg D.bool (by simp [withinB] <;> omega)) (.d _))
 | false =>
  replace h1 := odf h1
  refine Ck (Ck (Ck (Ch.s (dB false) (pF rfl) (Ch.s (dB false) pa (Ch.nil (T_ret ?_))))))
  exact eR [(dB false)] [] [] (.cons (.tmp 6 rfl) .nil) eC (Exp.of (congrArg D.bool (by simp [withinB] <;> omega)) (.d _))

theorem sp_spec_l1In (n lo hi : Int) : Sp Tryz.prog 17 [(.int .i64 n), (.int .i64 lo), (.int .i64 hi)] [.any, .any, .any] (.bool (withinB n lo hi)) := by
 refine Sp_intro (lend := true) Tryz.func17 rfl rfl rfl (fun _ => rfl) (fun c hc hX => ?_)
 refine Ts hc (Ch.s (dB false) pa (Ch.nil (Ts hc (Ch.s (dI n) pm (Ch.s (dI lo) pm ?_)))))
 refine Ch.s (dB (decide (lo ≤ n))) (iX rfl rfl rfl) (Ch.s (dB (decide (lo ≤ n))) pm ?_)
 cases h1 : (decide (lo ≤ n)) with
 | true =>
  replace h1 := odt h1
  refine Ch.s (dI n) pm (Ch.s (dI hi) pm (Ch.s (dB (decide (n ≤ hi))) (iX rfl rfl rfl) (Ch.s (dB (decide (n ≤ hi))) (pT rfl) (Ch.s (dB (decide (n ≤ hi))) pa (Ch.nil (T_ret ?_))))))
  exact eR [(dB (decide (n ≤ hi)))] [] [] (.cons (.tmp 6 rfl) .nil) eC (Exp.of (congrArg D.bool (by simp [withinB] <;> omega)) (.d _))
 | false =>
  replace h1 := odf h1
  refine Ck (Ck (Ck (Ch.s (dB false) (pF rfl) (Ch.s (dB false) pa (Ch.nil (T_ret ?_))))))
  exact eR [(dB false)] [] [] (.cons (.tmp 6 rfl) .nil) eC (Exp.of (congrArg D.bool (by simp [withinB] <;> omega)) (.d _))

def meetOf (x y : UInt8) : UInt8 := if x = y ∨ y = 45 then x else y

def meetS (a b : List UInt8) (k : Nat) : List UInt8 := tab k fun j => meetOf (a.getD j 0) (b.getD j 0)

@[simp] theorem meetS_length (a b : List UInt8) (k : Nat) : (meetS a b k).length = k := by simp [meetS]

theorem sz9 : SizeIs Tryz.prog 9 1 := by unfold SizeIs; kernel_rfl

theorem ag9 : AggIs Tryz.prog 9 false := by unfold AggIs; kernel_rfl

theorem zr9 : (Tryz.prog.info? 9).bind (·.zero) = some (.string .empty) := by kernel_rfl

theorem sty23 : SlotTy Tryz.prog 23 9 1 16 := slotTy_mk (by kernel_rfl)

theorem sp_laws_szStringS (xs : List (List UInt8)) (left : Int) (h0 : 0 ≤ left) (h0u : left ≤ 1048576) (hn : xs.length ≤ 9223372036854775807) (hx : ∀ x ∈ xs, x.length ≤ 9223372036854775807) : Sp Tryz.prog 14 [(.slice false 1 (xs.map D.str)), (.int .i64 left)] [.any, .any] (.int .i64 (szS xs left)) := by
 refine Sp_intro (lend := true) Tryz.func14 rfl rfl rfl (fun _ => rfl) (fun c hc hX => ?_)
 refine Ts hc (Ch.s (dI 0) pa (Ch.nil (Ts hc (Ch.s (dI left) pm (Ch.s (.d (.slice false 1 (xs.map D.str))) pm ?_)))))
 refine Ch.s (dI (xs.length : Int)) (.pure (.len _ _ 9 rfl Tryz.underlying23 (.sh _ _) (by simp))) (Ch.s (dI (left - (xs.length : Int))) (iX rfl rfl intV_subA) (Ch.s (dI (left - (xs.length : Int))) pa (Ch.nil (Tq (Ts hc (Ch.s (dI (left - (xs.length : Int))) pm ?_))))))
 refine Ch.s (dB (decide ((left - (xs.length : Int)) < 0))) (iX rfl rfl rfl) (Ch.nil ?_)
 refine T_condD (p := ((left - (xs.length : Int)) < 0)) rfl (fun h1 => ?_) (fun h1 => ?_)
 ·
  refine Ts hc (Ch.s (dI (-1)) pa (Ch.nil (T_ret ?_)))
  exact eR [(dI (-1))] [] [] (.cons (.tmp 4 rfl) .nil) eB (Exp.of (congrArg (D.int .i64) (by rw [szS, if_neg (by unfold bulkS; omega)])) (.d _))
 ·
  refine Tk (Tq (Ts hc (Ch.s (dI 0) pa (Ch.nil (Tb ?_)))))
  refine T_loop (ι := Nat) (fun k => { n := 28, sl := [(0, (.d (.slice false 1 (xs.map D.str)))), (1, (dI (left - xs.length - sumTo xs k))), (5, (dI (k : Int)))], hp := [], pin := [] }) (fun k => k ≤ xs.length ∧ 0 ≤ left - xs.length - sumTo xs k) (fun k => xs.length - k) ⟨0, ⟨by omega, by rw [sumTo_zero]; omega⟩, (Wk.of rfl rfl (ar (ai (vI a57) (ai (vI a67) trivial))) trivial)⟩ (fun k hp0 => ?_)
  refine Tq (Ts hc (Ch.s (dI (k : Int)) pm (Ch.s (.d (.slice false 1 (xs.map D.str))) pm (Ch.s (dI (xs.length : Int)) (.pure (.len _ _ 9 rfl Tryz.underlying23 (.sh _ _) (by simp))) (Ch.s (dB (decide ((k : Int) < (xs.length : Int)))) (iX rfl rfl rfl) (Ch.nil ?_))))))
  refine T_condD (p := ((k : Int) < (xs.length : Int))) rfl (fun h2 => ?_) (fun h2 => ?_)
  ·
   try have hk := hx _ (getD_mem (l := xs) (j := k) (d := default) (by omega))
   refine Tk (Tq (Tb (Ts hc (Ch.s (dI (left - xs.length - sumTo xs k)) pm (Ch.s (.d (.slice false 1 (xs.map D.str))) pm (Ch.s (dI (k : Int)) pm ?_))))))
   refine Ch.s (.d (.ref (.str (xs.getD k default)))) (.pure (.idx _ _ _ 9 (k) rfl Tryz.underlying23 sz9 rfl rfl rfl get_mapA)) (Ch.s (dS (xs.getD k default)) (rF ag9 rfl rfl) (Ch.s (dI ((xs.getD k default).length : Int)) (.pure (.lenStr _ _ rfl Tryz.underlying9 rfl)) (Ch.s (dI ((left - xs.length - sumTo xs k) - ((xs.getD k default).length : Int))) (iX rfl rfl intV_subA) (Ch.s (dI ((left - xs.length - sumTo xs k) - ((xs.getD k default).length : Int))) pa (Ch.nil (Tq (Tz hc ?_)))))))
   refine Ch.s (dI ((left - xs.length - sumTo xs k) - ((xs.getD k default).length : Int))) pm (Ch.s (dB (decide (((left - xs.length - sumTo xs k) - ((xs.getD k default).length : Int)) < 0))) (iX rfl rfl rfl) (Ch.nil ?_))
   refine T_condD (p := (((left - xs.length - sumTo xs k) - ((xs.getD k default).length : Int)) < 0)) rfl (fun h3 => ?_) (fun h3 => ?_)
   ·
    refine Ts hc (Ch.s (dI (-1)) pa (Ch.nil (T_ret ?_)))
    exact eR [(dI (-1))] [] [] (.cons (.tmp 4 rfl) .nil) eB (Exp.of (congrArg (D.int .i64) (by rw [szS, if_neg (by have h4 := sumTo_le xs (k + 1); rw [sumTo_succ (by omega)] at h4; unfold bulkS; omega)])) (.d _))
   ·
    refine Tk (Tz hc (Ch.s (dI (k : Int)) pm (Ch.s (dI ((k : Int) + 1)) (iX rfl rfl intV_addA) (Ch.s (dI ((k : Int) + 1)) pa (Ch.nil ?_)))))
    exact nx (k + 1) ⟨by omega, by rw [sumTo_succ (by omega)]; omega⟩ (Wk.of rfl rfl (ar (ai (vI a57) (ai (vI a67) trivial))) trivial)
  ·
   try have hk := hx _ (getD_mem (l := xs) (j := k) (d := default) (by omega))
   refine T_exit (Ts hc (Ch.s (dI (left - xs.length - sumTo xs k)) pm (Ch.s (dI (left - xs.length - sumTo xs k)) pa (Ch.nil (T_ret ?_)))))
   exact eR [(dI (left - xs.length - sumTo xs k))] [] [] (.cons (.tmp 4 rfl) .nil) eB (Exp.of (congrArg (D.int .i64) (by have h4 := sumTo_all (xs := xs) (k := k) (by omega); rw [szS, if_pos (by unfold bulkS; omega)]; unfold bulkS; omega)) (.d _))

theorem sp_laws_toStringS (xs : List (List UInt8)) (hn : xs.length ≤ 1048576) : Sp Tryz.prog 22 [(.slice false 1 (xs.map D.str))] [.any] (.slice true 1 (xs.map D.str)) := by
 refine Sp_intro (lend := true) Tryz.func22 rfl rfl rfl (fun _ => rfl) (fun c hc hX => ?_)
 refine Ts hc (Ch.s (.c (.slice none 0 0)) pa (Ch.nil (Ts hc (Ch.s (.d (.slice false 1 (xs.map D.str))) pm (Ch.s (dI (xs.length : Int)) (.pure (.len _ _ 9 rfl Tryz.underlying23 (.sh _ _) (by simp))) ?_)))))
 refine Ch.s (.row 7000) (.make 7000 _ 9 _ _ (xs.length) (xs.length) rfl sty23 rfl rfl rfl rfl a24 a24 a24 (zeroD_mk (zd := (.str [])) zr9 a70 rfl)) (Ch.s (.row 7000) pa (Ch.nil (Tq (Ts hc (Ch.s (dI 0) pa (Ch.nil ?_))))))
 refine Tb ?_
 refine T_loop (ι := Nat) (fun k => { n := 22, sl := [(0, (.d (.slice false 1 (xs.map D.str)))), (3, (.row 3)), (4, (dI (k : Int)))], hp := [(3, (some (.row 1 ((fill xs [] k).map D.str))))], pin := [] }) (fun k => k ≤ xs.length) (fun k => xs.length - k) ⟨0, (by omega), (Wk.ren [(3, 7000)] rfl rfl rfl rfl (ar (ar (ai (vI a67) trivial))) (ai (oR a39) trivial))⟩ (fun k hp0 => ?_)
 refine Tq (Ts hc (Ch.s (dI (k : Int)) pm (Ch.s (.d (.slice false 1 (xs.map D.str))) pm (Ch.s (dI (xs.length : Int)) (.pure (.len _ _ 9 rfl Tryz.underlying23 (.sh _ _) (by simp))) (Ch.s (dB (decide ((k : Int) < (xs.length : Int)))) (iX rfl rfl rfl) (Ch.nil ?_))))))
 refine T_condD (p := ((k : Int) < (xs.length : Int))) rfl (fun h1 => ?_) (fun h1 => ?_)
 ·
  refine Tk (Tq (Tb (Tz hc (Ch.s (.row 3) pm (Ch.s (dI (k : Int)) pm (Ch.s (.d (.slice false 1 (xs.map D.str))) pm (Ch.s (dI (k : Int)) pm ?_)))))))
  refine Ch.s (.d (.ref (.str (xs.getD k default)))) (.pure (.idx _ _ _ 9 (k) rfl Tryz.underlying23 sz9 rfl rfl rfl get_mapA)) (Ch.s (dS (xs.getD k default)) (rF ag9 rfl rfl) (Ch.s (.el 3 1 k 0) (.pure (.idxRow _ _ _ 9 (k) rfl Tryz.underlying23 sz9 rfl rfl rfl rfl a52)) (Ch.s .junk (.storeEl (y' := (.str (xs.getD k default))) _ _ _ rfl rfl rfl (.d _) rfl sz9 rfl get_mapA rfl rfl) (Ch.nil (Tz hc (Ch.s (dI (k : Int)) pm (Ch.s (dI ((k : Int) + 1)) (iX rfl rfl intV_addA) ?_)))))))
  refine Ch.s (dI ((k : Int) + 1)) pa (Ch.nil ?_)
  exact nx (k + 1) (by omega) (Wk.of rfl rfl (ar (ar (ai (vI a67) trivial))) (ai (oR a39) trivial))
 ·
  refine T_exit (Ts hc (Ch.s (.row 3) pm (Ch.s (.row 3) pa (Ch.nil (T_ret ?_)))))
  exact eR [(.row 3)] [] [3] (.cons (.tmp 2 rfl) .nil) eA (Exp.of (congrArg (D.slice true 1) (by rw [fill_all xs [] (by omega)])) (.row rfl))

theorem sp_laws_eqStringS (xs ys : List (List UInt8)) (hn : xs.length ≤ 1048576) : Sp Tryz.prog 8 [(.slice false 1 (xs.map D.str)), (.slice false 1 (ys.map D.str))] [.any, .any] (.bool (decide (xs = ys))) := by
 refine Sp_intro (lend := true) Tryz.func8 rfl rfl rfl (fun _ => rfl) (fun c hc hX => ?_)
 refine Ts hc (Ch.s (dB false) pa (Ch.nil (Tq (Ts hc (Ch.s (.d (.slice false 1 (xs.map D.str))) pm ?_)))))
 refine Ch.s (dI (xs.length : Int)) (.pure (.len _ _ 9 rfl Tryz.underlying23 (.sh _ _) (by simp))) (Ch.s (.d (.slice false 1 (ys.map D.str))) pm (Ch.s (dI (ys.length : Int)) (.pure (.len _ _ 9 rfl Tryz.underlying23 (.sh _ _) (by simp))) (Ch.s (dB (!(decide ((xs.length : Int) = (ys.length : Int))))) (iX rfl rfl rfl) (Ch.nil ?_))))
 refine T_condN (b := (decide ((xs.length : Int) = (ys.length : Int)))) rfl (fun h1 => ?_) (fun h1 => ?_)
 ·
  replace h1 := odf h1
  refine Ts hc (Ch.s (dB false) pa (Ch.nil (T_ret ?_)))
  exact eR [(dB false)] [] [] (.cons (.tmp 4 rfl) .nil) eB (Exp.of (congrArg D.bool (by exact eqL_len (by omega))) (.d _))
 ·
  replace h1 := odt h1
  refine Tk (Tq (Ts hc (Ch.s (dI 0) pa (Ch.nil (Tb ?_)))))
  refine T_loop (ι := Nat) (fun k => { n := 26, sl := [(0, (.d (.slice false 1 (xs.map D.str)))), (1, (.d (.slice false 1 (ys.map D.str)))), (5, (dI (k : Int)))], hp := [], pin := [] }) (fun k => k ≤ xs.length ∧ ∀ j, j < k → xs.getD j default = ys.getD j default) (fun k => xs.length - k) ⟨0, ⟨by omega, fun j hj => by omega⟩, (Wk.of rfl rfl (ar (ar (ai (vI a67) trivial))) trivial)⟩ (fun k hp0 => ?_)
  refine Tq (Ts hc (Ch.s (dI (k : Int)) pm (Ch.s (.d (.slice false 1 (xs.map D.str))) pm (Ch.s (dI (xs.length : Int)) (.pure (.len _ _ 9 rfl Tryz.underlying23 (.sh _ _) (by simp))) (Ch.s (dB (decide ((k : Int) < (xs.length : Int)))) (iX rfl rfl rfl) (Ch.nil ?_))))))
  refine T_condD (p := ((k : Int) < (xs.length : Int))) rfl (fun h2 => ?_) (fun h2 => ?_)
  ·
   refine Tk (Tq (Tb (Tq ?_)))
   refine T_regionD hc (by kernel_rfl) ?_
   refine ChD.s (.d (.slice false 1 (xs.map D.str))) [] pm (ChD.s (dI (k : Int)) [] pm (ChD.s (.d (.ref (.str (xs.getD k default)))) [] (.pure (.idx _ _ _ 9 (k) rfl Tryz.underlying23 sz9 rfl rfl rfl get_mapA)) (ChD.s (dS (xs.getD k default)) [] (rF ag9 rfl rfl) (ChD.s (.d (.slice false 1 (ys.map D.str))) [] pm (ChD.s (dI (k : Int)) [] pm (ChD.s (.d (.ref (.str (ys.getD k default)))) [] (.pure (.idx _ _ _ 9 (k) rfl Tryz.underlying23 sz9 rfl rfl rfl get_mapA)) (ChD.s (dS (ys.getD k default)) [] (rF ag9 rfl rfl) ?_)))))))
   refine ChD.s (dB (!(decide ((xs.getD k default) = (ys.getD k default))))) [] (.pure (.str _ _ _ _ _ rfl rfl rfl rfl)) ?_
   refine ChD.nil (And.intro ?_ (by kernel_rfl))
   refine T_condN (b := (decide ((xs.getD k default) = (ys.getD k default)))) rfl (fun h3 => ?_) (fun h3 => ?_)
   ·
    replace h3 := odf h3
    refine Ts hc (Ch.s (dB false) pa (Ch.nil (T_ret ?_)))
    exact eR [(dB false)] [] [] (.cons (.tmp 4 rfl) .nil) eB (Exp.of (congrArg D.bool a69) (.d _))
   ·
    replace h3 := odt h3
    refine Tk (Tz hc (Ch.s (dI (k : Int)) pm (Ch.s (dI ((k : Int) + 1)) (iX rfl rfl intV_addA) (Ch.s (dI ((k : Int) + 1)) pa (Ch.nil ?_)))))
    exact nx (k + 1) ⟨by omega, upto_succ hp0.2 (by assumption)⟩ (Wk.of rfl rfl (ar (ar (ai (vI a67) trivial))) trivial)
  ·
   refine T_exit (Ts hc (Ch.s (dB true) pa (Ch.nil (T_ret ?_))))
   exact eR [(dB true)] [] [] (.cons (.tmp 4 rfl) .nil) eB (Exp.of (congrArg D.bool a62) (.d _))

def allOf {τ : Type} [Inhabited τ] (xs : List τ) (q : τ → Bool) : Bool := allB xs.length fun j => q (xs.getD j default)

def codeCh (x : UInt8) : Bool := x == 48 || x == 49

def codeN (u : List UInt8) (n : Int) : Bool := allB u.length (fun j => codeCh (u.getD j 0)) && decide ((u.length : Int) = n)

theorem sp_spec_l5Code (u : List UInt8) (n : Int) (hs : u.length ≤ 1048576) : Sp Tryz.prog 37 [(.str u), (.int .i64 n)] [.any, .any] (.bool (codeN u n)) := by
 refine Sp_intro (lend := true) Tryz.func37 rfl rfl rfl (fun _ => rfl) (fun c hc hX => ?_)
 refine Ts hc (Ch.s (dB false) pa (Ch.nil (Tq (Ts hc (Ch.s (dI 0) pa ?_)))))
 refine Ch.nil (Tb ?_)
 refine T_loop (ι := Nat) (fun k => { n := 26, sl := [(0, (dS u)), (1, (dI n)), (5, (dI (k : Int)))], hp := [], pin := [] }) (fun k => k ≤ u.length ∧ ∀ j, j < k → codeCh (u.getD j 0) = true) (fun k => u.length - k) ⟨0, ⟨by omega, fun j hj => by omega⟩, (Wk.of rfl rfl (ar (ar (ai (vI a67) trivial))) trivial)⟩ (fun k hp0 => ?_)
 refine Tq (Ts hc (Ch.s (dI (k : Int)) pm (Ch.s (dS u) pm (Ch.s (dI (u.length : Int)) (.pure (.lenStr _ _ rfl Tryz.underlying9 rfl)) (Ch.s (dB (decide ((k : Int) < (u.length : Int)))) (iX rfl rfl rfl) (Ch.nil ?_))))))
 refine T_condD (p := ((k : Int) < (u.length : Int))) rfl (fun h1 => ?_) (fun h1 => ?_)
 ·
  refine Tk (Tq (Tb (Ts hc (Ch.s (dS u) pm (Ch.s (dI (k : Int)) pm (Ch.s (.d (.int .u8 ((u.getD k 0).toNat : Int))) (.pure (.idxStr _ _ _ (k) rfl Tryz.underlying9 rfl rfl rfl get_strA)) ?_))))))
  refine Ch.s (dB (!(decide (((u.getD k 0) : UInt8) = 48)))) (iX rfl rfl (u8_neq ((u.getD k 0) : UInt8) 48 rfl rfl)) (Ch.s (dB (!(decide (((u.getD k 0) : UInt8) = 48)))) pm ?_)
  cases h2 : (decide (((u.getD k 0) : UInt8) = 48)) with
  | true =>
   replace h2 := odt h2
   refine Ck (Ck (Ck (Ck (Ch.s (dB false) (pF rfl) (Ch.nil ?_)))))
   refine T_cond (b := false) rfl (fun h => nomatch h) (fun _ => ?_)
   refine Tk (Tz hc (Ch.s (dI (k : Int)) pm (Ch.s (dI ((k : Int) + 1)) (iX rfl rfl intV_addA) (Ch.s (dI ((k : Int) + 1)) pa (Ch.nil ?_)))))
   exact nx (k + 1) ⟨by omega, upto_succ hp0.2 (by simp_all [codeCh])⟩ (Wk.of rfl rfl (ar (ar (ai (vI a67) trivial))) trivial)
  | false =>
   replace h2 := odf h2
   refine Ch.s (dS u) pm (Ch.s (dI (k : Int)) pm (Ch.s (.d (.int .u8 ((u.getD k 0).toNat : Int))) (.pure (.idxStr _ _ _ (k) rfl Tryz.underlying9 rfl rfl rfl get_strA)) (Ch.s (dB (!(decide (((u.getD k 0) : UInt8) = 49)))) (iX rfl rfl (u8_neq ((u.getD k 0) : UInt8) 49 rfl rfl)) (Ch.s (dB (!(decide (((u.getD k 0) : UInt8) = 49)))) (pT rfl) (Ch.nil ?_)))))
   refine T_condN (b := (decide (((u.getD k 0) : UInt8) = 49))) rfl (fun h3 => ?_) (fun h3 => ?_)
   ·
    replace h3 := odf h3
    refine Ts hc (Ch.s (dB false) pa (Ch.nil (T_ret ?_)))
    exact eR [(dB false)] [] [] (.cons (.tmp 4 rfl) .nil) eB (Exp.of (congrArg D.bool a31) (.d _))
   ·
    replace h3 := odt h3
    refine Tk (Tz hc (Ch.s (dI (k : Int)) pm (Ch.s (dI ((k : Int) + 1)) (iX rfl rfl intV_addA) (Ch.s (dI ((k : Int) + 1)) pa (Ch.nil ?_)))))
    exact nx (k + 1) ⟨by omega, upto_succ hp0.2 (by simp_all [codeCh])⟩ (Wk.of rfl rfl (ar (ar (ai (vI a67) trivial))) trivial)
 ·
  refine T_exit (Ts hc (Ch.s (dS u) pm (Ch.s (dI (u.length : Int)) (.pure (.lenStr _ _ rfl Tryz.underlying9 rfl)) (Ch.s (dI n) pm (Ch.s (dB (decide ((u.length : Int) = n))) (iX rfl rfl rfl) (Ch.s (dB (decide ((u.length : Int) = n))) pa ?_))))))
  refine Ch.nil (T_ret ?_)
  exact eR [(dB (decide ((u.length : Int) = n)))] [] [] (.cons (.tmp 4 rfl) .nil) eB (Exp.of (congrArg D.bool a31) (.d _))

theorem any_yes {τ : Type} {l : List τ} {p : τ → Bool} (d : τ) (k : Nat) (hk : k < l.length) (h : p (l.getD k d) = true) : true = l.any p := (List.any_eq_true.2 ⟨_, getD_mem hk, h⟩).symm

theorem any_no {τ : Type} {l : List τ} {p : τ → Bool} (d : τ) (h : ∀ j, j < l.length → p (l.getD j d) = false) : false = l.any p := by
 symm
 rw [List.any_eq_false]
 intro x hx
 obtain ⟨j, hj, rfl⟩ := List.mem_iff_getElem.1 hx
 have := h j hj
 simp [hj] at this
 simp [this]

def hasS (xs : List (List UInt8)) (u : List UInt8) : Bool := xs.any fun a => decide (a = u)

theorem sty95 : SlotTy Tryz.prog 95 5 1 1 := slotTy_mk (by kernel_rfl)

theorem en34 : Enters Tryz.prog 34 := ⟨_, Tryz.func34, by kernel_rfl, rfl⟩

theorem sp_laws_markText (k : Nat) (hk : k ≤ 4194304) : Sp Tryz.prog 34 [(.int .i64 (k : Int))] [.any] (.str (mtext k)) := by
 refine Sp_intro (lend := true) Tryz.func34 rfl rfl rfl (fun _ => rfl) (fun c hc hX => ?_)
 refine Ts hc (Ch.s (dS []) pa (Ch.nil (Tq (Ts hc (Ch.s (dI (k : Int)) pm ?_)))))
 refine Ch.s (dB (decide ((k : Int) ≤ 0))) (iX rfl rfl rfl) (Ch.nil ?_)
 refine T_condD (p := ((k : Int) ≤ 0)) rfl (fun h1 => ?_) (fun h1 => ?_)
 ·
  refine Ts hc (Ch.s (dS [109, 48]) pa (Ch.nil (T_ret ?_)))
  exact eR [(dS [109, 48])] [] [] (.cons (.tmp 2 rfl) .nil) eA (Exp.of (congrArg D.str (by rw [mtext, if_pos (by omega)])) (.d _))
 ·
  refine Tk (Ts hc (Ch.s (dS []) pa (Ch.nil (Tq (Tb ?_)))))
  refine T_loop (ι := Nat × List UInt8) (fun p => { n := 20, sl := [(0, (dI (p.1 : Int))), (3, (dS p.2))], hp := [], pin := [] }) (fun p => p.1 + p.2.length ≤ k ∧ digs p.1 p.2 = digs k []) (fun p => p.1) ⟨(k, []), ⟨by simp, rfl⟩, (Wk.of rfl rfl (ai (vI a67) (ai (vS a67) trivial)) trivial)⟩ (fun p hp0 => ?_)
  refine Tq (Ts hc (Ch.s (dI (p.1 : Int)) pm (Ch.s (dB (decide (0 < (p.1 : Int)))) (iX rfl rfl rfl) (Ch.nil ?_))))
  refine T_condD (p := (0 < (p.1 : Int))) rfl (fun h2 => ?_) (fun h2 => ?_)
  ·
   refine Tk (Tb (Ts hc (Ch.s (dI (p.1 : Int)) pm (Ch.s (dI ((p.1 % 10 : Nat) : Int)) (iX rfl rfl (remN (n := p.1) (d := 10) rfl rfl (by decide))) (Ch.s (dI (48 + ((p.1 % 10 : Nat) : Int))) (iX rfl rfl intV_addA) (Ch.s (.d (.int .u8 ((UInt8.ofNat (48 + p.1 % 10)).toNat : Int))) (.pure (EvP.of (convU8 (n := (48 + p.1 % 10)) (by omega) a24) (.convInt _ _ _ rfl (isSome_of Tryz.underlying3) Tryz.underlying5 rfl))) ?_))))))
   refine Ch.s (.row 12000) (.slice 12000 _ 5 _ rfl sty95 (xs := [.tmp 11]) rfl rfl (.cons (.d _) .nil) rfl rfl (by decide)) (Ch.s (dS [(UInt8.ofNat (48 + p.1 % 10))]) (.string (l := [(UInt8.ofNat (48 + p.1 % 10))]) _ _ _ _ rfl Tryz.underlying95 Tryz.underlying5 Tryz.underlying9 (by first | exact (.row rfl rfl) | exact (.row rfl rfl))) (Ch.s (dS p.2) pm (Ch.s (dS ([(UInt8.ofNat (48 + p.1 % 10))] ++ p.2)) (.pure (.str _ _ _ _ _ rfl rfl rfl (strV_add a24))) (Ch.s (dS ([(UInt8.ofNat (48 + p.1 % 10))] ++ p.2)) pa (Ch.nil (Tz hc (Ch.s (dI (p.1 : Int)) pm ?_)))))))
   refine Ch.s (dI ((p.1 / 10 : Nat) : Int)) (iX rfl rfl (quoN (n := p.1) (d := 10) rfl rfl (by decide) a24)) (Ch.s (dI ((p.1 / 10 : Nat) : Int)) pa (Ch.nil ?_))
   refine Exists.intro ((p.1 / 10, [UInt8.ofNat (48 + p.1 % 10)] ++ p.2)) (And.intro ⟨by (have := hp0.1; simp; omega), (digs_step (k := p.1) (by omega) p.2).symm.trans hp0.2⟩ (And.intro (by (simp; omega)) (Wk.of rfl rfl (ai (vI a67) (ai (vS a67) trivial)) trivial)))
  ·
   refine T_exit (Ts hc (Ch.s (dS p.2) pm (Ch.s (dS ([109] ++ p.2)) (.pure (.str _ _ _ _ _ rfl rfl rfl (strV_add a24))) (Ch.s (dS ([109] ++ p.2)) pa (Ch.nil (T_ret ?_))))))
   exact eR [(dS ([109] ++ p.2))] [] [] (.cons (.tmp 2 rfl) .nil) eA (Exp.of (congrArg D.str (by have hz : p.1 = 0 := (by omega); have h5 := hp0.2; rw [hz, digs_zero] at h5; rw [mtext, if_neg (by omega), h5]; rfl)) (.d _))

theorem sp_laws_markStringS (xs : List (List UInt8)) (k : Nat) (hn : xs.length ≤ 1048576) (hk : k ≤ 3145728) : Sp Tryz.prog 11 [(.slice true 1 (xs.map D.str)), (.int .i64 (k : Int))] [(.slice true 1 ((marks k xs.length).map D.str)), .any] (.int .i64 ((k + xs.length : Nat) : Int)) := by
 refine Sp_intro (lend := false) Tryz.func11 rfl rfl rfl (fun h => nomatch h) (fun c hc hX => ?_)
 refine Ts hc (Ch.s (dI 0) pa (Ch.nil (Tq (Ts hc (Ch.s (dI 0) pa ?_)))))
 refine Ch.nil (Tb ?_)
 refine T_loop (ι := Nat) (fun m => { n := 20, sl := [(0, (.row 1)), (1, (dI ((k + m : Nat) : Int))), (5, (dI (m : Int)))], hp := [(1, (some (.row 1 ((marked xs k m).map D.str))))], pin := [1] }) (fun m => m ≤ xs.length) (fun m => xs.length - m) ⟨0, (by omega), (Wk.of rfl rfl (ar (ai (vI a67) (ai (vI a67) trivial))) (ai (oR a48) trivial))⟩ (fun m hp0 => ?_)
 have hq := marked_length xs k m
 refine Tq (Ts hc (Ch.s (dI (m : Int)) pm (Ch.s (.row 1) pm (Ch.s (dI ((marked xs k m).length : Int)) (.pure (.len _ _ 9 rfl Tryz.underlying23 (.row rfl) (by simp))) (Ch.s (dB (decide ((m : Int) < ((marked xs k m).length : Int)))) (iX rfl rfl rfl) (Ch.nil ?_))))))
 refine T_condD (p := ((m : Int) < ((marked xs k m).length : Int))) rfl (fun h1 => ?_) (fun h1 => ?_)
 ·
  refine Tk (Tq (Tb (Ts hc (Ch.s (.row 1) pm (Ch.s (dI (m : Int)) pm (Ch.s (dI ((k + m : Nat) : Int)) pm ?_))))))
  refine Ch.s (dS (mtext (k + m))) (.call 15000 34 _ _ _ en34 rfl (.inl rfl) (.cons (.d _) .nil) rfl rfl (sp_laws_markText (k + m) a16) (.skip _ _ .nil) rfl) (Ch.s (.el 1 1 m 0) (.pure (.idxRow _ _ _ 9 (m) rfl Tryz.underlying23 sz9 rfl rfl rfl rfl a52)) (Ch.s .junk (.storeEl (y' := (.str (mtext (k + m)))) _ _ _ rfl rfl rfl (.d _) rfl sz9 rfl get_mapA rfl rfl) (Ch.nil (Tz hc (Ch.s (dI ((k + m : Nat) : Int)) pm (Ch.s (dI (((k + m : Nat) : Int) + 1)) (iX rfl rfl intV_addA) (Ch.s (dI (((k + m : Nat) : Int) + 1)) pa ?_)))))))
  refine Ch.nil (Tz hc (Ch.s (dI (m : Int)) pm (Ch.s (dI ((m : Int) + 1)) (iX rfl rfl intV_addA) (Ch.s (dI ((m : Int) + 1)) pa (Ch.nil ?_)))))
  exact nx (m + 1) (by omega) (Wk.of rfl rfl (ar (ai (vI a67) (ai (vI a67) trivial))) (ai (oR a48) trivial))
 ·
  refine T_exit (Ts hc (Ch.s (dI ((k + m : Nat) : Int)) pm (Ch.s (dI ((k + m : Nat) : Int)) pa (Ch.nil (T_ret ?_)))))
  exact eR [(dI ((k + m : Nat) : Int))] [1] [] (.cons (.tmp 4 rfl) .nil) (.cons (Exp.of (congrArg (D.slice true 1) (by rw [marked_all xs k (by omega)])) (.row rfl)) eA) (Exp.of (congrArg (D.int .i64) (by omega)) (.d _))

theorem sp_laws_heldStringS (xs : List (List UInt8)) (k : Nat) (hn : xs.length ≤ 1048576) (hk : k ≤ 3145728) : Sp Tryz.prog 12 [(.slice false 1 (xs.map D.str)), (.int .i64 (k : Int))] [.any, .any] (.int .i64 (heldR xs k)) := by
 refine Sp_intro (lend := true) Tryz.func12 rfl rfl rfl (fun _ => rfl) (fun c hc hX => ?_)
 refine Ts hc (Ch.s (dI 0) pa (Ch.nil (Tq (Ts hc (Ch.s (dI 0) pa ?_)))))
 refine Ch.nil (Tb ?_)
 refine T_loop (ι := Nat) (fun m => { n := 22, sl := [(0, (.d (.slice false 1 (xs.map D.str)))), (1, (dI ((k + m : Nat) : Int))), (5, (dI (m : Int)))], hp := [], pin := [] }) (fun m => m ≤ xs.length ∧ ∀ j, j < m → decide (xs.getD j default = mtext (k + j)) = true) (fun m => xs.length - m) ⟨0, ⟨by omega, fun j hj => by omega⟩, (Wk.of rfl rfl (ar (ai (vI a67) (ai (vI a67) trivial))) trivial)⟩ (fun m hp0 => ?_)
 refine Tq (Ts hc (Ch.s (dI (m : Int)) pm (Ch.s (.d (.slice false 1 (xs.map D.str))) pm (Ch.s (dI (xs.length : Int)) (.pure (.len _ _ 9 rfl Tryz.underlying23 (.sh _ _) (by simp))) (Ch.s (dB (decide ((m : Int) < (xs.length : Int)))) (iX rfl rfl rfl) (Ch.nil ?_))))))
 refine T_condD (p := ((m : Int) < (xs.length : Int))) rfl (fun h1 => ?_) (fun h1 => ?_)
 ·
  refine Tk (Tq (Tb (Tq (Tq ?_))))
  refine T_regionD hc (by kernel_rfl) ?_
  refine ChD.s (.d (.slice false 1 (xs.map D.str))) [] pm (ChD.s (dI (m : Int)) [] pm (ChD.s (.d (.ref (.str (xs.getD m default)))) [] (.pure (.idx _ _ _ 9 (m) rfl Tryz.underlying23 sz9 rfl rfl rfl get_mapA)) (ChD.s (dS (xs.getD m default)) [] (rF ag9 rfl rfl) (ChD.s (dI ((k + m : Nat) : Int)) [] pm (ChD.s (dS (mtext (k + m))) [] (.call 17000 34 _ _ _ en34 rfl (.inl rfl) (.cons (.d _) .nil) rfl rfl (sp_laws_markText (k + m) a16) (.skip _ _ .nil) rfl) (ChD.s (dB (!(decide ((xs.getD m default) = (mtext (k + m)))))) [] (.pure (.str _ _ _ _ _ rfl rfl rfl rfl)) ?_))))))
  refine ChD.nil (And.intro ?_ (by kernel_rfl))
  refine T_condN (b := (decide ((xs.getD m default) = (mtext (k + m))))) rfl (fun h2 => ?_) (fun h2 => ?_)
  ·
   replace h2 := odf h2
   refine Ts hc (Ch.s (dI (-1)) pa (Ch.nil (T_ret ?_)))
   exact eR [(dI (-1))] [] [] (.cons (.tmp 4 rfl) .nil) eB (Exp.of (congrArg (D.int .i64) a28) (.d _))
  ·
   replace h2 := odt h2
   refine Tk (Tz hc (Ch.s (dI ((k + m : Nat) : Int)) pm (Ch.s (dI (((k + m : Nat) : Int) + 1)) (iX rfl rfl intV_addA) (Ch.s (dI (((k + m : Nat) : Int) + 1)) pa (Ch.nil (Tz hc (Ch.s (dI (m : Int)) pm ?_)))))))
   refine Ch.s (dI ((m : Int) + 1)) (iX rfl rfl intV_addA) (Ch.s (dI ((m : Int) + 1)) pa (Ch.nil ?_))
   exact nx (m + 1) ⟨by omega, upto_succ hp0.2 (by simp_all)⟩ (Wk.of rfl rfl (ar (ai (vI a67) (ai (vI a67) trivial))) trivial)
 ·
  refine T_exit (Ts hc (Ch.s (dI ((k + m : Nat) : Int)) pm (Ch.s (dI ((k + m : Nat) : Int)) pa (Ch.nil (T_ret ?_)))))
  exact eR [(dI ((k + m : Nat) : Int))] [] [] (.cons (.tmp 4 rfl) .nil) eB (Exp.of (congrArg (D.int .i64) a28) (.d _))

theorem sp_spec_l5Bit (up : Bool) : Sp Tryz.prog 66 [(.bool (up))] [.any] (.str ([bitN up])) := by
 refine Sp_intro (lend := true) Tryz.func66 rfl rfl rfl (fun _ => rfl) (fun c hc hX => ?_)
 refine Ts hc (Ch.s (dS []) pa (Ch.nil (Tq (Ts hc (Ch.s (dB (up)) pm ?_)))))
 refine Ch.nil ?_
 refine T_cond (b := (up)) rfl (fun h1 => ?_) (fun h1 => ?_)
 ·
  refine Ts hc (Ch.s (dS [49]) pa (Ch.nil (T_ret ?_)))
  exact eR [(dS [49])] [] [] (.cons (.tmp 2 rfl) .nil) eA (Exp.of (congrArg D.str (by subst_vars; rfl)) (.d _))
 ·
  refine Tk (Ts hc (Ch.s (dS [48]) pa (Ch.nil (T_ret ?_))))
  exact eR [(dS [48])] [] [] (.cons (.tmp 2 rfl) .nil) eA (Exp.of (congrArg D.str (by subst_vars; rfl)) (.d _))

theorem sp_spec_l5Set (u : List UInt8) (sig : Int) (v : List UInt8) (hu : u.length ≤ 1048576) (hv : v.length ≤ 1048576) (h0 : 0 ≤ sig) (h1s : sig + 1 ≤ u.length) : Sp Tryz.prog 65 [(.str u), (.int .i64 sig), (.str v)] [.any, .any, .any] (.str (u.take sig.toNat ++ v ++ u.drop (sig + 1).toNat)) := by
 refine Sp_intro (lend := true) Tryz.func65 rfl rfl rfl (fun _ => rfl) (fun c hc hX => ?_)
 refine Ts hc (Ch.s (dS []) pa (Ch.nil (Tq ?_)))
 refine T_regionD hc (by kernel_rfl) ?_
 refine ChD.s (dS u) [] pm (ChD.s (dI sig) [] pm (ChD.s (dS (u.take ((sig).toNat))) [] (.pure (.sliceStr _ _ _ _ (0) ((sig).toNat) rfl Tryz.underlying9 rfl (bndN rfl) (bndS rfl (by omega)) a24 a24 (by simp))) (ChD.s (dS v) [] pm (ChD.s (dS ((u.take ((sig).toNat)) ++ v)) [] (.pure (.str _ _ _ _ _ rfl rfl rfl (strV_add a24))) (ChD.s (dS u) [] pm (ChD.s (dI sig) [] pm (ChD.s (dI (sig + 1)) [] (iX rfl rfl intV_addA) ?_)))))))
 refine ChD.s (dS (u.drop (((sig + 1)).toNat))) [] (.pure (.sliceStr _ _ _ _ (((sig + 1)).toNat) (u.length) rfl Tryz.underlying9 rfl (bndS rfl (by omega)) (bndN rfl) a24 a24 (by simp))) (ChD.s (dS (((u.take ((sig).toNat)) ++ v) ++ (u.drop (((sig + 1)).toNat)))) [] (.pure (.str _ _ _ _ _ rfl rfl rfl (strV_add a24))) (ChD.s (dS (((u.take ((sig).toNat)) ++ v) ++ (u.drop (((sig + 1)).toNat)))) [] pa ?_))
 refine ChD.nil (And.intro ?_ (by kernel_rfl))
 refine T_ret ?_
 exact eR [(dS (((u.take ((sig).toNat)) ++ v) ++ (u.drop (((sig + 1)).toNat))))] [] [] (.cons (.tmp 6 rfl) .nil) eC (Exp.of (congrArg D.str (by rfl)) (.d _))

theorem within_two {n lo hi : Int} (h : withinB n lo hi = true) : lo ≤ n ∧ n ≤ hi := by simpa [withinB] using h

def both (u : List UInt8) : List (List UInt8) := [u ++ [48], u ++ [49]]

def codes : Nat → List (List UInt8)
 | 0 => [[]]
 | n + 1 => (codes n).flatMap both

theorem fld66_0 : FieldIs Tryz.prog 66 0 0 1 false := FieldIs.mk Tryz.underlying66 rfl rfl sz9 ag9 rfl

theorem sz66 : SizeIs Tryz.prog 66 2 := by unfold SizeIs; kernel_rfl

theorem ag66 : AggIs Tryz.prog 66 true := by unfold AggIs; kernel_rfl

theorem en35 : Enters Tryz.prog 35 := ⟨_, Tryz.func35, by kernel_rfl, rfl⟩

theorem zr76 : (Tryz.prog.info? 76).bind (·.zero) = some (.agg #[.string .empty, .int .i64 0]) := by kernel_rfl

theorem zer76 : ∃ i z, Tryz.prog.info? 76 = some i ∧ i.zero = some z ∧ z.cells = List.toArray [.string .empty, .int .i64 0] := zero_mk zr76 rfl

theorem fld76_0 : FieldIs Tryz.prog 76 0 0 1 false := FieldIs.mk Tryz.underlying76 rfl rfl sz9 ag9 rfl

theorem sz3 : SizeIs Tryz.prog 3 1 := by unfold SizeIs; kernel_rfl

theorem ag3 : AggIs Tryz.prog 3 false := by unfold AggIs; kernel_rfl

theorem fld66_1 : FieldIs Tryz.prog 66 1 1 1 false := FieldIs.mk Tryz.underlying66 rfl rfl sz3 ag3 rfl

theorem fld76_1 : FieldIs Tryz.prog 76 1 1 1 false := FieldIs.mk Tryz.underlying76 rfl rfl sz3 ag3 rfl

theorem ag76 : AggIs Tryz.prog 76 true := by unfold AggIs; kernel_rfl

theorem sz76 : SizeIs Tryz.prog 76 2 := by unfold SizeIs; kernel_rfl

theorem sty30 : SlotTy Tryz.prog 30 76 2 24 := slotTy_mk (by kernel_rfl)

theorem en45 : Enters Tryz.prog 45 := ⟨_, Tryz.func45, by kernel_rfl, rfl⟩

theorem en61 : Enters Tryz.prog 61 := ⟨_, Tryz.func61, by kernel_rfl, rfl⟩

theorem zr70 : (Tryz.prog.info? 70).bind (·.zero) = some (.agg #[.int .i64 0, .int .i64 0, .bool false, .int .i64 0]) := by kernel_rfl

theorem zer70 : ∃ i z, Tryz.prog.info? 70 = some i ∧ i.zero = some z ∧ z.cells = List.toArray [.int .i64 0, .int .i64 0, .bool false, .int .i64 0] := zero_mk zr70 rfl

theorem fld79_0 : FieldIs Tryz.prog 79 0 0 1 false := FieldIs.mk Tryz.underlying79 rfl rfl sz3 ag3 rfl

theorem fld70_0 : FieldIs Tryz.prog 70 0 0 1 false := FieldIs.mk Tryz.underlying70 rfl rfl sz3 ag3 rfl

theorem fld79_1 : FieldIs Tryz.prog 79 1 1 1 false := FieldIs.mk Tryz.underlying79 rfl rfl sz3 ag3 rfl

theorem fld70_1 : FieldIs Tryz.prog 70 1 1 1 false := FieldIs.mk Tryz.underlying70 rfl rfl sz3 ag3 rfl

theorem sz4 : SizeIs Tryz.prog 4 1 := by unfold SizeIs; kernel_rfl

theorem ag4 : AggIs Tryz.prog 4 false := by unfold AggIs; kernel_rfl

theorem fld79_2 : FieldIs Tryz.prog 79 2 2 1 false := FieldIs.mk Tryz.underlying79 rfl rfl sz4 ag4 rfl

theorem fld70_2 : FieldIs Tryz.prog 70 2 2 1 false := FieldIs.mk Tryz.underlying70 rfl rfl sz4 ag4 rfl

theorem fld79_3 : FieldIs Tryz.prog 79 3 3 1 false := FieldIs.mk Tryz.underlying79 rfl rfl sz3 ag3 rfl

theorem fld70_3 : FieldIs Tryz.prog 70 3 3 1 false := FieldIs.mk Tryz.underlying70 rfl rfl sz3 ag3 rfl

theorem ag70 : AggIs Tryz.prog 70 true := by unfold AggIs; kernel_rfl

theorem sz70 : SizeIs Tryz.prog 70 4 := by unfold SizeIs; kernel_rfl

theorem sty31 : SlotTy Tryz.prog 31 70 4 32 := slotTy_mk (by kernel_rfl)

theorem sz79 : SizeIs Tryz.prog 79 4 := by unfold SizeIs; kernel_rfl

theorem ag79 : AggIs Tryz.prog 79 true := by unfold AggIs; kernel_rfl

theorem en46 : Enters Tryz.prog 46 := ⟨_, Tryz.func46, by kernel_rfl, rfl⟩

theorem en62 : Enters Tryz.prog 62 := ⟨_, Tryz.func62, by kernel_rfl, rfl⟩

theorem sz22 : SizeIs Tryz.prog 22 1 := by unfold SizeIs; kernel_rfl

theorem ag22 : AggIs Tryz.prog 22 false := by unfold AggIs; kernel_rfl

theorem fld26_0 : FieldIs Tryz.prog 26 0 0 1 false := FieldIs.mk Tryz.underlying26 rfl rfl sz22 ag22 rfl

theorem en13 : Enters Tryz.prog 13 := ⟨_, Tryz.func13, by kernel_rfl, rfl⟩

theorem sz23 : SizeIs Tryz.prog 23 1 := by unfold SizeIs; kernel_rfl

theorem ag23 : AggIs Tryz.prog 23 false := by unfold AggIs; kernel_rfl

theorem fld26_1 : FieldIs Tryz.prog 26 1 1 1 false := FieldIs.mk Tryz.underlying26 rfl rfl sz23 ag23 rfl

theorem en14 : Enters Tryz.prog 14 := ⟨_, Tryz.func14, by kernel_rfl, rfl⟩

theorem sz24 : SizeIs Tryz.prog 24 1 := by unfold SizeIs; kernel_rfl

theorem ag24 : AggIs Tryz.prog 24 false := by unfold AggIs; kernel_rfl

theorem fld26_2 : FieldIs Tryz.prog 26 2 2 1 false := FieldIs.mk Tryz.underlying26 rfl rfl sz24 ag24 rfl

theorem en15 : Enters Tryz.prog 15 := ⟨_, Tryz.func15, by kernel_rfl, rfl⟩

theorem zr33 : (Tryz.prog.info? 33).bind (·.zero) = some (.agg #[.slice none 0 0, .slice none 0 0, .slice none 0 0]) := by kernel_rfl

theorem zer33 : ∃ i z, Tryz.prog.info? 33 = some i ∧ i.zero = some z ∧ z.cells = List.toArray [.slice none 0 0, .slice none 0 0, .slice none 0 0] := zero_mk zr33 rfl

theorem en21 : Enters Tryz.prog 21 := ⟨_, Tryz.func21, by kernel_rfl, rfl⟩

theorem sz30 : SizeIs Tryz.prog 30 1 := by unfold SizeIs; kernel_rfl

theorem ag30 : AggIs Tryz.prog 30 false := by unfold AggIs; kernel_rfl

theorem fld33_0 : FieldIs Tryz.prog 33 0 0 1 false := FieldIs.mk Tryz.underlying33 rfl rfl sz30 ag30 rfl

theorem en22 : Enters Tryz.prog 22 := ⟨_, Tryz.func22, by kernel_rfl, rfl⟩

theorem fld33_1 : FieldIs Tryz.prog 33 1 1 1 false := FieldIs.mk Tryz.underlying33 rfl rfl sz23 ag23 rfl

theorem en23 : Enters Tryz.prog 23 := ⟨_, Tryz.func23, by kernel_rfl, rfl⟩

theorem sz31 : SizeIs Tryz.prog 31 1 := by unfold SizeIs; kernel_rfl

theorem ag31 : AggIs Tryz.prog 31 false := by unfold AggIs; kernel_rfl

theorem fld33_2 : FieldIs Tryz.prog 33 2 2 1 false := FieldIs.mk Tryz.underlying33 rfl rfl sz31 ag31 rfl

theorem ag33 : AggIs Tryz.prog 33 true := by unfold AggIs; kernel_rfl

theorem sz33 : SizeIs Tryz.prog 33 3 := by unfold SizeIs; kernel_rfl

theorem en30 : Enters Tryz.prog 30 := ⟨_, Tryz.func30, by kernel_rfl, rfl⟩

theorem en8 : Enters Tryz.prog 8 := ⟨_, Tryz.func8, by kernel_rfl, rfl⟩

theorem en31 : Enters Tryz.prog 31 := ⟨_, Tryz.func31, by kernel_rfl, rfl⟩

theorem froz_c {x y : D} {xs ys : List D} (h : x.froz = y) (h2 : frozs xs = ys) : frozs (x :: xs) = y :: ys := by rw [frozs, h, h2]

theorem slice_froz {u : Bool} {sz : Nat} {xs ys : List D} (h : frozs xs = ys) : (D.slice u sz xs).froz = D.slice false sz ys := by rw [D.froz, h]

theorem frozs_to {τ : Type} {f g : τ → D} (h : ∀ x, (f x).froz = g x) (l : List τ) : frozs (l.map f) = l.map g := by
 rw [frozs_eq, List.map_map]; congr 1; funext x; exact h x

def intsD (l : List Int) : D := .slice false 1 (l.map fun n => D.int .i64 n)

def intsU (l : List Int) : D := .slice true 1 (l.map fun n => D.int .i64 n)

def sumF {τ : Type} (f : τ → Nat) (xs : List τ) (k : Nat) : Nat := ((xs.take k).map f).sum

def bulkF {τ : Type} (f : τ → Nat) (xs : List τ) : Nat := xs.length + (xs.map f).sum

theorem sumF_zero {τ : Type} (f : τ → Nat) (xs : List τ) : sumF f xs 0 = 0 := rfl

theorem sumF_succ {τ : Type} [Inhabited τ] (f : τ → Nat) {xs : List τ} {k : Nat} (h : k < xs.length) : sumF f xs (k + 1) = sumF f xs k + f (xs.getD k default) := by
 have hg : xs.getD k default = xs[k] := by simp [h]
 unfold sumF
 rw [hg, List.take_succ_eq_append_getElem h, List.map_append, List.sum_append]
 simp only [List.map_cons, List.map_nil, List.sum_cons, List.sum_nil, Nat.add_zero]

theorem sumF_all {τ : Type} (f : τ → Nat) {xs : List τ} {k : Nat} (h : xs.length ≤ k) : sumF f xs k = (xs.map f).sum := by rw [sumF, List.take_of_length_le h]

theorem sumF_le {τ : Type} (f : τ → Nat) (xs : List τ) (k : Nat) : sumF f xs k ≤ (xs.map f).sum := by
 conv => rhs; rw [← List.take_append_drop k xs, List.map_append, List.sum_append]
 unfold sumF; omega

theorem le_sumL {x : Nat} : ∀ {l : List Nat}, x ∈ l → x ≤ l.sum
  | y :: l, h => by
    rw [List.sum_cons]
    rcases List.mem_cons.1 h with rfl | h
    · omega
    · have := le_sumL h; omega

theorem sum_zero {τ : Type} {f : τ → Nat} (h : ∀ x, f x = 0) : ∀ xs : List τ, (xs.map f).sum = 0
 | [] => rfl
 | x :: xs => by rw [List.map_cons, List.sum_cons, h x, sum_zero h xs]

theorem bulkF_len {τ : Type} {f : τ → Nat} {xs : List τ} {n : Nat} (h : bulkF f xs ≤ n) : xs.length ≤ n := by unfold bulkF at h; omega

theorem bulkF_mem {τ : Type} {f : τ → Nat} {xs : List τ} {n : Nat} (h : bulkF f xs ≤ n) : ∀ x ∈ xs, f x ≤ n := by
 intro x hx
 have : f x ≤ (xs.map f).sum := le_sumL (List.mem_map.2 ⟨x, hx, rfl⟩)
 unfold bulkF at h; omega

def szR (t : Nat) (left : Int) : Int := if (t : Int) ≤ left then left - t else -1

theorem szR_cases (t : Nat) (left : Int) : ((t : Int) ≤ left ∧ szR t left = left - t) ∨ (left < t ∧ szR t left = -1) := by
  unfold szR; split
  · exact .inl ⟨by assumption, rfl⟩
  · exact .inr ⟨by omega, rfl⟩

theorem szR_ok {t : Nat} {left : Int} (h : ¬ szR t left < 0) (h0 : 0 ≤ left) : t ≤ left.toNat ∧ szR t left = left - t := by
  rcases szR_cases t left with ⟨h1, h2⟩ | ⟨h1, h2⟩
  · exact ⟨by omega, h2⟩
  · exact absurd h2 (by omega)

theorem szS_cases (xs : List (List UInt8)) (left : Int) : ((bulkS xs : Int) ≤ left ∧ szS xs left = left - bulkS xs) ∨ (left < bulkS xs ∧ szS xs left = -1) := szR_cases (bulkS xs) left

theorem dr_int {S w k n} : DR S w (.int k n) (.int k n) [] := by rw [DR]; exact ⟨rfl, rfl⟩

theorem dr_bool {S w b} : DR S w (.bool b) (.bool b) [] := by rw [DR]; exact ⟨rfl, rfl⟩

theorem dr_str0 {S w} : DR S w (.str []) (.string .empty) [] := by rw [DR]; exact ⟨rfl, rfl⟩

theorem dr_agg {S w ds vs} (h : (ds.all D.one) = true) (hd : DRs S w ds vs []) : DR S w (.agg ds) (.agg vs.toArray) [] := by
 rw [DR]; exact ⟨fun c hc => List.all_eq_true.1 h c hc, vs, rfl, hd⟩

theorem drs_nil {S w} : DRs S w [] [] [] := by rw [DRs]; exact ⟨rfl, rfl⟩

theorem drs_cons {S w d v ds vs} (h : DR S w d v []) (h2 : DRs S w ds vs []) : DRs S w (d :: ds) (v :: vs) [] := by
 rw [DRs]; exact ⟨v, vs, [], [], rfl, rfl, h, h2⟩

theorem get_set {τ : Type} {l : List τ} {j : Nat} {y : τ} (h : j < l.length) : (l.set j y)[j]? = some y := by simp [h]

theorem set_back {τ : Type} {f : τ → D} [Inhabited τ] {l : List τ} {j : Nat} {a : D} (h : j < l.length) : ((l.map f).set j a).set j (f (l.getD j default)) = l.map f := by
  rw [List.set_set]
  apply List.ext_getElem
  · simp
  · intro q h1 h2
    rw [List.getElem_set]
    split
    · rename_i e; subst e; simp [h]
    · rfl

theorem set_hole {τ : Type} {f : τ → D} {l : List τ} {j : Nat} {a : D} {y : τ} : ((l.map f).set j a).set j (f y) = (l.set j y).map f := by
 rw [List.set_set, List.map_set]

structure Sgn where
 name : List UInt8
 kind : Int
 deriving DecidableEq, Inhabited

def Sgn.d (x : Sgn) : D := (.agg [(.str x.name), (.int .i64 x.kind)])

def Sgn.bulk (x : Sgn) : Nat := x.name.length

def Sgn.wide (x : Sgn) : Prop := (x.name.length ≤ 9223372036854775807)

theorem Sgn.parts {x : Sgn} {n : Nat} (h : x.bulk ≤ n) : (x.name.length ≤ n) := by unfold Sgn.bulk at h; omega

structure Lab where
 sig : Int
 up : Bool
 deriving DecidableEq, Inhabited

def Lab.d (x : Lab) : D := (.agg [(.int .i64 x.sig), (.bool (x.up))])

def Lab.bulk (x : Lab) : Nat := 0

def Lab.wide (x : Lab) : Prop := True

theorem Lab.eqv (x y : Lab) : ((decide (x.sig = y.sig) && (decide (x.up = y.up) && true))) = decide (x = y) := by cases x; cases y; simp

structure Arc where
 src : Int
 sig : Int
 up : Bool
 dst : Int
 deriving DecidableEq, Inhabited

def Arc.d (x : Arc) : D := (.agg [(.int .i64 x.src), (.int .i64 x.sig), (.bool (x.up)), (.int .i64 x.dst)])

def Arc.bulk (x : Arc) : Nat := 0

def Arc.wide (x : Arc) : Prop := True

structure Sgr where
 sigs : List (Sgn)
 codes : List (List UInt8)
 arcs : List (Arc)
 deriving DecidableEq, Inhabited

def Sgr.d (x : Sgr) : D := (.agg [(.slice false 2 (x.sigs.map Sgn.d)), (.slice false 1 (x.codes.map D.str)), (.slice false 4 (x.arcs.map Arc.d))])

def Sgr.u (x : Sgr) : D := (.agg [(.slice true 2 (x.sigs.map Sgn.d)), (.slice true 1 (x.codes.map D.str)), (.slice true 4 (x.arcs.map Arc.d))])

theorem Sgr.sol (x : Sgr) : (Sgr.u x).solid = true := by unfold Sgr.u; rw [D.solid]; exact (solids_c (solid_row (fun _ => rfl) _) (solids_c (solid_row (fun _ => rfl) _) (solids_c (solid_row (fun _ => rfl) _) rfl)))

def Sgr.bulk (x : Sgr) : Nat := bulkF Sgn.bulk x.sigs + bulkS x.codes + bulkF Arc.bulk x.arcs

def Sgr.wide (x : Sgr) : Prop := (x.sigs.length ≤ 9223372036854775807 ∧ ∀ y ∈ x.sigs, Sgn.wide y) ∧ (x.codes.length ≤ 9223372036854775807 ∧ ∀ y ∈ x.codes, y.length ≤ 9223372036854775807) ∧ (x.arcs.length ≤ 9223372036854775807 ∧ ∀ y ∈ x.arcs, Arc.wide y)

theorem Sgr.parts {x : Sgr} {n : Nat} (h : x.bulk ≤ n) : (bulkF Sgn.bulk x.sigs ≤ n) ∧ (bulkS x.codes ≤ n) ∧ (bulkF Arc.bulk x.arcs ≤ n) := by unfold Sgr.bulk at h; omega

structure Stp where
 src : Int
 dst : Int
 deriving DecidableEq, Inhabited

def Stp.d (x : Stp) : D := (.agg [(.int .i64 x.src), (.int .i64 x.dst)])

def Stp.bulk (x : Stp) : Nat := 0

def Stp.wide (x : Stp) : Prop := True

def vX (x : Sgr) : List V := [(.d (.slice false 2 (x.sigs.map Sgn.d))), (.d (.slice false 1 (x.codes.map D.str))), (.d (.slice false 4 (x.arcs.map Arc.d)))]

theorem lX {h hb : Nat → Option Ob} {a b c : D} (h1 : ([a, b, c].all D.one) = true := by rfl) : Exp h hb (.agg [.d a, .d b, .d c]) (.agg [a, b, c]) [] := .lend (.agg (.cons (.d _) (.cons (.d _) (.cons (.d _) .nil))) h1)

theorem sp_laws_szSignal (x : Sgn) (left : Int) (h0 : 0 ≤ left) (h0u : left ≤ 1048576) (hw : x.wide) : Sp Tryz.prog 35 [(.agg [(.str x.name), (.int .i64 x.kind)]), (.int .i64 left)] [.any, .any] (.int .i64 (szR x.bulk left)) := by
 refine Sp_intro (lend := true) Tryz.func35 rfl rfl rfl (fun _ => rfl) (fun c hc hX => ?_)
 have ef := szR_cases (x.name.length) left
 unfold Sgn.wide at hw
 refine Ts hc (Ch.s (.ptr 2000 0) (.box 2000 _ _ rfl (.aggD _)) (Ch.s (dI 0) pa (Ch.nil (Ts hc (Ch.s (dI left) pm ?_)))))
 refine Ch.s (.ptr 2000 0) (fP fld66_0 rfl) (Ch.s (dS x.name) (lP ag9 rfl rfl rfl) (Ch.s (dI (x.name.length : Int)) (.pure (.lenStr _ _ rfl Tryz.underlying9 rfl)) (Ch.s (dI (left - (x.name.length : Int))) (iX rfl rfl intV_subA) (Ch.s (dI (left - (x.name.length : Int))) pa (Ch.nil (Tq (Tq ?_)))))))
 refine Tz hc (Ch.s (dI (left - (x.name.length : Int))) pm (Ch.s (dB (decide ((left - (x.name.length : Int)) < 0))) (iX rfl rfl rfl) (Ch.nil ?_)))
 refine T_condD (p := ((left - (x.name.length : Int)) < 0)) rfl (fun h1 => ?_) (fun h1 => ?_)
 ·
  refine Ts hc (Ch.s (dI (-1)) pa (Ch.nil (T_ret ?_)))
  exact eR [(dI (-1))] [] [] (.cons (.tmp 4 rfl) .nil) eB (Exp.of (congrArg (D.int .i64) (by show _ = szR (x.name.length) left; omega)) (.d _))
 ·
  refine Tk (Ts hc (Ch.s (dI (left - (x.name.length : Int))) pm (Ch.s (dI (left - (x.name.length : Int))) pa (Ch.nil (T_ret ?_)))))
  exact eR [(dI (left - (x.name.length : Int)))] [] [] (.cons (.tmp 4 rfl) .nil) eB (Exp.of (congrArg (D.int .i64) (by show _ = szR (x.name.length) left; omega)) (.d _))

theorem sp_laws_szSignalS (xs : List (Sgn)) (left : Int) (h0 : 0 ≤ left) (h0u : left ≤ 1048576) (hn : xs.length ≤ 9223372036854775807) (hx : ∀ y ∈ xs, Sgn.wide y) : Sp Tryz.prog 13 [(.slice false 2 (xs.map Sgn.d)), (.int .i64 left)] [.any, .any] (.int .i64 (szR (bulkF Sgn.bulk xs) left)) := by
 refine Sp_intro (lend := true) Tryz.func13 rfl rfl rfl (fun _ => rfl) (fun c hc hX => ?_)
 refine Ts hc (Ch.s (dI 0) pa (Ch.nil (Ts hc (Ch.s (dI left) pm (Ch.s (.d (.slice false 2 (xs.map Sgn.d))) pm ?_)))))
 refine Ch.s (dI (xs.length : Int)) (.pure (.len _ _ 66 rfl Tryz.underlying22 (.sh _ _) (by simp))) (Ch.s (dI (left - (xs.length : Int))) (iX rfl rfl intV_subA) (Ch.s (dI (left - (xs.length : Int))) pa (Ch.nil (Tq (Ts hc (Ch.s (dI (left - (xs.length : Int))) pm ?_))))))
 refine Ch.s (dB (decide ((left - (xs.length : Int)) < 0))) (iX rfl rfl rfl) (Ch.nil ?_)
 refine T_condD (p := ((left - (xs.length : Int)) < 0)) rfl (fun h1 => ?_) (fun h1 => ?_)
 ·
  refine Ts hc (Ch.s (dI (-1)) pa (Ch.nil (T_ret ?_)))
  exact eR [(dI (-1))] [] [] (.cons (.tmp 4 rfl) .nil) eB (Exp.of (congrArg (D.int .i64) a32) (.d _))
 ·
  refine Tk (Tq (Ts hc (Ch.s (dI 0) pa (Ch.nil (Tb ?_)))))
  refine T_loop (ι := Nat) (fun k => { n := 27, sl := [(0, (.d (.slice false 2 (xs.map Sgn.d)))), (1, (dI (left - xs.length - sumF Sgn.bulk xs k))), (5, (dI (k : Int)))], hp := [], pin := [] }) (fun k => k ≤ xs.length ∧ 0 ≤ left - xs.length - sumF Sgn.bulk xs k) (fun k => xs.length - k) ⟨0, ⟨by omega, by rw [sumF_zero]; omega⟩, (Wk.of rfl rfl (ar (ai (vI a58) (ai (vI a67) trivial))) trivial)⟩ (fun k hp0 => ?_)
  have hsl := sumF_le Sgn.bulk xs k; have hsc := szR_cases (Sgn.bulk (xs.getD k default)) (left - xs.length - sumF Sgn.bulk xs k)
  refine Tq (Ts hc (Ch.s (dI (k : Int)) pm (Ch.s (.d (.slice false 2 (xs.map Sgn.d))) pm (Ch.s (dI (xs.length : Int)) (.pure (.len _ _ 66 rfl Tryz.underlying22 (.sh _ _) (by simp))) (Ch.s (dB (decide ((k : Int) < (xs.length : Int)))) (iX rfl rfl rfl) (Ch.nil ?_))))))
  refine T_condD (p := ((k : Int) < (xs.length : Int))) rfl (fun h2 => ?_) (fun h2 => ?_)
  ·
   try have hk := hx _ (getD_mem (l := xs) (j := k) (d := default) (by omega))
   try have hs1 := sumF_succ Sgn.bulk (xs := xs) (k := k) (by omega)
   try have hs2 := sumF_le Sgn.bulk xs (k + 1)
   refine Tk (Tq (Tb (Ts hc (Ch.s (.d (.slice false 2 (xs.map Sgn.d))) pm (Ch.s (dI (k : Int)) pm (Ch.s (.d (.ref (.agg [(.str ((xs.getD k default).name)), (.int .i64 ((xs.getD k default).kind))]))) (.pure (.idx _ _ _ 66 (k) rfl Tryz.underlying22 sz66 rfl rfl rfl get_mapA)) ?_))))))
   refine Ch.s (.d (.agg [(.str ((xs.getD k default).name)), (.int .i64 ((xs.getD k default).kind))])) (.pure (.loadRefA _ _ rfl ag66 sz66 rfl)) (Ch.s (dI (left - xs.length - sumF Sgn.bulk xs k)) pm (Ch.s (dI (szR (xs.getD k default).bulk (left - xs.length - sumF Sgn.bulk xs k))) (.call 23000 35 _ _ _ en35 rfl (.inl rfl) (.cons (.d _) (.cons (.d _) .nil)) rfl rfl (sp_laws_szSignal (xs.getD k default) (left - xs.length - sumF Sgn.bulk xs k) a16 a16 a25) (.skip _ _ (.skip _ _ .nil)) rfl) (Ch.s (dI (szR (xs.getD k default).bulk (left - xs.length - sumF Sgn.bulk xs k))) pa (Ch.nil (Ts hc (Ch.s (dI (szR (xs.getD k default).bulk (left - xs.length - sumF Sgn.bulk xs k))) pm ?_))))))
   refine Ch.s (dB (decide ((szR (xs.getD k default).bulk (left - xs.length - sumF Sgn.bulk xs k)) < 0))) (iX rfl rfl rfl) (Ch.nil ?_)
   refine T_condD (p := ((szR (xs.getD k default).bulk (left - xs.length - sumF Sgn.bulk xs k)) < 0)) rfl (fun h3 => ?_) (fun h3 => ?_)
   ·
    refine Ts hc (Ch.s (dI (-1)) pa (Ch.nil (T_ret ?_)))
    exact eR [(dI (-1))] [] [] (.cons (.tmp 4 rfl) .nil) eB (Exp.of (congrArg (D.int .i64) a32) (.d _))
   ·
    refine Tk (Tz hc (Ch.s (dI (k : Int)) pm (Ch.s (dI ((k : Int) + 1)) (iX rfl rfl intV_addA) (Ch.s (dI ((k : Int) + 1)) pa (Ch.nil ?_)))))
    exact nx (k + 1) ⟨by omega, by rw [sumF_succ _ (by omega)]; omega⟩ (Wk.of rfl rfl (ar (ai (vI a58) (ai (vI a67) trivial))) trivial)
  ·
   try have hk := hx _ (getD_mem (l := xs) (j := k) (d := default) (by omega))
   try have hs1 := sumF_succ Sgn.bulk (xs := xs) (k := k) (by omega)
   try have hs2 := sumF_le Sgn.bulk xs (k + 1)
   refine T_exit (Ts hc (Ch.s (dI (left - xs.length - sumF Sgn.bulk xs k)) pm (Ch.s (dI (left - xs.length - sumF Sgn.bulk xs k)) pa (Ch.nil (T_ret ?_)))))
   exact eR [(dI (left - xs.length - sumF Sgn.bulk xs k))] [] [] (.cons (.tmp 4 rfl) .nil) eB (Exp.of (congrArg (D.int .i64) a32) (.d _))

theorem sp_laws_toSignal (x : Sgn) (hb : x.bulk ≤ 1048576) : Sp Tryz.prog 45 [(.agg [(.str x.name), (.int .i64 x.kind)])] [.any] (.agg [(.str x.name), (.int .i64 x.kind)]) := by
 refine Sp_intro (lend := true) Tryz.func45 rfl rfl rfl (fun _ => rfl) (fun c hc hX => ?_)
 have hp0 := Sgn.parts hb
 refine Ts hc (Ch.s (.ptr 1000 0) (.box 1000 _ _ rfl (.aggD _)) (Ch.s (.ptr 2000 0) (.alloc 2000 _ rfl zer76) (Ch.nil (Ts hc (Ch.s (.ptr 3000 0) (.alloc 3000 _ rfl zer76) ?_)))))
 refine Ch.nil (Ts hc (Ch.s (.ptr 1000 0) (fP fld66_0 rfl) (Ch.s (dS x.name) (lP ag9 rfl rfl rfl) (Ch.s (.ptr 3000 0) (fP fld76_0 rfl) (Ch.s .junk (.storePtr _ _ _ rfl rfl rfl (.one _ rfl) sz9 (lb rfl)) (Ch.nil ?_))))))
 refine Ts hc (Ch.s (.ptr 1000 1) (fP fld66_1 rfl) (Ch.s (dI x.kind) (lP ag3 rfl rfl rfl) (Ch.s (.ptr 3000 1) (fP fld76_1 rfl) (Ch.s .junk (.storePtr _ _ _ rfl rfl rfl (.one _ rfl) sz3 (lb rfl)) (Ch.nil (Tq ?_))))))
 refine Tz hc (Ch.s (.agg [(dS x.name), (dI x.kind)]) (lA ag76 sz76 rfl rfl (lb rfl) rfl) (Ch.s .junk (.storePtr _ _ _ rfl rfl rfl (.agg _ rfl) sz76 (lb rfl)) (Ch.nil (T_ret ?_))))
 exact eR [(.agg [(dS x.name), (dI x.kind)])] [] [] (.cons (.cellA _ _ rfl rfl ag76 sz76) .nil) eA (.agg (.cons (.d _) (.cons (.d _) .nil)) rfl)

theorem sp_laws_toSignalS (xs : List (Sgn)) (hb : bulkF Sgn.bulk xs ≤ 1048576) : Sp Tryz.prog 21 [(.slice false 2 (xs.map Sgn.d))] [.any] (.slice true 2 (xs.map Sgn.d)) := by
 refine Sp_intro (lend := true) Tryz.func21 rfl rfl rfl (fun _ => rfl) (fun c hc hX => ?_)
 have hn := bulkF_len hb
 refine Ts hc (Ch.s (.c (.slice none 0 0)) pa (Ch.nil (Ts hc (Ch.s (.d (.slice false 2 (xs.map Sgn.d))) pm (Ch.s (dI (xs.length : Int)) (.pure (.len _ _ 66 rfl Tryz.underlying22 (.sh _ _) (by simp))) ?_)))))
 refine Ch.s (.row 7000) (.make 7000 _ 76 _ _ (xs.length) (xs.length) rfl sty30 rfl rfl rfl rfl a24 a24 a24 (zeroD_mk (zd := (.agg [(.str []), (.int .i64 0)])) zr76 (by intro S w; exact dr_agg rfl (drs_cons dr_str0 (drs_cons dr_int drs_nil))) rfl)) (Ch.s (.row 7000) pa (Ch.nil (Tq (Ts hc (Ch.s (dI 0) pa (Ch.nil ?_))))))
 refine Tb ?_
 refine T_loop (ι := Nat) (fun k => { n := 23, sl := [(0, (.d (.slice false 2 (xs.map Sgn.d)))), (3, (.row 3)), (4, (dI (k : Int)))], hp := [(3, (some (.row 2 ((fill xs default k).map Sgn.d))))], pin := [] }) (fun k => k ≤ xs.length) (fun k => xs.length - k) ⟨0, (by omega), (Wk.ren [(3, 7000)] rfl rfl rfl rfl (ar (ar (ai (vI a67) trivial))) (ai (oR a38) trivial))⟩ (fun k hp0 => ?_)
 refine Tq (Ts hc (Ch.s (dI (k : Int)) pm (Ch.s (.d (.slice false 2 (xs.map Sgn.d))) pm (Ch.s (dI (xs.length : Int)) (.pure (.len _ _ 66 rfl Tryz.underlying22 (.sh _ _) (by simp))) (Ch.s (dB (decide ((k : Int) < (xs.length : Int)))) (iX rfl rfl rfl) (Ch.nil ?_))))))
 refine T_condD (p := ((k : Int) < (xs.length : Int))) rfl (fun h1 => ?_) (fun h1 => ?_)
 ·
  try have hk := bulkF_mem hb _ (getD_mem (l := xs) (j := k) (d := default) (by omega))
  refine Tk (Tq (Tb (Tz hc (Ch.s (.row 3) pm (Ch.s (dI (k : Int)) pm (Ch.s (.d (.slice false 2 (xs.map Sgn.d))) pm (Ch.s (dI (k : Int)) pm ?_)))))))
  refine Ch.s (.d (.ref (.agg [(.str ((xs.getD k default).name)), (.int .i64 ((xs.getD k default).kind))]))) (.pure (.idx _ _ _ 66 (k) rfl Tryz.underlying22 sz66 rfl rfl rfl get_mapA)) (Ch.s (.d (.agg [(.str ((xs.getD k default).name)), (.int .i64 ((xs.getD k default).kind))])) (.pure (.loadRefA _ _ rfl ag66 sz66 rfl)) (Ch.s (.d (.agg [(.str ((xs.getD k default).name)), (.int .i64 ((xs.getD k default).kind))])) (.call 20000 45 _ _ _ en45 rfl (.inl rfl) (.cons (.d _) .nil) rfl rfl (sp_laws_toSignal (xs.getD k default) a21) (.skip _ _ .nil) rfl) (Ch.s (.el 3 2 k 0) (.pure (.idxRow _ _ _ 76 (k) rfl Tryz.underlying30 sz76 rfl rfl rfl rfl a52)) (Ch.s .junk (.storeEl (y' := (.agg [(.str ((xs.getD k default).name)), (.int .i64 ((xs.getD k default).kind))])) _ _ _ rfl rfl rfl (.d _) rfl sz76 rfl get_mapA rfl rfl) (Ch.nil (Tz hc (Ch.s (dI (k : Int)) pm ?_)))))))
  refine Ch.s (dI ((k : Int) + 1)) (iX rfl rfl intV_addA) (Ch.s (dI ((k : Int) + 1)) pa (Ch.nil ?_))
  exact nx (k + 1) (by omega) (Wk.of rfl rfl (ar (ar (ai (vI a67) trivial))) (ai (oR a38) trivial))
 ·
  try have hk := bulkF_mem hb _ (getD_mem (l := xs) (j := k) (d := default) (by omega))
  refine T_exit (Ts hc (Ch.s (.row 3) pm (Ch.s (.row 3) pa (Ch.nil (T_ret ?_)))))
  exact eR [(.row 3)] [] [3] (.cons (.tmp 2 rfl) .nil) eA (Exp.of (congrArg (D.slice true 2) (by rw [fill_all xs default (by omega)])) (.row rfl))

theorem sp_laws_eqSignal (x y : Sgn) (hb : x.bulk ≤ 1048576) : Sp Tryz.prog 61 [(.agg [(.str x.name), (.int .i64 x.kind)]), (.agg [(.str y.name), (.int .i64 y.kind)])] [.any, .any] (.bool (decide (x = y))) := by
 refine Sp_intro (lend := true) Tryz.func61 rfl rfl rfl (fun _ => rfl) (fun c hc hX => ?_)
 have hp0 := Sgn.parts hb
 refine Ts hc (Ch.s (.ptr 2000 0) (.box 2000 _ _ rfl (.aggD _)) (Ch.s (.ptr 3000 0) (.box 3000 _ _ rfl (.aggD _)) (Ch.s (dB false) pa (Ch.nil (Tq (Tq ?_))))))
 refine Tz hc (Ch.s (.ptr 2000 0) (fP fld76_0 rfl) (Ch.s (dS x.name) (lP ag9 rfl rfl rfl) (Ch.s (.ptr 3000 0) (fP fld76_0 rfl) (Ch.s (dS y.name) (lP ag9 rfl rfl rfl) (Ch.s (dB (!(decide (x.name = y.name)))) (.pure (.str _ _ _ _ _ rfl rfl rfl rfl)) (Ch.nil ?_))))))
 refine T_condN (b := (decide (x.name = y.name))) rfl (fun h1 => ?_) (fun h1 => ?_)
 ·
  replace h1 := odf h1
  refine Ts hc (Ch.s (dB false) pa (Ch.nil (T_ret ?_)))
  exact eR [(dB false)] [] [] (.cons (.tmp 4 rfl) .nil) eB (Exp.of (congrArg D.bool a72) (.d _))
 ·
  replace h1 := odt h1
  refine Tk (Tq (Ts hc (Ch.s (.ptr 2000 1) (fP fld76_1 rfl) (Ch.s (dI x.kind) (lP ag3 rfl rfl rfl) (Ch.s (.ptr 3000 1) (fP fld76_1 rfl) (Ch.s (dI y.kind) (lP ag3 rfl rfl rfl) ?_))))))
  refine Ch.s (dB (!(decide (x.kind = y.kind)))) (iX rfl rfl rfl) (Ch.nil ?_)
  refine T_condN (b := (decide (x.kind = y.kind))) rfl (fun h2 => ?_) (fun h2 => ?_)
  ·
   replace h2 := odf h2
   refine Ts hc (Ch.s (dB false) pa (Ch.nil (T_ret ?_)))
   exact eR [(dB false)] [] [] (.cons (.tmp 4 rfl) .nil) eB (Exp.of (congrArg D.bool a72) (.d _))
  ·
   replace h2 := odt h2
   refine Tk (Ts hc (Ch.s (dB true) pa (Ch.nil (T_ret ?_))))
   exact eR [(dB true)] [] [] (.cons (.tmp 4 rfl) .nil) eB (Exp.of (congrArg D.bool a72) (.d _))

theorem sp_laws_eqSignalS (xs ys : List (Sgn)) (hb : bulkF Sgn.bulk xs ≤ 1048576) : Sp Tryz.prog 30 [(.slice false 2 (xs.map Sgn.d)), (.slice false 2 (ys.map Sgn.d))] [.any, .any] (.bool (decide (xs = ys))) := by
 refine Sp_intro (lend := true) Tryz.func30 rfl rfl rfl (fun _ => rfl) (fun c hc hX => ?_)
 have hn := bulkF_len hb
 refine Ts hc (Ch.s (dB false) pa (Ch.nil (Tq (Ts hc (Ch.s (.d (.slice false 2 (xs.map Sgn.d))) pm ?_)))))
 refine Ch.s (dI (xs.length : Int)) (.pure (.len _ _ 76 rfl Tryz.underlying30 (.sh _ _) (by simp))) (Ch.s (.d (.slice false 2 (ys.map Sgn.d))) pm (Ch.s (dI (ys.length : Int)) (.pure (.len _ _ 76 rfl Tryz.underlying30 (.sh _ _) (by simp))) (Ch.s (dB (!(decide ((xs.length : Int) = (ys.length : Int))))) (iX rfl rfl rfl) (Ch.nil ?_))))
 refine T_condN (b := (decide ((xs.length : Int) = (ys.length : Int)))) rfl (fun h1 => ?_) (fun h1 => ?_)
 ·
  replace h1 := odf h1
  refine Ts hc (Ch.s (dB false) pa (Ch.nil (T_ret ?_)))
  exact eR [(dB false)] [] [] (.cons (.tmp 4 rfl) .nil) eB (Exp.of (congrArg D.bool (by exact eqL_len (by omega))) (.d _))
 ·
  replace h1 := odt h1
  refine Tk (Tq (Ts hc (Ch.s (dI 0) pa (Ch.nil (Tb ?_)))))
  refine T_loop (ι := Nat) (fun k => { n := 27, sl := [(0, (.d (.slice false 2 (xs.map Sgn.d)))), (1, (.d (.slice false 2 (ys.map Sgn.d)))), (5, (dI (k : Int)))], hp := [], pin := [] }) (fun k => k ≤ xs.length ∧ ∀ j, j < k → xs.getD j default = ys.getD j default) (fun k => xs.length - k) ⟨0, ⟨by omega, fun j hj => by omega⟩, (Wk.of rfl rfl (ar (ar (ai (vI a67) trivial))) trivial)⟩ (fun k hp0 => ?_)
  refine Tq (Ts hc (Ch.s (dI (k : Int)) pm (Ch.s (.d (.slice false 2 (xs.map Sgn.d))) pm (Ch.s (dI (xs.length : Int)) (.pure (.len _ _ 76 rfl Tryz.underlying30 (.sh _ _) (by simp))) (Ch.s (dB (decide ((k : Int) < (xs.length : Int)))) (iX rfl rfl rfl) (Ch.nil ?_))))))
  refine T_condD (p := ((k : Int) < (xs.length : Int))) rfl (fun h2 => ?_) (fun h2 => ?_)
  ·
   try have hk := bulkF_mem hb _ (getD_mem (l := xs) (j := k) (d := default) (by omega))
   refine Tk (Tq (Tb (Tq ?_)))
   refine T_regionD hc (by kernel_rfl) ?_
   refine ChD.s (.d (.slice false 2 (xs.map Sgn.d))) [] pm (ChD.s (dI (k : Int)) [] pm (ChD.s (.d (.ref (.agg [(.str ((xs.getD k default).name)), (.int .i64 ((xs.getD k default).kind))]))) [] (.pure (.idx _ _ _ 76 (k) rfl Tryz.underlying30 sz76 rfl rfl rfl get_mapA)) (ChD.s (.d (.agg [(.str ((xs.getD k default).name)), (.int .i64 ((xs.getD k default).kind))])) [] (.pure (.loadRefA _ _ rfl ag76 sz76 rfl)) (ChD.s (.d (.slice false 2 (ys.map Sgn.d))) [] pm (ChD.s (dI (k : Int)) [] pm (ChD.s (.d (.ref (.agg [(.str ((ys.getD k default).name)), (.int .i64 ((ys.getD k default).kind))]))) [] (.pure (.idx _ _ _ 76 (k) rfl Tryz.underlying30 sz76 rfl rfl rfl get_mapA)) (ChD.s (.d (.agg [(.str ((ys.getD k default).name)), (.int .i64 ((ys.getD k default).kind))])) [] (.pure (.loadRefA _ _ rfl ag76 sz76 rfl)) ?_)))))))
   refine ChD.s (dB (decide ((xs.getD k default) = (ys.getD k default)))) [] (.call 25000 61 _ _ _ en61 rfl (.inl rfl) (.cons (.d _) (.cons (.d _) .nil)) rfl rfl (sp_laws_eqSignal (xs.getD k default) (ys.getD k default) a21) (.skip _ _ (.skip _ _ .nil)) rfl) (ChD.s (dB (!(decide ((xs.getD k default) = (ys.getD k default))))) [] (nT rfl) ?_)
   refine ChD.nil (And.intro ?_ (by kernel_rfl))
   refine T_condN (b := (decide ((xs.getD k default) = (ys.getD k default)))) rfl (fun h3 => ?_) (fun h3 => ?_)
   ·
    replace h3 := odf h3
    refine Ts hc (Ch.s (dB false) pa (Ch.nil (T_ret ?_)))
    exact eR [(dB false)] [] [] (.cons (.tmp 4 rfl) .nil) eB (Exp.of (congrArg D.bool a69) (.d _))
   ·
    replace h3 := odt h3
    refine Tk (Tz hc (Ch.s (dI (k : Int)) pm (Ch.s (dI ((k : Int) + 1)) (iX rfl rfl intV_addA) (Ch.s (dI ((k : Int) + 1)) pa (Ch.nil ?_)))))
    exact nx (k + 1) ⟨by omega, upto_succ hp0.2 (by assumption)⟩ (Wk.of rfl rfl (ar (ar (ai (vI a67) trivial))) trivial)
  ·
   try have hk := bulkF_mem hb _ (getD_mem (l := xs) (j := k) (d := default) (by omega))
   refine T_exit (Ts hc (Ch.s (dB true) pa (Ch.nil (T_ret ?_))))
   exact eR [(dB true)] [] [] (.cons (.tmp 4 rfl) .nil) eB (Exp.of (congrArg D.bool a62) (.d _))

theorem sp_laws_szArcS (xs : List (Arc)) (left : Int) (h0 : 0 ≤ left) (h0u : left ≤ 1048576) (hn : xs.length ≤ 9223372036854775807) (hx : ∀ y ∈ xs, Arc.wide y) : Sp Tryz.prog 15 [(.slice false 4 (xs.map Arc.d)), (.int .i64 left)] [.any, .any] (.int .i64 (szR (bulkF Arc.bulk xs) left)) := by
 refine Sp_intro (lend := true) Tryz.func15 rfl rfl rfl (fun _ => rfl) (fun c hc hX => ?_)
 have hz : (xs.map Arc.bulk).sum = 0 := sum_zero (fun _ => rfl) xs
 refine Ts hc (Ch.s (dI 0) pa (Ch.nil (Ts hc (Ch.s (dI left) pm (Ch.s (.d (.slice false 4 (xs.map Arc.d))) pm ?_)))))
 refine Ch.s (dI (xs.length : Int)) (.pure (.len _ _ 79 rfl Tryz.underlying24 (.sh _ _) (by simp))) (Ch.s (dI (left - (xs.length : Int))) (iX rfl rfl intV_subA) (Ch.s (dI (left - (xs.length : Int))) pa (Ch.nil (Tq (Ts hc (Ch.s (dI (left - (xs.length : Int))) pm ?_))))))
 refine Ch.s (dB (decide ((left - (xs.length : Int)) < 0))) (iX rfl rfl rfl) (Ch.nil ?_)
 refine T_condD (p := ((left - (xs.length : Int)) < 0)) rfl (fun h1 => ?_) (fun h1 => ?_)
 ·
  refine Ts hc (Ch.s (dI (-1)) pa (Ch.nil (T_ret ?_)))
  exact eR [(dI (-1))] [] [] (.cons (.tmp 4 rfl) .nil) eB (Exp.of (congrArg (D.int .i64) (by rw [szR, bulkF, hz]; split <;> omega)) (.d _))
 ·
  refine Tk (Ts hc (Ch.s (dI (left - (xs.length : Int))) pm (Ch.s (dI (left - (xs.length : Int))) pa (Ch.nil (T_ret ?_)))))
  exact eR [(dI (left - (xs.length : Int)))] [] [] (.cons (.tmp 4 rfl) .nil) eB (Exp.of (congrArg (D.int .i64) (by rw [szR, bulkF, hz]; split <;> omega)) (.d _))

theorem sp_laws_toArc (x : Arc) (hb : x.bulk ≤ 1048576) : Sp Tryz.prog 46 [(.agg [(.int .i64 x.src), (.int .i64 x.sig), (.bool (x.up)), (.int .i64 x.dst)])] [.any] (.agg [(.int .i64 x.src), (.int .i64 x.sig), (.bool (x.up)), (.int .i64 x.dst)]) := by
 refine Sp_intro (lend := true) Tryz.func46 rfl rfl rfl (fun _ => rfl) (fun c hc hX => ?_)
 refine Ts hc (Ch.s (.ptr 1000 0) (.box 1000 _ _ rfl (.aggD _)) (Ch.s (.ptr 2000 0) (.alloc 2000 _ rfl zer70) (Ch.nil (Ts hc (Ch.s (.ptr 3000 0) (.alloc 3000 _ rfl zer70) ?_)))))
 refine Ch.nil (Ts hc (Ch.s (.ptr 1000 0) (fP fld79_0 rfl) (Ch.s (dI x.src) (lP ag3 rfl rfl rfl) (Ch.s (.ptr 3000 0) (fP fld70_0 rfl) (Ch.s .junk (.storePtr _ _ _ rfl rfl rfl (.one _ rfl) sz3 (lb rfl)) (Ch.nil ?_))))))
 refine Ts hc (Ch.s (.ptr 1000 1) (fP fld79_1 rfl) (Ch.s (dI x.sig) (lP ag3 rfl rfl rfl) (Ch.s (.ptr 3000 1) (fP fld70_1 rfl) (Ch.s .junk (.storePtr _ _ _ rfl rfl rfl (.one _ rfl) sz3 (lb rfl)) (Ch.nil (Tq ?_))))))
 refine Tz hc (Ch.s (.ptr 1000 2) (fP fld79_2 rfl) (Ch.s (dB (x.up)) (lP ag4 rfl rfl rfl) (Ch.s (.ptr 3000 2) (fP fld70_2 rfl) (Ch.s .junk (.storePtr _ _ _ rfl rfl rfl (.one _ rfl) sz4 (lb rfl)) (Ch.nil (Tq (Tz hc ?_)))))))
 refine Ch.s (.ptr 1000 3) (fP fld79_3 rfl) (Ch.s (dI x.dst) (lP ag3 rfl rfl rfl) (Ch.s (.ptr 3000 3) (fP fld70_3 rfl) (Ch.s .junk (.storePtr _ _ _ rfl rfl rfl (.one _ rfl) sz3 (lb rfl)) (Ch.nil (Ts hc (Ch.s (.agg [(dI x.src), (dI x.sig), (dB (x.up)), (dI x.dst)]) (lA ag70 sz70 rfl rfl (lb rfl) rfl) ?_))))))
 refine Ch.s .junk (.storePtr _ _ _ rfl rfl rfl (.agg _ rfl) sz70 (lb rfl)) (Ch.nil (T_ret ?_))
 exact eR [(.agg [(dI x.src), (dI x.sig), (dB (x.up)), (dI x.dst)])] [] [] (.cons (.cellA _ _ rfl rfl ag70 sz70) .nil) eA (.agg (.cons (.d _) (.cons (.d _) (.cons (.d _) (.cons (.d _) .nil)))) rfl)

theorem sp_laws_toArcS (xs : List (Arc)) (hb : bulkF Arc.bulk xs ≤ 1048576) : Sp Tryz.prog 23 [(.slice false 4 (xs.map Arc.d))] [.any] (.slice true 4 (xs.map Arc.d)) := by
 refine Sp_intro (lend := true) Tryz.func23 rfl rfl rfl (fun _ => rfl) (fun c hc hX => ?_)
 have hn := bulkF_len hb
 refine Ts hc (Ch.s (.c (.slice none 0 0)) pa (Ch.nil (Ts hc (Ch.s (.d (.slice false 4 (xs.map Arc.d))) pm (Ch.s (dI (xs.length : Int)) (.pure (.len _ _ 79 rfl Tryz.underlying24 (.sh _ _) (by simp))) ?_)))))
 refine Ch.s (.row 7000) (.make 7000 _ 70 _ _ (xs.length) (xs.length) rfl sty31 rfl rfl rfl rfl a24 a24 a24 (zeroD_mk (zd := (.agg [(.int .i64 0), (.int .i64 0), (.bool false), (.int .i64 0)])) zr70 (by intro S w; exact dr_agg rfl (drs_cons dr_int (drs_cons dr_int (drs_cons dr_bool (drs_cons dr_int drs_nil))))) rfl)) (Ch.s (.row 7000) pa (Ch.nil (Tq (Ts hc (Ch.s (dI 0) pa (Ch.nil ?_))))))
 refine Tb ?_
 refine T_loop (ι := Nat) (fun k => { n := 23, sl := [(0, (.d (.slice false 4 (xs.map Arc.d)))), (3, (.row 3)), (4, (dI (k : Int)))], hp := [(3, (some (.row 4 ((fill xs default k).map Arc.d))))], pin := [] }) (fun k => k ≤ xs.length) (fun k => xs.length - k) ⟨0, (by omega), (Wk.ren [(3, 7000)] rfl rfl rfl rfl (ar (ar (ai (vI a67) trivial))) (ai (oR a38) trivial))⟩ (fun k hp0 => ?_)
 refine Tq (Ts hc (Ch.s (dI (k : Int)) pm (Ch.s (.d (.slice false 4 (xs.map Arc.d))) pm (Ch.s (dI (xs.length : Int)) (.pure (.len _ _ 79 rfl Tryz.underlying24 (.sh _ _) (by simp))) (Ch.s (dB (decide ((k : Int) < (xs.length : Int)))) (iX rfl rfl rfl) (Ch.nil ?_))))))
 refine T_condD (p := ((k : Int) < (xs.length : Int))) rfl (fun h1 => ?_) (fun h1 => ?_)
 ·
  try have hk := bulkF_mem hb _ (getD_mem (l := xs) (j := k) (d := default) (by omega))
  refine Tk (Tq (Tb (Tz hc (Ch.s (.row 3) pm (Ch.s (dI (k : Int)) pm (Ch.s (.d (.slice false 4 (xs.map Arc.d))) pm (Ch.s (dI (k : Int)) pm ?_)))))))
  refine Ch.s (.d (.ref (.agg [(.int .i64 ((xs.getD k default).src)), (.int .i64 ((xs.getD k default).sig)), (.bool ((xs.getD k default).up)), (.int .i64 ((xs.getD k default).dst))]))) (.pure (.idx _ _ _ 79 (k) rfl Tryz.underlying24 sz79 rfl rfl rfl get_mapA)) (Ch.s (.d (.agg [(.int .i64 ((xs.getD k default).src)), (.int .i64 ((xs.getD k default).sig)), (.bool ((xs.getD k default).up)), (.int .i64 ((xs.getD k default).dst))])) (.pure (.loadRefA _ _ rfl ag79 sz79 rfl)) (Ch.s (.d (.agg [(.int .i64 ((xs.getD k default).src)), (.int .i64 ((xs.getD k default).sig)), (.bool ((xs.getD k default).up)), (.int .i64 ((xs.getD k default).dst))])) (.call 20000 46 _ _ _ en46 rfl (.inl rfl) (.cons (.d _) .nil) rfl rfl (sp_laws_toArc (xs.getD k default) a21) (.skip _ _ .nil) rfl) (Ch.s (.el 3 4 k 0) (.pure (.idxRow _ _ _ 70 (k) rfl Tryz.underlying31 sz70 rfl rfl rfl rfl a52)) (Ch.s .junk (.storeEl (y' := (.agg [(.int .i64 ((xs.getD k default).src)), (.int .i64 ((xs.getD k default).sig)), (.bool ((xs.getD k default).up)), (.int .i64 ((xs.getD k default).dst))])) _ _ _ rfl rfl rfl (.d _) rfl sz70 rfl get_mapA rfl rfl) (Ch.nil (Tz hc (Ch.s (dI (k : Int)) pm ?_)))))))
  refine Ch.s (dI ((k : Int) + 1)) (iX rfl rfl intV_addA) (Ch.s (dI ((k : Int) + 1)) pa (Ch.nil ?_))
  exact nx (k + 1) (by omega) (Wk.of rfl rfl (ar (ar (ai (vI a67) trivial))) (ai (oR a38) trivial))
 ·
  try have hk := bulkF_mem hb _ (getD_mem (l := xs) (j := k) (d := default) (by omega))
  refine T_exit (Ts hc (Ch.s (.row 3) pm (Ch.s (.row 3) pa (Ch.nil (T_ret ?_)))))
  exact eR [(.row 3)] [] [3] (.cons (.tmp 2 rfl) .nil) eA (Exp.of (congrArg (D.slice true 4) (by rw [fill_all xs default (by omega)])) (.row rfl))

theorem sp_laws_eqArc (x y : Arc) (hb : x.bulk ≤ 1048576) : Sp Tryz.prog 62 [(.agg [(.int .i64 x.src), (.int .i64 x.sig), (.bool (x.up)), (.int .i64 x.dst)]), (.agg [(.int .i64 y.src), (.int .i64 y.sig), (.bool (y.up)), (.int .i64 y.dst)])] [.any, .any] (.bool (decide (x = y))) := by
 refine Sp_intro (lend := true) Tryz.func62 rfl rfl rfl (fun _ => rfl) (fun c hc hX => ?_)
 refine Ts hc (Ch.s (.ptr 2000 0) (.box 2000 _ _ rfl (.aggD _)) (Ch.s (.ptr 3000 0) (.box 3000 _ _ rfl (.aggD _)) (Ch.s (dB false) pa (Ch.nil (Tq (Tq ?_))))))
 refine Tz hc (Ch.s (.ptr 2000 0) (fP fld70_0 rfl) (Ch.s (dI x.src) (lP ag3 rfl rfl rfl) (Ch.s (.ptr 3000 0) (fP fld70_0 rfl) (Ch.s (dI y.src) (lP ag3 rfl rfl rfl) (Ch.s (dB (!(decide (x.src = y.src)))) (iX rfl rfl rfl) (Ch.nil ?_))))))
 refine T_condN (b := (decide (x.src = y.src))) rfl (fun h1 => ?_) (fun h1 => ?_)
 ·
  replace h1 := odf h1
  refine Ts hc (Ch.s (dB false) pa (Ch.nil (T_ret ?_)))
  exact eR [(dB false)] [] [] (.cons (.tmp 4 rfl) .nil) eB (Exp.of (congrArg D.bool a72) (.d _))
 ·
  replace h1 := odt h1
  refine Tk (Tq (Ts hc (Ch.s (.ptr 2000 1) (fP fld70_1 rfl) (Ch.s (dI x.sig) (lP ag3 rfl rfl rfl) (Ch.s (.ptr 3000 1) (fP fld70_1 rfl) (Ch.s (dI y.sig) (lP ag3 rfl rfl rfl) ?_))))))
  refine Ch.s (dB (!(decide (x.sig = y.sig)))) (iX rfl rfl rfl) (Ch.nil ?_)
  refine T_condN (b := (decide (x.sig = y.sig))) rfl (fun h2 => ?_) (fun h2 => ?_)
  ·
   replace h2 := odf h2
   refine Ts hc (Ch.s (dB false) pa (Ch.nil (T_ret ?_)))
   exact eR [(dB false)] [] [] (.cons (.tmp 4 rfl) .nil) eB (Exp.of (congrArg D.bool a72) (.d _))
  ·
   replace h2 := odt h2
   refine Tk (Tq (Ts hc (Ch.s (.ptr 2000 2) (fP fld70_2 rfl) (Ch.s (dB (x.up)) (lP ag4 rfl rfl rfl) (Ch.s (.ptr 3000 2) (fP fld70_2 rfl) (Ch.s (dB (y.up)) (lP ag4 rfl rfl rfl) ?_))))))
   refine Ch.s (dB (!(decide ((x.up) = (y.up))))) (.pure (.neB _ _ _ _ rfl Tryz.underlying4 rfl rfl)) (Ch.nil ?_)
   refine T_condN (b := (decide ((x.up) = (y.up)))) rfl (fun h3 => ?_) (fun h3 => ?_)
   ·
    replace h3 := odf h3
    refine Ts hc (Ch.s (dB false) pa (Ch.nil (T_ret ?_)))
    exact eR [(dB false)] [] [] (.cons (.tmp 4 rfl) .nil) eB (Exp.of (congrArg D.bool a72) (.d _))
   ·
    replace h3 := odt h3
    refine Tk (Tq (Ts hc (Ch.s (.ptr 2000 3) (fP fld70_3 rfl) (Ch.s (dI x.dst) (lP ag3 rfl rfl rfl) (Ch.s (.ptr 3000 3) (fP fld70_3 rfl) (Ch.s (dI y.dst) (lP ag3 rfl rfl rfl) ?_))))))
    refine Ch.s (dB (!(decide (x.dst = y.dst)))) (iX rfl rfl rfl) (Ch.nil ?_)
    refine T_condN (b := (decide (x.dst = y.dst))) rfl (fun h4 => ?_) (fun h4 => ?_)
    ·
     replace h4 := odf h4
     refine Ts hc (Ch.s (dB false) pa (Ch.nil (T_ret ?_)))
     exact eR [(dB false)] [] [] (.cons (.tmp 4 rfl) .nil) eB (Exp.of (congrArg D.bool a72) (.d _))
    ·
     replace h4 := odt h4
     refine Tk (Ts hc (Ch.s (dB true) pa (Ch.nil (T_ret ?_))))
     exact eR [(dB true)] [] [] (.cons (.tmp 4 rfl) .nil) eB (Exp.of (congrArg D.bool a72) (.d _))

theorem sp_laws_eqArcS (xs ys : List (Arc)) (hb : bulkF Arc.bulk xs ≤ 1048576) : Sp Tryz.prog 31 [(.slice false 4 (xs.map Arc.d)), (.slice false 4 (ys.map Arc.d))] [.any, .any] (.bool (decide (xs = ys))) := by
 refine Sp_intro (lend := true) Tryz.func31 rfl rfl rfl (fun _ => rfl) (fun c hc hX => ?_)
 have hn := bulkF_len hb
 refine Ts hc (Ch.s (dB false) pa (Ch.nil (Tq (Ts hc (Ch.s (.d (.slice false 4 (xs.map Arc.d))) pm ?_)))))
 refine Ch.s (dI (xs.length : Int)) (.pure (.len _ _ 70 rfl Tryz.underlying31 (.sh _ _) (by simp))) (Ch.s (.d (.slice false 4 (ys.map Arc.d))) pm (Ch.s (dI (ys.length : Int)) (.pure (.len _ _ 70 rfl Tryz.underlying31 (.sh _ _) (by simp))) (Ch.s (dB (!(decide ((xs.length : Int) = (ys.length : Int))))) (iX rfl rfl rfl) (Ch.nil ?_))))
 refine T_condN (b := (decide ((xs.length : Int) = (ys.length : Int)))) rfl (fun h1 => ?_) (fun h1 => ?_)
 ·
  replace h1 := odf h1
  refine Ts hc (Ch.s (dB false) pa (Ch.nil (T_ret ?_)))
  exact eR [(dB false)] [] [] (.cons (.tmp 4 rfl) .nil) eB (Exp.of (congrArg D.bool (by exact eqL_len (by omega))) (.d _))
 ·
  replace h1 := odt h1
  refine Tk (Tq (Ts hc (Ch.s (dI 0) pa (Ch.nil (Tb ?_)))))
  refine T_loop (ι := Nat) (fun k => { n := 27, sl := [(0, (.d (.slice false 4 (xs.map Arc.d)))), (1, (.d (.slice false 4 (ys.map Arc.d)))), (5, (dI (k : Int)))], hp := [], pin := [] }) (fun k => k ≤ xs.length ∧ ∀ j, j < k → xs.getD j default = ys.getD j default) (fun k => xs.length - k) ⟨0, ⟨by omega, fun j hj => by omega⟩, (Wk.of rfl rfl (ar (ar (ai (vI a67) trivial))) trivial)⟩ (fun k hp0 => ?_)
  refine Tq (Ts hc (Ch.s (dI (k : Int)) pm (Ch.s (.d (.slice false 4 (xs.map Arc.d))) pm (Ch.s (dI (xs.length : Int)) (.pure (.len _ _ 70 rfl Tryz.underlying31 (.sh _ _) (by simp))) (Ch.s (dB (decide ((k : Int) < (xs.length : Int)))) (iX rfl rfl rfl) (Ch.nil ?_))))))
  refine T_condD (p := ((k : Int) < (xs.length : Int))) rfl (fun h2 => ?_) (fun h2 => ?_)
  ·
   try have hk := bulkF_mem hb _ (getD_mem (l := xs) (j := k) (d := default) (by omega))
   refine Tk (Tq (Tb (Tq ?_)))
   refine T_regionD hc (by kernel_rfl) ?_
   refine ChD.s (.d (.slice false 4 (xs.map Arc.d))) [] pm (ChD.s (dI (k : Int)) [] pm (ChD.s (.d (.ref (.agg [(.int .i64 ((xs.getD k default).src)), (.int .i64 ((xs.getD k default).sig)), (.bool ((xs.getD k default).up)), (.int .i64 ((xs.getD k default).dst))]))) [] (.pure (.idx _ _ _ 70 (k) rfl Tryz.underlying31 sz70 rfl rfl rfl get_mapA)) (ChD.s (.d (.agg [(.int .i64 ((xs.getD k default).src)), (.int .i64 ((xs.getD k default).sig)), (.bool ((xs.getD k default).up)), (.int .i64 ((xs.getD k default).dst))])) [] (.pure (.loadRefA _ _ rfl ag70 sz70 rfl)) (ChD.s (.d (.slice false 4 (ys.map Arc.d))) [] pm (ChD.s (dI (k : Int)) [] pm (ChD.s (.d (.ref (.agg [(.int .i64 ((ys.getD k default).src)), (.int .i64 ((ys.getD k default).sig)), (.bool ((ys.getD k default).up)), (.int .i64 ((ys.getD k default).dst))]))) [] (.pure (.idx _ _ _ 70 (k) rfl Tryz.underlying31 sz70 rfl rfl rfl get_mapA)) (ChD.s (.d (.agg [(.int .i64 ((ys.getD k default).src)), (.int .i64 ((ys.getD k default).sig)), (.bool ((ys.getD k default).up)), (.int .i64 ((ys.getD k default).dst))])) [] (.pure (.loadRefA _ _ rfl ag70 sz70 rfl)) ?_)))))))
   refine ChD.s (dB (decide ((xs.getD k default) = (ys.getD k default)))) [] (.call 25000 62 _ _ _ en62 rfl (.inl rfl) (.cons (.d _) (.cons (.d _) .nil)) rfl rfl (sp_laws_eqArc (xs.getD k default) (ys.getD k default) a21) (.skip _ _ (.skip _ _ .nil)) rfl) (ChD.s (dB (!(decide ((xs.getD k default) = (ys.getD k default))))) [] (nT rfl) ?_)
   refine ChD.nil (And.intro ?_ (by kernel_rfl))
   refine T_condN (b := (decide ((xs.getD k default) = (ys.getD k default)))) rfl (fun h3 => ?_) (fun h3 => ?_)
   ·
    replace h3 := odf h3
    refine Ts hc (Ch.s (dB false) pa (Ch.nil (T_ret ?_)))
    exact eR [(dB false)] [] [] (.cons (.tmp 4 rfl) .nil) eB (Exp.of (congrArg D.bool a69) (.d _))
   ·
    replace h3 := odt h3
    refine Tk (Tz hc (Ch.s (dI (k : Int)) pm (Ch.s (dI ((k : Int) + 1)) (iX rfl rfl intV_addA) (Ch.s (dI ((k : Int) + 1)) pa (Ch.nil ?_)))))
    exact nx (k + 1) ⟨by omega, upto_succ hp0.2 (by assumption)⟩ (Wk.of rfl rfl (ar (ar (ai (vI a67) trivial))) trivial)
  ·
   try have hk := bulkF_mem hb _ (getD_mem (l := xs) (j := k) (d := default) (by omega))
   refine T_exit (Ts hc (Ch.s (dB true) pa (Ch.nil (T_ret ?_))))
   exact eR [(dB true)] [] [] (.cons (.tmp 4 rfl) .nil) eB (Exp.of (congrArg D.bool a62) (.d _))

theorem sp_laws_szStateGraph (x : Sgr) (left : Int) (h0 : 0 ≤ left) (h0u : left ≤ 1048576) (hw : x.wide) : Sp Tryz.prog 4 [(.agg [(.slice false 2 (x.sigs.map Sgn.d)), (.slice false 1 (x.codes.map D.str)), (.slice false 4 (x.arcs.map Arc.d))]), (.int .i64 left)] [.any, .any] (.int .i64 (szR x.bulk left)) := by
 refine Sp_intro (lend := true) Tryz.func4 rfl rfl rfl (fun _ => rfl) (fun c hc hX => ?_)
 have e0 := szR_cases (bulkF Sgn.bulk x.sigs) left
 have e1 := szS_cases x.codes (szR (bulkF Sgn.bulk x.sigs) left)
 have e2 := szR_cases (bulkF Arc.bulk x.arcs) (szS x.codes (szR (bulkF Sgn.bulk x.sigs) left))
 have ef := szR_cases (bulkF Sgn.bulk x.sigs + bulkS x.codes + bulkF Arc.bulk x.arcs) left
 unfold Sgr.wide at hw
 refine Ts hc (Ch.s (.ptr 2000 0) (.box 2000 _ _ rfl (.aggD _)) (Ch.s (dI 0) pa (Ch.nil (Ts hc (Ch.s (.ptr 2000 0) (fP fld26_0 rfl) ?_)))))
 refine Ch.s (.d (.slice false 2 (x.sigs.map Sgn.d))) (lP ag22 rfl rfl rfl) (Ch.s (dI left) pm (Ch.s (dI (szR (bulkF Sgn.bulk x.sigs) left)) (.call 8000 13 _ _ _ en13 rfl (.inl rfl) (.cons (.d _) (.cons (.d _) .nil)) rfl rfl (sp_laws_szSignalS x.sigs left a16 a16 a25 a25) (.skip _ _ (.skip _ _ .nil)) rfl) (Ch.s (dI (szR (bulkF Sgn.bulk x.sigs) left)) pa (Ch.nil (Tq (Tq (Tz hc ?_)))))))
 refine Ch.s (dI (szR (bulkF Sgn.bulk x.sigs) left)) pm (Ch.s (dB (decide ((szR (bulkF Sgn.bulk x.sigs) left) < 0))) (iX rfl rfl rfl) (Ch.nil ?_))
 refine T_condD (p := ((szR (bulkF Sgn.bulk x.sigs) left) < 0)) rfl (fun h1 => ?_) (fun h1 => ?_)
 ·
  refine Ts hc (Ch.s (dI (-1)) pa (Ch.nil (T_ret ?_)))
  exact eR [(dI (-1))] [] [] (.cons (.tmp 4 rfl) .nil) eB (Exp.of (congrArg (D.int .i64) a49) (.d _))
 ·
  refine Tk (Ts hc (Ch.s (.ptr 2000 1) (fP fld26_1 rfl) (Ch.s (.d (.slice false 1 (x.codes.map D.str))) (lP ag23 rfl rfl rfl) (Ch.s (dI (szR (bulkF Sgn.bulk x.sigs) left)) pm (Ch.s (dI (szS x.codes (szR (bulkF Sgn.bulk x.sigs) left))) (.call 14000 14 _ _ _ en14 rfl (.inl rfl) (.cons (.d _) (.cons (.d _) .nil)) rfl rfl (sp_laws_szStringS x.codes (szR (bulkF Sgn.bulk x.sigs) left) a16 a16 a16 a16) (.skip _ _ (.skip _ _ .nil)) rfl) (Ch.s (dI (szS x.codes (szR (bulkF Sgn.bulk x.sigs) left))) pa ?_))))))
  refine Ch.nil (Tq (Ts hc (Ch.s (dI (szS x.codes (szR (bulkF Sgn.bulk x.sigs) left))) pm (Ch.s (dB (decide ((szS x.codes (szR (bulkF Sgn.bulk x.sigs) left)) < 0))) (iX rfl rfl rfl) (Ch.nil ?_)))))
  refine T_condD (p := ((szS x.codes (szR (bulkF Sgn.bulk x.sigs) left)) < 0)) rfl (fun h2 => ?_) (fun h2 => ?_)
  ·
   refine Ts hc (Ch.s (dI (-1)) pa (Ch.nil (T_ret ?_)))
   exact eR [(dI (-1))] [] [] (.cons (.tmp 4 rfl) .nil) eB (Exp.of (congrArg (D.int .i64) a49) (.d _))
  ·
   refine Tk (Ts hc (Ch.s (.ptr 2000 2) (fP fld26_2 rfl) (Ch.s (.d (.slice false 4 (x.arcs.map Arc.d))) (lP ag24 rfl rfl rfl) (Ch.s (dI (szS x.codes (szR (bulkF Sgn.bulk x.sigs) left))) pm (Ch.s (dI (szR (bulkF Arc.bulk x.arcs) (szS x.codes (szR (bulkF Sgn.bulk x.sigs) left)))) (.call 20000 15 _ _ _ en15 rfl (.inl rfl) (.cons (.d _) (.cons (.d _) .nil)) rfl rfl (sp_laws_szArcS x.arcs (szS x.codes (szR (bulkF Sgn.bulk x.sigs) left)) a16 a16 a25 a25) (.skip _ _ (.skip _ _ .nil)) rfl) (Ch.s (dI (szR (bulkF Arc.bulk x.arcs) (szS x.codes (szR (bulkF Sgn.bulk x.sigs) left)))) pa ?_))))))
   refine Ch.nil (Tq (Ts hc (Ch.s (dI (szR (bulkF Arc.bulk x.arcs) (szS x.codes (szR (bulkF Sgn.bulk x.sigs) left)))) pm (Ch.s (dB (decide ((szR (bulkF Arc.bulk x.arcs) (szS x.codes (szR (bulkF Sgn.bulk x.sigs) left))) < 0))) (iX rfl rfl rfl) (Ch.nil ?_)))))
   refine T_condD (p := ((szR (bulkF Arc.bulk x.arcs) (szS x.codes (szR (bulkF Sgn.bulk x.sigs) left))) < 0)) rfl (fun h3 => ?_) (fun h3 => ?_)
   ·
    refine Ts hc (Ch.s (dI (-1)) pa (Ch.nil (T_ret ?_)))
    exact eR [(dI (-1))] [] [] (.cons (.tmp 4 rfl) .nil) eB (Exp.of (congrArg (D.int .i64) a49) (.d _))
   ·
    refine Tk (Ts hc (Ch.s (dI (szR (bulkF Arc.bulk x.arcs) (szS x.codes (szR (bulkF Sgn.bulk x.sigs) left)))) pm (Ch.s (dI (szR (bulkF Arc.bulk x.arcs) (szS x.codes (szR (bulkF Sgn.bulk x.sigs) left)))) pa (Ch.nil (T_ret ?_)))))
    exact eR [(dI (szR (bulkF Arc.bulk x.arcs) (szS x.codes (szR (bulkF Sgn.bulk x.sigs) left))))] [] [] (.cons (.tmp 4 rfl) .nil) eB (Exp.of (congrArg (D.int .i64) a49) (.d _))

theorem sp_laws_toStateGraph (x : Sgr) (hb : x.bulk ≤ 1048576) : Sp Tryz.prog 6 [(.agg [(.slice false 2 (x.sigs.map Sgn.d)), (.slice false 1 (x.codes.map D.str)), (.slice false 4 (x.arcs.map Arc.d))])] [.any] (.agg [(.slice true 2 (x.sigs.map Sgn.d)), (.slice true 1 (x.codes.map D.str)), (.slice true 4 (x.arcs.map Arc.d))]) := by
 refine Sp_intro (lend := true) Tryz.func6 rfl rfl rfl (fun _ => rfl) (fun c hc hX => ?_)
 obtain ⟨hp0, hp1, hp2⟩ := Sgr.parts hb
 have hn0 := bulkF_len hp0
 have hn1 := bulk_len hp1
 have hx1 := bulk_mem hp1
 have hn2 := bulkF_len hp2
 refine Ts hc (Ch.s (.ptr 1000 0) (.box 1000 _ _ rfl (.aggD _)) (Ch.s (.ptr 2000 0) (.alloc 2000 _ rfl zer33) (Ch.nil (Ts hc (Ch.s (.ptr 3000 0) (.alloc 3000 _ rfl zer33) ?_)))))
 refine Ch.nil (Ts hc (Ch.s (.ptr 1000 0) (fP fld26_0 rfl) (Ch.s (.d (.slice false 2 (x.sigs.map Sgn.d))) (lP ag22 rfl rfl rfl) ?_)))
 refine Ch.step (v := (.row 6000)) rfl (.call 6000 21 _ _ _ en21 rfl (.inl rfl) (.cons (.d _) .nil) rfl (sol (solid_row (fun _ => rfl) _) rfl) (sp_laws_toSignalS x.sigs a21) (.skip _ _ .nil) rfl) rfl rfl ?_
 refine Ch.s (.ptr 3000 0) (fP fld33_0 rfl) (Ch.s .junk (.storePtr _ _ _ rfl rfl rfl (.one _ rfl) sz30 (lb rfl)) (Ch.nil (Ts hc (Ch.s (.ptr 1000 1) (fP fld26_1 rfl) (Ch.s (.d (.slice false 1 (x.codes.map D.str))) (lP ag23 rfl rfl rfl) ?_)))))
 refine Ch.step (v := (.row 10000)) rfl (.call 10000 22 _ _ _ en22 rfl (.inl rfl) (.cons (.d _) .nil) rfl (sol (solid_row (fun _ => rfl) _) rfl) (sp_laws_toStringS x.codes a16) (.skip _ _ .nil) rfl) rfl rfl ?_
 refine Ch.s (.ptr 3000 1) (fP fld33_1 rfl) (Ch.s .junk (.storePtr _ _ _ rfl rfl rfl (.one _ rfl) sz23 (lb rfl)) (Ch.nil (Ts hc (Ch.s (.ptr 1000 2) (fP fld26_2 rfl) (Ch.s (.d (.slice false 4 (x.arcs.map Arc.d))) (lP ag24 rfl rfl rfl) ?_)))))
 refine Ch.step (v := (.row 14000)) rfl (.call 14000 23 _ _ _ en23 rfl (.inl rfl) (.cons (.d _) .nil) rfl (sol (solid_row (fun _ => rfl) _) rfl) (sp_laws_toArcS x.arcs a21) (.skip _ _ .nil) rfl) rfl rfl ?_
 refine Ch.s (.ptr 3000 2) (fP fld33_2 rfl) (Ch.s .junk (.storePtr _ _ _ rfl rfl rfl (.one _ rfl) sz31 (lb rfl)) (Ch.nil (Ts hc (Ch.s (.agg [(.row 6000), (.row 10000), (.row 14000)]) (lA ag33 sz33 rfl rfl (lb rfl) rfl) (Ch.s .junk (.storePtr _ _ _ rfl rfl rfl (.agg _ rfl) sz33 (lb rfl)) (Ch.nil ?_))))))
 refine T_ret ?_
 exact eR [(.agg [(.row 6000), (.row 10000), (.row 14000)])] [] [6000, 10000, 14000] (.cons (.cellA _ _ rfl rfl ag33 sz33) .nil) eA (.agg (.cons (.row rfl) (.cons (.row rfl) (.cons (.row rfl) .nil))) rfl)

theorem sp_laws_eqStateGraph (x y : Sgr) (hb : x.bulk ≤ 1048576) : Sp Tryz.prog 9 [(.agg [(.slice false 2 (x.sigs.map Sgn.d)), (.slice false 1 (x.codes.map D.str)), (.slice false 4 (x.arcs.map Arc.d))]), (.agg [(.slice false 2 (y.sigs.map Sgn.d)), (.slice false 1 (y.codes.map D.str)), (.slice false 4 (y.arcs.map Arc.d))])] [.any, .any] (.bool (decide (x = y))) := by
 refine Sp_intro (lend := true) Tryz.func9 rfl rfl rfl (fun _ => rfl) (fun c hc hX => ?_)
 obtain ⟨hp0, hp1, hp2⟩ := Sgr.parts hb
 have hn0 := bulkF_len hp0
 have hn1 := bulk_len hp1
 have hx1 := bulk_mem hp1
 have hn2 := bulkF_len hp2
 refine Ts hc (Ch.s (.ptr 2000 0) (.box 2000 _ _ rfl (.aggD _)) (Ch.s (.ptr 3000 0) (.box 3000 _ _ rfl (.aggD _)) (Ch.s (dB false) pa (Ch.nil (Tq (Tq ?_))))))
 refine Tz hc (Ch.s (.ptr 2000 0) (fP fld33_0 rfl) (Ch.s (.d (.slice false 2 (x.sigs.map Sgn.d))) (lP ag30 rfl rfl rfl) (Ch.s (.ptr 3000 0) (fP fld33_0 rfl) (Ch.s (.d (.slice false 2 (y.sigs.map Sgn.d))) (lP ag30 rfl rfl rfl) (Ch.s (dB (decide (x.sigs = y.sigs))) (.call 9000 30 _ _ _ en30 rfl (.inl rfl) (.cons (.d _) (.cons (.d _) .nil)) rfl rfl (sp_laws_eqSignalS x.sigs y.sigs a21) (.skip _ _ (.skip _ _ .nil)) rfl) (Ch.s (dB (!(decide (x.sigs = y.sigs)))) (nT rfl) (Ch.nil ?_)))))))
 refine T_condN (b := (decide (x.sigs = y.sigs))) rfl (fun h1 => ?_) (fun h1 => ?_)
 ·
  replace h1 := odf h1
  refine Ts hc (Ch.s (dB false) pa (Ch.nil (T_ret ?_)))
  exact eR [(dB false)] [] [] (.cons (.tmp 4 rfl) .nil) eB (Exp.of (congrArg D.bool a72) (.d _))
 ·
  replace h1 := odt h1
  refine Tk (Tq (Ts hc (Ch.s (.ptr 2000 1) (fP fld33_1 rfl) (Ch.s (.d (.slice false 1 (x.codes.map D.str))) (lP ag23 rfl rfl rfl) (Ch.s (.ptr 3000 1) (fP fld33_1 rfl) (Ch.s (.d (.slice false 1 (y.codes.map D.str))) (lP ag23 rfl rfl rfl) ?_))))))
  refine Ch.s (dB (decide (x.codes = y.codes))) (.call 15000 8 _ _ _ en8 rfl (.inl rfl) (.cons (.d _) (.cons (.d _) .nil)) rfl rfl (sp_laws_eqStringS x.codes y.codes a16) (.skip _ _ (.skip _ _ .nil)) rfl) (Ch.s (dB (!(decide (x.codes = y.codes)))) (nT rfl) (Ch.nil ?_))
  refine T_condN (b := (decide (x.codes = y.codes))) rfl (fun h2 => ?_) (fun h2 => ?_)
  ·
   replace h2 := odf h2
   refine Ts hc (Ch.s (dB false) pa (Ch.nil (T_ret ?_)))
   exact eR [(dB false)] [] [] (.cons (.tmp 4 rfl) .nil) eB (Exp.of (congrArg D.bool a72) (.d _))
  ·
   replace h2 := odt h2
   refine Tk (Tq (Ts hc (Ch.s (.ptr 2000 2) (fP fld33_2 rfl) (Ch.s (.d (.slice false 4 (x.arcs.map Arc.d))) (lP ag31 rfl rfl rfl) (Ch.s (.ptr 3000 2) (fP fld33_2 rfl) (Ch.s (.d (.slice false 4 (y.arcs.map Arc.d))) (lP ag31 rfl rfl rfl) ?_))))))
   refine Ch.s (dB (decide (x.arcs = y.arcs))) (.call 21000 31 _ _ _ en31 rfl (.inl rfl) (.cons (.d _) (.cons (.d _) .nil)) rfl rfl (sp_laws_eqArcS x.arcs y.arcs a21) (.skip _ _ (.skip _ _ .nil)) rfl) (Ch.s (dB (!(decide (x.arcs = y.arcs)))) (nT rfl) (Ch.nil ?_))
   refine T_condN (b := (decide (x.arcs = y.arcs))) rfl (fun h3 => ?_) (fun h3 => ?_)
   ·
    replace h3 := odf h3
    refine Ts hc (Ch.s (dB false) pa (Ch.nil (T_ret ?_)))
    exact eR [(dB false)] [] [] (.cons (.tmp 4 rfl) .nil) eB (Exp.of (congrArg D.bool a72) (.d _))
   ·
    replace h3 := odt h3
    refine Tk (Ts hc (Ch.s (dB true) pa (Ch.nil (T_ret ?_))))
    exact eR [(dB true)] [] [] (.cons (.tmp 4 rfl) .nil) eB (Exp.of (congrArg D.bool a72) (.d _))

theorem en25 : Enters Tryz.prog 25 := ⟨_, Tryz.func25, by kernel_rfl, rfl⟩

theorem en17 : Enters Tryz.prog 17 := ⟨_, Tryz.func17, by kernel_rfl, rfl⟩

theorem en84 : Enters Tryz.prog 84 := ⟨_, Tryz.func84, by kernel_rfl, rfl⟩

theorem en67 : Enters Tryz.prog 67 := ⟨_, Tryz.func67, by kernel_rfl, rfl⟩

theorem en69 : Enters Tryz.prog 69 := ⟨_, Tryz.func69, by kernel_rfl, rfl⟩

theorem en68 : Enters Tryz.prog 68 := ⟨_, Tryz.func68, by kernel_rfl, rfl⟩

theorem en63 : Enters Tryz.prog 63 := ⟨_, Tryz.func63, by kernel_rfl, rfl⟩

def letB (x : UInt8) : Bool := decide ((97 : UInt8) ≤ x) && decide (x ≤ 122)

def digB (x : UInt8) : Bool := decide ((48 : UInt8) ≤ x) && decide (x ≤ 57)

def nameCh (x : UInt8) (j : Nat) : Bool := letB x || (digB x && !decide ((j : Int) = 0))

def nameB (u : List UInt8) : Bool := allB u.length (fun j => nameCh (u.getD j 0) j) && withinB u.length 1 6

def sigOk (xs : List Sgn) (j : Nat) : Bool := nameB (xs.getD j default).name && (withinB (xs.getD j default).kind 1 3 && !(xs.take j).any fun y => decide (y.name = (xs.getD j default).name))

def sigsB (xs : List Sgn) : Bool := allB xs.length (sigOk xs) && withinB xs.length 1 8

theorem sigsB_len {sg : List Sgn} (h : sigsB sg = true) : withinB (sg.length : Int) 1 8 = true := by
 unfold sigsB at h
 simp only [Bool.and_eq_true] at h
 exact h.2

theorem digB_n (x : UInt8) : digB x = (!decide (x < 48) && !decide (57 < x)) := by
 unfold digB; rw [← decide_not, ← decide_not]; simp only [UInt8.not_lt]

theorem sp_impl_isName (u : List UInt8) (hu : u.length ≤ 1048576) : Sp Tryz.prog 67 [(.str u)] [.any] (.bool (nameB u)) := by
 refine Sp_intro (lend := true) Tryz.func67 rfl rfl rfl (fun _ => rfl) (fun c hc hX => ?_)
 refine Ts hc (Ch.s (dB false) pa (Ch.nil (Tq (Ts hc (Ch.s (dI 0) pa ?_)))))
 refine Ch.nil (Tb ?_)
 refine T_loop (ι := Nat) (fun k => { n := 45, sl := [(0, (dS u)), (3, (dI (k : Int)))], hp := [], pin := [] }) (fun k => k ≤ u.length ∧ ∀ j, j < k → nameCh (u.getD j 0) j = true) (fun k => u.length - k) ⟨0, ⟨by omega, fun j hj => by omega⟩, (Wk.of rfl rfl (ar (ai (vI a67) trivial)) trivial)⟩ (fun k hp0 => ?_)
 refine Tq (Ts hc (Ch.s (dI (k : Int)) pm (Ch.s (dS u) pm (Ch.s (dI (u.length : Int)) (.pure (.lenStr _ _ rfl Tryz.underlying9 rfl)) (Ch.s (dB (decide ((k : Int) < (u.length : Int)))) (iX rfl rfl rfl) (Ch.nil ?_))))))
 refine T_condD (p := ((k : Int) < (u.length : Int))) rfl (fun h1 => ?_) (fun h1 => ?_)
 ·
  refine Tk (Tq (Tb (Tq ?_)))
  refine T_regionD hc (by kernel_rfl) ?_
  refine ChD.s (dS u) [] pm (ChD.s (dI (k : Int)) [] pm (ChD.s (.d (.int .u8 ((u.getD k 0).toNat : Int))) [] (.pure (.idxStr _ _ _ (k) rfl Tryz.underlying9 rfl rfl rfl get_strA)) (ChD.s (dB (decide (97 ≤ ((u.getD k 0) : UInt8)))) [] (iX rfl rfl (u8_geq ((u.getD k 0) : UInt8) 97 rfl rfl)) (ChD.s (dB (decide (97 ≤ ((u.getD k 0) : UInt8)))) [] pm ?_))))
  cases h2 : (decide (97 ≤ ((u.getD k 0) : UInt8))) with
  | true =>
   replace h2 := odt h2
   refine ChD.s (dS u) [] pm (ChD.s (dI (k : Int)) [] pm (ChD.s (.d (.int .u8 ((u.getD k 0).toNat : Int))) [] (.pure (.idxStr _ _ _ (k) rfl Tryz.underlying9 rfl rfl rfl get_strA)) (ChD.s (dB (decide (((u.getD k 0) : UInt8) ≤ 122))) [] (iX rfl rfl (u8_leq ((u.getD k 0) : UInt8) 122 rfl rfl)) (ChD.s (dB (decide (((u.getD k 0) : UInt8) ≤ 122))) [] (pT rfl) (ChD.s (dS u) [] pm (ChD.s (dI (k : Int)) [] pm (ChD.s (.d (.int .u8 ((u.getD k 0).toNat : Int))) [] (.pure (.idxStr _ _ _ (k) rfl Tryz.underlying9 rfl rfl rfl get_strA)) ?_)))))))
   refine ChD.s (dB (decide (48 ≤ ((u.getD k 0) : UInt8)))) [] (iX rfl rfl (u8_geq ((u.getD k 0) : UInt8) 48 rfl rfl)) (ChD.s (dB (decide (48 ≤ ((u.getD k 0) : UInt8)))) [] pm ?_)
   cases h3 : (decide (48 ≤ ((u.getD k 0) : UInt8))) with
   | true =>
    replace h3 := odt h3
    refine ChD.s (dS u) [] pm (ChD.s (dI (k : Int)) [] pm (ChD.s (.d (.int .u8 ((u.getD k 0).toNat : Int))) [] (.pure (.idxStr _ _ _ (k) rfl Tryz.underlying9 rfl rfl rfl get_strA)) (ChD.s (dB (decide (((u.getD k 0) : UInt8) ≤ 57))) [] (iX rfl rfl (u8_leq ((u.getD k 0) : UInt8) 57 rfl rfl)) (ChD.s (dB (decide (((u.getD k 0) : UInt8) ≤ 57))) [] (pT rfl) (ChD.s (dB (decide (((u.getD k 0) : UInt8) ≤ 122))) [] pa (ChD.s (dB (decide (((u.getD k 0) : UInt8) ≤ 57))) [] pa ?_))))))
    refine ChD.nil (And.intro ?_ (by kernel_rfl))
    refine Ts hc (Ch.s (dB (decide (((u.getD k 0) : UInt8) ≤ 122))) pm (Ch.s (dB (!(decide (((u.getD k 0) : UInt8) ≤ 122)))) (nT rfl) (Ch.s (dB (!(decide (((u.getD k 0) : UInt8) ≤ 122)))) pm ?_)))
    cases h4 : (decide (((u.getD k 0) : UInt8) ≤ 122)) with
    | true =>
     replace h4 := odt h4
     refine Ck (Ck (Ck (Ck (Ck (Ck (Ch.s (dB false) (pF rfl) (Ch.nil ?_)))))))
     refine T_cond (b := false) rfl (fun h => nomatch h) (fun _ => ?_)
     refine Tk (Tz hc (Ch.s (dI (k : Int)) pm (Ch.s (dI ((k : Int) + 1)) (iX rfl rfl intV_addA) (Ch.s (dI ((k : Int) + 1)) pa (Ch.nil ?_)))))
     exact nx (k + 1) ⟨by omega, upto_succ hp0.2 a4⟩ (Wk.of rfl rfl (ar (ai (vI a67) trivial)) trivial)
    | false =>
     replace h4 := odf h4
     refine Ch.s (dB (decide (((u.getD k 0) : UInt8) ≤ 57))) pm (Ch.s (dB (!(decide (((u.getD k 0) : UInt8) ≤ 57)))) (nT rfl) (Ch.s (dB (!(decide (((u.getD k 0) : UInt8) ≤ 57)))) pm ?_))
     cases h5 : (decide (((u.getD k 0) : UInt8) ≤ 57)) with
     | true =>
      replace h5 := odt h5
      refine Ch.s (dI (k : Int)) pm (Ch.s (dB (decide ((k : Int) = 0))) (iX rfl rfl rfl) (Ch.s (dB (decide ((k : Int) = 0))) (pF rfl) (Ch.s (dB (decide ((k : Int) = 0))) (pT rfl) (Ch.nil ?_))))
      refine T_condD (p := ((k : Int) = 0)) rfl (fun h6 => ?_) (fun h6 => ?_)
      ·
       refine Ts hc (Ch.s (dB false) pa (Ch.nil (T_ret ?_)))
       exact eR [(dB false)] [] [] (.cons (.tmp 2 rfl) .nil) eA (Exp.of (congrArg D.bool a2) (.d _))
      ·
       refine Tk (Tz hc (Ch.s (dI (k : Int)) pm (Ch.s (dI ((k : Int) + 1)) (iX rfl rfl intV_addA) (Ch.s (dI ((k : Int) + 1)) pa (Ch.nil ?_)))))
       exact nx (k + 1) ⟨by omega, upto_succ hp0.2 a4⟩ (Wk.of rfl rfl (ar (ai (vI a67) trivial)) trivial)
     | false =>
      replace h5 := odf h5
      refine Ck (Ck (Ch.s (dB true) (pT rfl) (Ch.s (dB true) (pT rfl) (Ch.nil ?_))))
      refine T_cond (b := true) rfl (fun _ => ?_) (fun h => nomatch h)
      refine Ts hc (Ch.s (dB false) pa (Ch.nil (T_ret ?_)))
      exact eR [(dB false)] [] [] (.cons (.tmp 2 rfl) .nil) eA (Exp.of (congrArg D.bool a2) (.d _))
   | false =>
    replace h3 := odf h3
    refine ChD.skip rfl rfl (ChD.skip rfl rfl (ChD.skip rfl rfl (ChD.skip rfl rfl (ChD.s (dB false) [] (pF rfl) (ChD.s (dB (decide (((u.getD k 0) : UInt8) ≤ 122))) [] pa (ChD.s (dB false) [] pa ?_))))))
    refine ChD.nil (And.intro ?_ (by kernel_rfl))
    refine Ts hc (Ch.s (dB (decide (((u.getD k 0) : UInt8) ≤ 122))) pm (Ch.s (dB (!(decide (((u.getD k 0) : UInt8) ≤ 122)))) (nT rfl) (Ch.s (dB (!(decide (((u.getD k 0) : UInt8) ≤ 122)))) pm ?_)))
    cases h7 : (decide (((u.getD k 0) : UInt8) ≤ 122)) with
    | true =>
     replace h7 := odt h7
     refine Ck (Ck (Ck (Ck (Ck (Ck (Ch.s (dB false) (pF rfl) (Ch.nil ?_)))))))
     refine T_cond (b := false) rfl (fun h => nomatch h) (fun _ => ?_)
     refine Tk (Tz hc (Ch.s (dI (k : Int)) pm (Ch.s (dI ((k : Int) + 1)) (iX rfl rfl intV_addA) (Ch.s (dI ((k : Int) + 1)) pa (Ch.nil ?_)))))
     exact nx (k + 1) ⟨by omega, upto_succ hp0.2 a4⟩ (Wk.of rfl rfl (ar (ai (vI a67) trivial)) trivial)
    | false =>
     replace h7 := odf h7
     refine Ch.s (dB false) pm (Ch.s (dB true) (.pure (.not (b := false) _ _ rfl rfl)) (Ch.s (dB true) pm (Ck (Ck (Ch.s (dB true) (pT rfl) (Ch.s (dB true) (pT rfl) (Ch.nil ?_)))))))
     refine T_cond (b := true) rfl (fun _ => ?_) (fun h => nomatch h)
     refine Ts hc (Ch.s (dB false) pa (Ch.nil (T_ret ?_)))
     exact eR [(dB false)] [] [] (.cons (.tmp 2 rfl) .nil) eA (Exp.of (congrArg D.bool a2) (.d _))
  | false =>
   replace h2 := odf h2
   refine ChD.skip rfl rfl (ChD.skip rfl rfl (ChD.skip rfl rfl (ChD.skip rfl rfl (ChD.s (dB false) [] (pF rfl) (ChD.s (dS u) [] pm (ChD.s (dI (k : Int)) [] pm (ChD.s (.d (.int .u8 ((u.getD k 0).toNat : Int))) [] (.pure (.idxStr _ _ _ (k) rfl Tryz.underlying9 rfl rfl rfl get_strA)) ?_)))))))
   refine ChD.s (dB (decide (48 ≤ ((u.getD k 0) : UInt8)))) [] (iX rfl rfl (u8_geq ((u.getD k 0) : UInt8) 48 rfl rfl)) (ChD.s (dB (decide (48 ≤ ((u.getD k 0) : UInt8)))) [] pm ?_)
   cases h8 : (decide (48 ≤ ((u.getD k 0) : UInt8))) with
   | true =>
    replace h8 := odt h8
    refine ChD.s (dS u) [] pm (ChD.s (dI (k : Int)) [] pm (ChD.s (.d (.int .u8 ((u.getD k 0).toNat : Int))) [] (.pure (.idxStr _ _ _ (k) rfl Tryz.underlying9 rfl rfl rfl get_strA)) (ChD.s (dB (decide (((u.getD k 0) : UInt8) ≤ 57))) [] (iX rfl rfl (u8_leq ((u.getD k 0) : UInt8) 57 rfl rfl)) (ChD.s (dB (decide (((u.getD k 0) : UInt8) ≤ 57))) [] (pT rfl) (ChD.s (dB false) [] pa (ChD.s (dB (decide (((u.getD k 0) : UInt8) ≤ 57))) [] pa ?_))))))
    refine ChD.nil (And.intro ?_ (by kernel_rfl))
    refine Ts hc (Ch.s (dB false) pm (Ch.s (dB true) (.pure (.not (b := false) _ _ rfl rfl)) (Ch.s (dB true) pm (Ch.s (dB (decide (((u.getD k 0) : UInt8) ≤ 57))) pm (Ch.s (dB (!(decide (((u.getD k 0) : UInt8) ≤ 57)))) (nT rfl) (Ch.s (dB (!(decide (((u.getD k 0) : UInt8) ≤ 57)))) pm ?_))))))
    cases h9 : (decide (((u.getD k 0) : UInt8) ≤ 57)) with
    | true =>
     replace h9 := odt h9
     refine Ch.s (dI (k : Int)) pm (Ch.s (dB (decide ((k : Int) = 0))) (iX rfl rfl rfl) (Ch.s (dB (decide ((k : Int) = 0))) (pF rfl) (Ch.s (dB (decide ((k : Int) = 0))) (pT rfl) (Ch.nil ?_))))
     refine T_condD (p := ((k : Int) = 0)) rfl (fun h10 => ?_) (fun h10 => ?_)
     ·
      refine Ts hc (Ch.s (dB false) pa (Ch.nil (T_ret ?_)))
      exact eR [(dB false)] [] [] (.cons (.tmp 2 rfl) .nil) eA (Exp.of (congrArg D.bool a2) (.d _))
     ·
      refine Tk (Tz hc (Ch.s (dI (k : Int)) pm (Ch.s (dI ((k : Int) + 1)) (iX rfl rfl intV_addA) (Ch.s (dI ((k : Int) + 1)) pa (Ch.nil ?_)))))
      exact nx (k + 1) ⟨by omega, upto_succ hp0.2 a4⟩ (Wk.of rfl rfl (ar (ai (vI a67) trivial)) trivial)
    | false =>
     replace h9 := odf h9
     refine Ck (Ck (Ch.s (dB true) (pT rfl) (Ch.s (dB true) (pT rfl) (Ch.nil ?_))))
     refine T_cond (b := true) rfl (fun _ => ?_) (fun h => nomatch h)
     refine Ts hc (Ch.s (dB false) pa (Ch.nil (T_ret ?_)))
     exact eR [(dB false)] [] [] (.cons (.tmp 2 rfl) .nil) eA (Exp.of (congrArg D.bool a2) (.d _))
   | false =>
    replace h8 := odf h8
    refine ChD.skip rfl rfl (ChD.skip rfl rfl (ChD.skip rfl rfl (ChD.skip rfl rfl (ChD.s (dB false) [] (pF rfl) (ChD.s (dB false) [] pa (ChD.s (dB false) [] pa ?_))))))
    refine ChD.nil (And.intro ?_ (by kernel_rfl))
    refine Ts hc (Ch.s (dB false) pm (Ch.s (dB true) (.pure (.not (b := false) _ _ rfl rfl)) (Ch.s (dB true) pm (Ch.s (dB false) pm (Ch.s (dB true) (.pure (.not (b := false) _ _ rfl rfl)) (Ch.s (dB true) pm ?_))))))
    refine Ck (Ck (Ch.s (dB true) (pT rfl) (Ch.s (dB true) (pT rfl) (Ch.nil ?_))))
    refine T_cond (b := true) rfl (fun _ => ?_) (fun h => nomatch h)
    refine Ts hc (Ch.s (dB false) pa (Ch.nil (T_ret ?_)))
    exact eR [(dB false)] [] [] (.cons (.tmp 2 rfl) .nil) eA (Exp.of (congrArg D.bool a2) (.d _))
 ·
  refine T_exit (Ts hc (Ch.s (dS u) pm (Ch.s (dI (u.length : Int)) (.pure (.lenStr _ _ rfl Tryz.underlying9 rfl)) (Ch.s (dB (withinB (u.length : Int) 1 6)) (.call 44000 25 _ _ _ en25 rfl (.inl rfl) (.cons (.d _) (.cons (.d _) (.cons (.d _) .nil))) rfl rfl (sp_impl_within (u.length : Int) 1 6) (.skip _ _ (.skip _ _ (.skip _ _ .nil))) rfl) (Ch.s (dB (withinB (u.length : Int) 1 6)) pa (Ch.nil ?_))))))
  refine T_ret ?_
  exact eR [(dB (withinB (u.length : Int) 1 6))] [] [] (.cons (.tmp 2 rfl) .nil) eA (Exp.of (congrArg D.bool a2) (.d _))

theorem sp_spec_l2Name (u : List UInt8) (hu : u.length ≤ 1048576) : Sp Tryz.prog 63 [(.str u)] [.any] (.bool (nameB u)) := by
 refine Sp_intro (lend := true) Tryz.func63 rfl rfl rfl (fun _ => rfl) (fun c hc hX => ?_)
 refine Ts hc (Ch.s (dB false) pa (Ch.nil (Tq (Ts hc (Ch.s (dI 0) pa ?_)))))
 refine Ch.nil (Tb ?_)
 refine T_loop (ι := Nat) (fun k => { n := 42, sl := [(0, (dS u)), (3, (dI (k : Int)))], hp := [], pin := [] }) (fun k => k ≤ u.length ∧ ∀ j, j < k → nameCh (u.getD j 0) j = true) (fun k => u.length - k) ⟨0, ⟨by omega, fun j hj => by omega⟩, (Wk.of rfl rfl (ar (ai (vI a67) trivial)) trivial)⟩ (fun k hp0 => ?_)
 refine Tq (Ts hc (Ch.s (dI (k : Int)) pm (Ch.s (dS u) pm (Ch.s (dI (u.length : Int)) (.pure (.lenStr _ _ rfl Tryz.underlying9 rfl)) (Ch.s (dB (decide ((k : Int) < (u.length : Int)))) (iX rfl rfl rfl) (Ch.nil ?_))))))
 refine T_condD (p := ((k : Int) < (u.length : Int))) rfl (fun h1 => ?_) (fun h1 => ?_)
 ·
  refine Tk (Tq (Tb (Ts hc (Ch.s (dS u) pm (Ch.s (dI (k : Int)) pm (Ch.s (.d (.int .u8 ((u.getD k 0).toNat : Int))) (.pure (.idxStr _ _ _ (k) rfl Tryz.underlying9 rfl rfl rfl get_strA)) ?_))))))
  refine Ch.s (dB (decide (97 ≤ ((u.getD k 0) : UInt8)))) (iX rfl rfl (u8_geq ((u.getD k 0) : UInt8) 97 rfl rfl)) (Ch.s (dB (decide (97 ≤ ((u.getD k 0) : UInt8)))) pm ?_)
  cases h2 : (decide (97 ≤ ((u.getD k 0) : UInt8))) with
  | true =>
   replace h2 := odt h2
   refine Ch.s (dS u) pm (Ch.s (dI (k : Int)) pm (Ch.s (.d (.int .u8 ((u.getD k 0).toNat : Int))) (.pure (.idxStr _ _ _ (k) rfl Tryz.underlying9 rfl rfl rfl get_strA)) (Ch.s (dB (decide (((u.getD k 0) : UInt8) ≤ 122))) (iX rfl rfl (u8_leq ((u.getD k 0) : UInt8) 122 rfl rfl)) (Ch.s (dB (decide (((u.getD k 0) : UInt8) ≤ 122))) (pT rfl) (Ch.s (dB (decide (((u.getD k 0) : UInt8) ≤ 122))) pa (Ch.nil (Tq ?_)))))))
   refine Tz hc (Ch.s (dB (decide (((u.getD k 0) : UInt8) ≤ 122))) pm (Ch.s (dB (!(decide (((u.getD k 0) : UInt8) ≤ 122)))) (nT rfl) (Ch.s (dB (!(decide (((u.getD k 0) : UInt8) ≤ 122)))) pm ?_)))
   cases h3 : (decide (((u.getD k 0) : UInt8) ≤ 122)) with
   | true =>
    replace h3 := odt h3
    refine Ck (Ck (Ck (Ck (Ck (Ck (Ck (Ch.skip rfl rfl ?_)))))))
    refine Ck (Ck (Ck (Ck (Ck (Ck (Ch.s (dB false) (pF rfl) (Ch.nil ?_)))))))
    refine T_cond (b := false) rfl (fun h => nomatch h) (fun _ => ?_)
    refine Tk (Tz hc (Ch.s (dI (k : Int)) pm (Ch.s (dI ((k : Int) + 1)) (iX rfl rfl intV_addA) (Ch.s (dI ((k : Int) + 1)) pa (Ch.nil ?_)))))
    exact nx (k + 1) ⟨by omega, upto_succ hp0.2 a4⟩ (Wk.of rfl rfl (ar (ai (vI a67) trivial)) trivial)
   | false =>
    replace h3 := odf h3
    refine Ch.s (dI (k : Int)) pm (Ch.s (dB (decide ((k : Int) = 0))) (iX rfl rfl rfl) (Ch.s (dB (decide ((k : Int) = 0))) pm ?_))
    cases h4 : (decide ((k : Int) = 0)) with
    | true =>
     replace h4 := odt h4
     refine Ck (Ck (Ck (Ck (Ch.s (dB true) (pT rfl) (Ch.s (dB true) pm (Ck (Ch.skip rfl rfl ?_)))))))
     refine Ck (Ck (Ch.s (dB true) (pT rfl) (Ch.s (dB true) (pT rfl) (Ch.nil ?_))))
     refine T_cond (b := true) rfl (fun _ => ?_) (fun h => nomatch h)
     refine Ts hc (Ch.s (dB false) pa (Ch.nil (T_ret ?_)))
     exact eR [(dB false)] [] [] (.cons (.tmp 2 rfl) .nil) eA (Exp.of (congrArg D.bool a2) (.d _))
    | false =>
     replace h4 := odf h4
     refine Ch.s (dS u) pm (Ch.s (dI (k : Int)) pm (Ch.s (.d (.int .u8 ((u.getD k 0).toNat : Int))) (.pure (.idxStr _ _ _ (k) rfl Tryz.underlying9 rfl rfl rfl get_strA)) (Ch.s (dB (decide (((u.getD k 0) : UInt8) < 48))) (iX rfl rfl (u8_lss ((u.getD k 0) : UInt8) 48 rfl rfl)) (Ch.s (dB (decide (((u.getD k 0) : UInt8) < 48))) (pF rfl) (Ch.s (dB (decide (((u.getD k 0) : UInt8) < 48))) pm ?_)))))
     cases h5 : (decide (((u.getD k 0) : UInt8) < 48)) with
     | true =>
      replace h5 := odt h5
      refine Ck (Ck (Ck (Ck (Ch.s (dB true) (pT rfl) (Ch.s (dB true) (pT rfl) (Ch.nil ?_))))))
      refine T_cond (b := true) rfl (fun _ => ?_) (fun h => nomatch h)
      refine Ts hc (Ch.s (dB false) pa (Ch.nil (T_ret ?_)))
      exact eR [(dB false)] [] [] (.cons (.tmp 2 rfl) .nil) eA (Exp.of (congrArg D.bool a2) (.d _))
     | false =>
      replace h5 := odf h5
      refine Ch.s (dS u) pm (Ch.s (dI (k : Int)) pm (Ch.s (.d (.int .u8 ((u.getD k 0).toNat : Int))) (.pure (.idxStr _ _ _ (k) rfl Tryz.underlying9 rfl rfl rfl get_strA)) (Ch.s (dB (decide (57 < ((u.getD k 0) : UInt8)))) (iX rfl rfl (u8_gtr ((u.getD k 0) : UInt8) 57 rfl rfl)) (Ch.s (dB (decide (57 < ((u.getD k 0) : UInt8)))) (pF rfl) (Ch.s (dB (decide (57 < ((u.getD k 0) : UInt8)))) (pT rfl) (Ch.nil ?_))))))
      refine T_condD (p := (57 < ((u.getD k 0) : UInt8))) rfl (fun h6 => ?_) (fun h6 => ?_)
      ·
       refine Ts hc (Ch.s (dB false) pa (Ch.nil (T_ret ?_)))
       exact eR [(dB false)] [] [] (.cons (.tmp 2 rfl) .nil) eA (Exp.of (congrArg D.bool a2) (.d _))
      ·
       refine Tk (Tz hc (Ch.s (dI (k : Int)) pm (Ch.s (dI ((k : Int) + 1)) (iX rfl rfl intV_addA) (Ch.s (dI ((k : Int) + 1)) pa (Ch.nil ?_)))))
       exact nx (k + 1) ⟨by omega, upto_succ hp0.2 a4⟩ (Wk.of rfl rfl (ar (ai (vI a67) trivial)) trivial)
  | false =>
   replace h2 := odf h2
   refine Ck (Ck (Ck (Ck (Ch.s (dB false) (pF rfl) (Ch.s (dB false) pa (Ch.nil (Tq ?_)))))))
   refine Tz hc (Ch.s (dB false) pm (Ch.s (dB true) (.pure (.not (b := false) _ _ rfl rfl)) (Ch.s (dB true) pm (Ch.s (dI (k : Int)) pm (Ch.s (dB (decide ((k : Int) = 0))) (iX rfl rfl rfl) (Ch.s (dB (decide ((k : Int) = 0))) pm ?_))))))
   cases h7 : (decide ((k : Int) = 0)) with
   | true =>
    replace h7 := odt h7
    refine Ck (Ck (Ck (Ck (Ch.s (dB true) (pT rfl) (Ch.s (dB true) pm (Ck (Ch.skip rfl rfl ?_)))))))
    refine Ck (Ck (Ch.s (dB true) (pT rfl) (Ch.s (dB true) (pT rfl) (Ch.nil ?_))))
    refine T_cond (b := true) rfl (fun _ => ?_) (fun h => nomatch h)
    refine Ts hc (Ch.s (dB false) pa (Ch.nil (T_ret ?_)))
    exact eR [(dB false)] [] [] (.cons (.tmp 2 rfl) .nil) eA (Exp.of (congrArg D.bool a2) (.d _))
   | false =>
    replace h7 := odf h7
    refine Ch.s (dS u) pm (Ch.s (dI (k : Int)) pm (Ch.s (.d (.int .u8 ((u.getD k 0).toNat : Int))) (.pure (.idxStr _ _ _ (k) rfl Tryz.underlying9 rfl rfl rfl get_strA)) (Ch.s (dB (decide (((u.getD k 0) : UInt8) < 48))) (iX rfl rfl (u8_lss ((u.getD k 0) : UInt8) 48 rfl rfl)) (Ch.s (dB (decide (((u.getD k 0) : UInt8) < 48))) (pF rfl) (Ch.s (dB (decide (((u.getD k 0) : UInt8) < 48))) pm ?_)))))
    cases h8 : (decide (((u.getD k 0) : UInt8) < 48)) with
    | true =>
     replace h8 := odt h8
     refine Ck (Ck (Ck (Ck (Ch.s (dB true) (pT rfl) (Ch.s (dB true) (pT rfl) (Ch.nil ?_))))))
     refine T_cond (b := true) rfl (fun _ => ?_) (fun h => nomatch h)
     refine Ts hc (Ch.s (dB false) pa (Ch.nil (T_ret ?_)))
     exact eR [(dB false)] [] [] (.cons (.tmp 2 rfl) .nil) eA (Exp.of (congrArg D.bool a2) (.d _))
    | false =>
     replace h8 := odf h8
     refine Ch.s (dS u) pm (Ch.s (dI (k : Int)) pm (Ch.s (.d (.int .u8 ((u.getD k 0).toNat : Int))) (.pure (.idxStr _ _ _ (k) rfl Tryz.underlying9 rfl rfl rfl get_strA)) (Ch.s (dB (decide (57 < ((u.getD k 0) : UInt8)))) (iX rfl rfl (u8_gtr ((u.getD k 0) : UInt8) 57 rfl rfl)) (Ch.s (dB (decide (57 < ((u.getD k 0) : UInt8)))) (pF rfl) (Ch.s (dB (decide (57 < ((u.getD k 0) : UInt8)))) (pT rfl) (Ch.nil ?_))))))
     refine T_condD (p := (57 < ((u.getD k 0) : UInt8))) rfl (fun h9 => ?_) (fun h9 => ?_)
     ·
      refine Ts hc (Ch.s (dB false) pa (Ch.nil (T_ret ?_)))
      exact eR [(dB false)] [] [] (.cons (.tmp 2 rfl) .nil) eA (Exp.of (congrArg D.bool a2) (.d _))
     ·
      refine Tk (Tz hc (Ch.s (dI (k : Int)) pm (Ch.s (dI ((k : Int) + 1)) (iX rfl rfl intV_addA) (Ch.s (dI ((k : Int) + 1)) pa (Ch.nil ?_)))))
      exact nx (k + 1) ⟨by omega, upto_succ hp0.2 a4⟩ (Wk.of rfl rfl (ar (ai (vI a67) trivial)) trivial)
 ·
  refine T_exit (Ts hc (Ch.s (dS u) pm (Ch.s (dI (u.length : Int)) (.pure (.lenStr _ _ rfl Tryz.underlying9 rfl)) (Ch.s (dB (withinB (u.length : Int) 1 6)) (.call 41000 17 _ _ _ en17 rfl (.inl rfl) (.cons (.d _) (.cons (.d _) (.cons (.d _) .nil))) rfl rfl (sp_spec_l1In (u.length : Int) 1 6) (.skip _ _ (.skip _ _ (.skip _ _ .nil))) rfl) (Ch.s (dB (withinB (u.length : Int) 1 6)) pa (Ch.nil ?_))))))
  refine T_ret ?_
  exact eR [(dB (withinB (u.length : Int) 1 6))] [] [] (.cons (.tmp 2 rfl) .nil) eA (Exp.of (congrArg D.bool a2) (.d _))

theorem sp_IndexFunc_sgn (xs : List Sgn) (f : FuncId) (caps : List D) (p : Sgn → Bool) (hf : Enters Tryz.prog f) (hp : ∀ x ∈ xs, Sp Tryz.prog f (Sgn.d x :: caps) (.any :: anys caps) (.bool (p x))) (hn : xs.length ≤ 1048576) : Sp Tryz.prog 84 [(.slice false 2 (xs.map Sgn.d)), (.fn f caps)] [.any, .any] (.int .i64 (ixF p xs)) := by
 refine Sp_intro (lend := true) Tryz.func84 rfl rfl rfl (fun _ => rfl) (fun c hc hX => ?_)
 refine Ts hc (Ch.s (dI 0) pa (Ch.nil (Tq (Ts hc (Ch.s (.d (.slice false 2 (xs.map Sgn.d))) pm ?_)))))
 refine Ch.s (dI (xs.length : Int)) (.pure (.len _ _ 76 rfl Tryz.underlying30 (.sh _ _) (by simp))) (Ch.s (dI 0) pm (Ch.nil (Tb ?_)))
 refine T_loop (ι := Nat) (fun k => { n := 19, sl := [(0, (.d (.slice false 2 (xs.map Sgn.d)))), (1, (.d (.fn f caps))), (7, (dI (xs.length : Int))), (8, (dI (k : Int)))], hp := [], pin := [] }) (fun k => k ≤ xs.length ∧ ∀ j, j < k → p (xs.getD j default) = false) (fun k => xs.length - k) ⟨0, ⟨by omega, fun j hj => by omega⟩, (Wk.of rfl rfl (ar (ar (ar (ai (vI a67) trivial)))) trivial)⟩ (fun k hp0 => ?_)
 refine Ts hc (Ch.s (dB (decide ((k : Int) < (xs.length : Int)))) (iX rfl rfl rfl) (Ch.nil (Tq ?_)))
 refine T_condD (p := ((k : Int) < (xs.length : Int))) rfl (fun h1 => ?_) (fun h1 => ?_)
 ·
  refine Tk (Tq (Tb (Ts hc (Ch.s (dI (k : Int)) pm (Ch.s (dI (k : Int)) pa (Ch.nil ?_))))))
  refine Ts hc (Ch.s (.d (.fn f caps)) pm (Ch.s (.d (.slice false 2 (xs.map Sgn.d))) pm (Ch.s (dI (k : Int)) pm (Ch.s (.d (.ref (.agg [(.str ((xs.getD k default).name)), (.int .i64 ((xs.getD k default).kind))]))) (.pure (.idx _ _ _ 76 (k) rfl Tryz.underlying30 sz76 rfl rfl rfl get_mapA)) (Ch.s (.d (.agg [(.str ((xs.getD k default).name)), (.int .i64 ((xs.getD k default).kind))])) (.pure (.loadRefA _ _ rfl ag76 sz76 rfl)) ?_)))))
  refine Ch.step (v := (dB (p (xs.getD k default)))) rfl (.callS 16000 f _ #[.tmp 15] _ hf rfl (.inr ⟨caps, rfl, rfl⟩) (.cons (.d _) (exps_ds caps)) rfl (hp _ (getD_mem (by omega))) (.skip _ _ (back_anys caps)) rfl) rfl rfl ?_
  refine Ch.nil ?_
  refine T_cond (b := (p (xs.getD k default))) rfl (fun h2 => ?_) (fun h2 => ?_)
  ·
   refine Ts hc (Ch.s (dI (k : Int)) pm (Ch.s (dI (k : Int)) pa (Ch.nil (T_ret ?_))))
   exact eR [(dI (k : Int))] [] [] (.cons (.tmp 4 rfl) .nil) eB (Exp.of (congrArg (D.int .i64) (by exact (ixF_some (d := default) (by omega) hp0.2 (by assumption)).symm)) (.d _))
  ·
   refine Tk (Tz hc (Ch.s (dI ((k : Int) + 1)) (iX rfl rfl intV_addA) (Ch.s (dI ((k : Int) + 1)) pm (Ch.nil ?_))))
   exact nx (k + 1) ⟨by omega, upto_succ hp0.2 (by assumption)⟩ (Wk.of rfl rfl (ar (ar (ar (ai (vI a67) trivial)))) trivial)
 ·
  refine T_exit (Ts hc (Ch.s (dI (-1)) pa (Ch.nil (T_ret ?_))))
  exact eR [(dI (-1))] [] [] (.cons (.tmp 4 rfl) .nil) eB (Exp.of (congrArg (D.int .i64) a60) (.d _))

theorem sp_ContainsFunc_sgn (xs : List Sgn) (f : FuncId) (caps : List D) (p : Sgn → Bool) (hf : Enters Tryz.prog f) (hp : ∀ x ∈ xs, Sp Tryz.prog f (Sgn.d x :: caps) (.any :: anys caps) (.bool (p x))) (hn : xs.length ≤ 1048576) : Sp Tryz.prog 68 [(.slice false 2 (xs.map Sgn.d)), (.fn f caps)] [.any, .any] (.bool (xs.any p)) := by
 refine Sp_intro (lend := true) Tryz.func68 rfl rfl rfl (fun _ => rfl) (fun c hc hX => ?_)
 refine Ts hc (Ch.s (dB false) pa (Ch.nil (Ts hc (Ch.s (.d (.slice false 2 (xs.map Sgn.d))) pm (Ch.s (.d (.fn f caps)) pm ?_)))))
 refine Ch.s (dI (ixF p xs)) (.call 7000 84 _ _ _ en84 rfl (.inl rfl) (.cons (.d _) (.cons (.d _) .nil)) rfl rfl (sp_IndexFunc_sgn xs f caps p hf hp a16) (.skip _ _ (.skip _ _ .nil)) rfl) (Ch.s (dB (decide (0 ≤ (ixF p xs)))) (iX rfl rfl rfl) (Ch.s (dB (decide (0 ≤ (ixF p xs)))) pa (Ch.nil (T_ret ?_))))
 exact eR [(dB (decide (0 ≤ (ixF p xs))))] [] [] (.cons (.tmp 4 rfl) .nil) eB (Exp.of (congrArg D.bool (by exact ixF_nonneg p xs)) (.d _))

theorem sp_impl_areSignals_1 (y x : Sgn) : Sp Tryz.prog 69 [(.agg [(.str y.name), (.int .i64 y.kind)]), (.ref (.agg [(.str x.name), (.int .i64 x.kind)]))] [.any, .any] (.bool (decide (y.name = x.name))) := by
 refine Sp_intro (lend := true) Tryz.func69 rfl rfl rfl (fun _ => rfl) (fun c hc hX => ?_)
 refine Ts hc (Ch.s (.ptr 2000 0) (.box 2000 _ _ rfl (.aggD _)) (Ch.s (dB false) pa (Ch.nil (Ts hc (Ch.s (.ptr 2000 0) (fP fld76_0 rfl) ?_)))))
 refine Ch.s (dS y.name) (lP ag9 rfl rfl rfl) (Ch.s (.d (.ref (.str x.name))) (.pure (.fldRef _ _ _ rfl fld76_0 rfl rfl rfl)) (Ch.s (dS x.name) (rF ag9 rfl rfl) (Ch.s (dB (decide (y.name = x.name))) (.pure (.str _ _ _ _ _ rfl rfl rfl rfl)) (Ch.s (dB (decide (y.name = x.name))) pa (Ch.nil (T_ret ?_))))))
 exact eR [(dB (decide (y.name = x.name)))] [] [] (.cons (.tmp 3 rfl) .nil) eB (.d _)

theorem sp_impl_areSignals (xs : List Sgn) (hb : bulkF Sgn.bulk xs ≤ 1048576) : Sp Tryz.prog 47 [(.slice false 2 (xs.map Sgn.d))] [.any] (.bool (sigsB xs)) := by
 refine Sp_intro (lend := true) Tryz.func47 rfl rfl rfl (fun _ => rfl) (fun c hc hX => ?_)
 have hn := bulkF_len hb
 refine Ts hc (Ch.s (dB false) pa (Ch.nil (Tq (Ts hc (Ch.s (.d (.slice false 2 (xs.map Sgn.d))) pm ?_)))))
 refine Ch.s (dI (xs.length : Int)) (.pure (.len _ _ 76 rfl Tryz.underlying30 (.sh _ _) (by simp))) (Ch.s (dI 0) pm (Ch.nil (Tb ?_)))
 refine T_loop (ι := Nat) (fun k => { n := 33, sl := [(0, (.d (.slice false 2 (xs.map Sgn.d)))), (5, (.d (.slice false 2 (xs.map Sgn.d)))), (6, (dI (xs.length : Int))), (7, (dI (k : Int)))], hp := [], pin := [] }) (fun k => k ≤ xs.length ∧ ∀ j, j < k → sigOk xs j = true) (fun k => xs.length - k) ⟨0, ⟨by omega, fun j hj => by omega⟩, (Wk.of rfl rfl (ar (ar (ar (ai (vI a67) trivial)))) trivial)⟩ (fun k hp0 => ?_)
 refine Ts hc (Ch.s (dB (decide ((k : Int) < (xs.length : Int)))) (iX rfl rfl rfl) (Ch.nil (Tq ?_)))
 refine T_condD (p := ((k : Int) < (xs.length : Int))) rfl (fun h1 => ?_) (fun h1 => ?_)
 ·
  try have hk : (xs.getD k default).name.length ≤ 1048576 := bulkF_mem hb _ (getD_mem (l := xs) (j := k) (d := default) (by omega))
  refine Tk (Tq (Tb (Ts hc (Ch.s (dI (k : Int)) pm (Ch.s (.d (.ref (.agg [(.str ((xs.getD k default).name)), (.int .i64 ((xs.getD k default).kind))]))) (.pure (.idx _ _ _ 76 (k) rfl Tryz.underlying30 sz76 rfl rfl rfl get_mapA)) (Ch.s (.d (.agg [(.str ((xs.getD k default).name)), (.int .i64 ((xs.getD k default).kind))])) (.pure (.loadRefA _ _ rfl ag76 sz76 rfl)) ?_))))))
  refine Ch.s (.ptr 4000 0) (.alloc 4000 _ rfl zer76) (Ch.s (dI (k : Int)) pa (Ch.s .junk (.storePtr _ _ _ rfl rfl rfl (.aggD _) sz76 (lb rfl)) (Ch.nil (Ts hc (Ch.s (.ptr 4000 0) (fP fld76_0 rfl) (Ch.s (dS ((xs.getD k default).name)) (lP ag9 rfl rfl rfl) ?_))))))
  refine Ch.s (dB (nameB ((xs.getD k default).name))) (.call 14000 67 _ _ _ en67 rfl (.inl rfl) (.cons (.d _) .nil) rfl rfl (sp_impl_isName ((xs.getD k default).name) a16) (.skip _ _ .nil) rfl) (Ch.s (dB (!(nameB ((xs.getD k default).name)))) (nT rfl) (Ch.s (dB (!(nameB ((xs.getD k default).name)))) pm ?_))
  cases h2 : (nameB ((xs.getD k default).name)) with
  | true =>
   refine Ch.s (.ptr 4000 1) (fP fld76_1 rfl) (Ch.s (dI ((xs.getD k default).kind)) (lP ag3 rfl rfl rfl) (Ch.s (dB (withinB ((xs.getD k default).kind) 1 3)) (.call 19000 25 _ _ _ en25 rfl (.inl rfl) (.cons (.d _) (.cons (.d _) (.cons (.d _) .nil))) rfl rfl (sp_impl_within ((xs.getD k default).kind) 1 3) (.skip _ _ (.skip _ _ (.skip _ _ .nil))) rfl) (Ch.s (dB (!(withinB ((xs.getD k default).kind) 1 3))) (nT rfl) (Ch.s (dB (!(withinB ((xs.getD k default).kind) 1 3))) (pF rfl) (Ch.s (dB (!(withinB ((xs.getD k default).kind) 1 3))) pm ?_)))))
   cases h3 : (withinB ((xs.getD k default).kind) 1 3) with
   | true =>
    refine Ch.s (.d (.slice false 2 (xs.map Sgn.d))) pm (Ch.s (dI (k : Int)) pm (Ch.s (.d (.slice false 2 ((xs.take k).map Sgn.d))) (.pure (.sliceSh _ _ _ _ 76 (0) (k) rfl Tryz.underlying30 sz76 rfl (bndN rfl) (bndS rfl rfl) (by simp <;> omega) (by simp <;> omega) a43)) (Ch.s (.fn 69 [(.ptr 4000 0)]) (.pure (.func _ _ rfl rfl)) (Ch.s (dB ((xs.take k).any (fun y => decide (y.name = (xs.getD k default).name)))) (.call 27000 68 _ _ _ en68 rfl (.inl rfl) (.cons (.d _) (.cons (.lend (.fn (.cons (.ptr rfl (.agg (.cons (.d _) (.cons (.d _) .nil)) rfl)) .nil))) .nil)) rfl rfl (sp_ContainsFunc_sgn (xs.take k) 69 [(.ref (.agg [(.str ((xs.getD k default).name)), (.int .i64 ((xs.getD k default).kind))]))] (fun y => decide (y.name = (xs.getD k default).name)) en69 (fun y _ => sp_impl_areSignals_1 y (xs.getD k default)) a16) (.skip _ _ (.skip _ _ .nil)) rfl) (Ch.s (dB ((xs.take k).any (fun y => decide (y.name = (xs.getD k default).name)))) (pF rfl) (Ch.nil ?_))))))
    refine T_cond (b := ((xs.take k).any (fun y => decide (y.name = (xs.getD k default).name)))) rfl (fun h4 => ?_) (fun h4 => ?_)
    ·
     refine Ts hc (Ch.s (dB false) pa (Ch.nil (T_ret ?_)))
     exact eR [(dB false)] [] [] (.cons (.tmp 2 rfl) .nil) eA (Exp.of (congrArg D.bool a20) (.d _))
    ·
     refine Tk (Tz hc (Ch.s (dI ((k : Int) + 1)) (iX rfl rfl intV_addA) (Ch.s (dI ((k : Int) + 1)) pm (Ch.nil ?_))))
     exact nx (k + 1) ⟨by omega, upto_succ hp0.2 a36⟩ (Wk.of rfl rfl (ar (ar (ar (ai (vI a67) trivial)))) trivial)
   | false =>
    refine Ck (Ck (Ck (Ck (Ck (Ch.s (dB true) (pT rfl) (Ch.nil ?_))))))
    refine T_cond (b := true) rfl (fun _ => ?_) (fun h => nomatch h)
    refine Ts hc (Ch.s (dB false) pa (Ch.nil (T_ret ?_)))
    exact eR [(dB false)] [] [] (.cons (.tmp 2 rfl) .nil) eA (Exp.of (congrArg D.bool a20) (.d _))
  | false =>
   refine Ck (Ck (Ck (Ck (Ch.s (dB true) (pT rfl) (Ch.s (dB true) pm (Ck (Ch.skip rfl rfl ?_)))))))
   refine Ck (Ck (Ck (Ch.s (dB true) (pT rfl) (Ch.nil ?_))))
   refine T_cond (b := true) rfl (fun _ => ?_) (fun h => nomatch h)
   refine Ts hc (Ch.s (dB false) pa (Ch.nil (T_ret ?_)))
   exact eR [(dB false)] [] [] (.cons (.tmp 2 rfl) .nil) eA (Exp.of (congrArg D.bool a20) (.d _))
 ·
  try have hk : (xs.getD k default).name.length ≤ 1048576 := bulkF_mem hb _ (getD_mem (l := xs) (j := k) (d := default) (by omega))
  refine T_exit (Ts hc (Ch.s (.d (.slice false 2 (xs.map Sgn.d))) pm (Ch.s (dI (xs.length : Int)) (.pure (.len _ _ 76 rfl Tryz.underlying30 (.sh _ _) (by simp))) (Ch.s (dB (withinB (xs.length : Int) 1 8)) (.call 32000 25 _ _ _ en25 rfl (.inl rfl) (.cons (.d _) (.cons (.d _) (.cons (.d _) .nil))) rfl rfl (sp_impl_within (xs.length : Int) 1 8) (.skip _ _ (.skip _ _ (.skip _ _ .nil))) rfl) (Ch.s (dB (withinB (xs.length : Int) 1 8)) pa (Ch.nil ?_))))))
  refine T_ret ?_
  exact eR [(dB (withinB (xs.length : Int) 1 8))] [] [] (.cons (.tmp 2 rfl) .nil) eA (Exp.of (congrArg D.bool a20) (.d _))

theorem any_take {xs : List Sgn} {k m : Nat} (hk : k ≤ xs.length) (hm : (xs.take k).length ≤ m) (h : ∀ j, j < m → decide (((xs.take k).getD j default).name = (xs.getD k default).name) = false) : ((xs.take k).any fun y => decide (y.name = (xs.getD k default).name)) = false :=
 (any_no default fun j hj => h j (by omega)).symm

theorem sp_spec_l2Signals (xs : List Sgn) (hb : bulkF Sgn.bulk xs ≤ 1048576) : Sp Tryz.prog 36 [(.slice false 2 (xs.map Sgn.d))] [.any] (.bool (sigsB xs)) := by
 refine Sp_intro (lend := true) Tryz.func36 rfl rfl rfl (fun _ => rfl) (fun c hc hX => ?_)
 have hn := bulkF_len hb
 refine Ts hc (Ch.s (dB false) pa (Ch.nil (Tq (Ts hc (Ch.s (.d (.slice false 2 (xs.map Sgn.d))) pm ?_)))))
 refine Ch.s (dI (xs.length : Int)) (.pure (.len _ _ 76 rfl Tryz.underlying30 (.sh _ _) (by simp))) (Ch.s (dI 0) pm (Ch.nil (Tb ?_)))
 refine T_loop (ι := Nat) (fun k => { n := 42, sl := [(0, (.d (.slice false 2 (xs.map Sgn.d)))), (7, (.d (.slice false 2 (xs.map Sgn.d)))), (8, (dI (xs.length : Int))), (9, (dI (k : Int)))], hp := [], pin := [] }) (fun k => k ≤ xs.length ∧ ∀ j, j < k → sigOk xs j = true) (fun k => xs.length - k) ⟨0, ⟨by omega, fun j hj => by omega⟩, (Wk.of rfl rfl (ar (ar (ar (ai (vI a67) trivial)))) trivial)⟩ (fun k hp0 => ?_)
 refine Ts hc (Ch.s (dB (decide ((k : Int) < (xs.length : Int)))) (iX rfl rfl rfl) (Ch.nil (Tq ?_)))
 refine T_condD (p := ((k : Int) < (xs.length : Int))) rfl (fun h1 => ?_) (fun h1 => ?_)
 ·
  try have hk : (xs.getD k default).name.length ≤ 1048576 := bulkF_mem hb _ (getD_mem (l := xs) (j := k) (d := default) (by omega))
  refine Tk (Tq (Tb (Ts hc (Ch.s (dI (k : Int)) pm (Ch.s (.d (.ref (.agg [(.str ((xs.getD k default).name)), (.int .i64 ((xs.getD k default).kind))]))) (.pure (.idx _ _ _ 76 (k) rfl Tryz.underlying30 sz76 rfl rfl rfl get_mapA)) (Ch.s (.d (.agg [(.str ((xs.getD k default).name)), (.int .i64 ((xs.getD k default).kind))])) (.pure (.loadRefA _ _ rfl ag76 sz76 rfl)) ?_))))))
  refine Ch.s (.ptr 4000 0) (.alloc 4000 _ rfl zer76) (Ch.s (dI (k : Int)) pa (Ch.s .junk (.storePtr _ _ _ rfl rfl rfl (.aggD _) sz76 (lb rfl)) (Ch.nil (Tq (Ts hc (Ch.s (.ptr 4000 0) (fP fld76_0 rfl) ?_))))))
  refine Ch.s (dS ((xs.getD k default).name)) (lP ag9 rfl rfl rfl) (Ch.s (dB (nameB ((xs.getD k default).name))) (.call 16000 63 _ _ _ en63 rfl (.inl rfl) (.cons (.d _) .nil) rfl rfl (sp_spec_l2Name ((xs.getD k default).name) a16) (.skip _ _ .nil) rfl) (Ch.s (dB (!(nameB ((xs.getD k default).name)))) (nT rfl) (Ch.s (dB (!(nameB ((xs.getD k default).name)))) pm ?_)))
  cases h2 : (nameB ((xs.getD k default).name)) with
  | true =>
   refine Ch.s (.ptr 4000 1) (fP fld76_1 rfl) (Ch.s (dI ((xs.getD k default).kind)) (lP ag3 rfl rfl rfl) (Ch.s (dB (withinB ((xs.getD k default).kind) 1 3)) (.call 21000 17 _ _ _ en17 rfl (.inl rfl) (.cons (.d _) (.cons (.d _) (.cons (.d _) .nil))) rfl rfl (sp_spec_l1In ((xs.getD k default).kind) 1 3) (.skip _ _ (.skip _ _ (.skip _ _ .nil))) rfl) (Ch.s (dB (!(withinB ((xs.getD k default).kind) 1 3))) (nT rfl) (Ch.s (dB (!(withinB ((xs.getD k default).kind) 1 3))) (pF rfl) (Ch.nil ?_)))))
   refine T_condN (b := (withinB ((xs.getD k default).kind) 1 3)) rfl (fun h3 => ?_) (fun h3 => ?_)
   ·
    refine Ts hc (Ch.s (dB false) pa (Ch.nil (T_ret ?_)))
    exact eR [(dB false)] [] [] (.cons (.tmp 2 rfl) .nil) eA (Exp.of (congrArg D.bool a17) (.d _))
   ·
    refine Tk (Ts hc (Ch.s (.d (.slice false 2 (xs.map Sgn.d))) pm (Ch.s (dI (k : Int)) pm (Ch.s (.d (.slice false 2 ((xs.take k).map Sgn.d))) (.pure (.sliceSh _ _ _ _ 76 (0) (k) rfl Tryz.underlying30 sz76 rfl (bndN rfl) (bndS rfl rfl) (by simp <;> omega) (by simp <;> omega) a43)) (Ch.s (dI ((xs.take k).length : Int)) (.pure (.len _ _ 76 rfl Tryz.underlying30 (.sh _ _) (by simp))) (Ch.s (dI 0) pm ?_))))))
    refine Ch.nil (Tb ?_)
    refine T_loop (ι := Nat) (fun m => { n := 42, sl := [(0, (.d (.slice false 2 (xs.map Sgn.d)))), (4, (.ptr 4000 0)), (7, (.d (.slice false 2 (xs.map Sgn.d)))), (8, (dI (xs.length : Int))), (9, (dI (k : Int))), (26, (.d (.slice false 2 ((xs.take k).map Sgn.d)))), (27, (dI ((xs.take k).length : Int))), (28, (dI (m : Int)))], hp := [(4000, (some (.box [(dS ((xs.getD k default).name)), (dI ((xs.getD k default).kind))])))], pin := [] }) (fun m => m ≤ (xs.take k).length ∧ ∀ j, j < m → decide (((xs.take k).getD j default).name = (xs.getD k default).name) = false) (fun m => (xs.take k).length - m) ⟨0, ⟨by omega, fun j hj => by omega⟩, (Wk.of rfl rfl (ar (ar (ar (ar (ar (ar (ar (ai (vI a67) trivial)))))))) (ar trivial))⟩ (fun m hp1 => ?_)
    have hlt : (xs.take k).length = k := by simp; omega
    refine Ts hc (Ch.s (dB (decide ((m : Int) < ((xs.take k).length : Int)))) (iX rfl rfl rfl) (Ch.nil (Tq ?_)))
    refine T_condD (p := ((m : Int) < ((xs.take k).length : Int))) rfl (fun h4 => ?_) (fun h4 => ?_)
    ·
     refine Tk (Tq (Tb (Ts hc (Ch.s (.d (.ref (.agg [(.str (((xs.take k).getD m default).name)), (.int .i64 (((xs.take k).getD m default).kind))]))) (.pure (.idx _ _ _ 76 (m) rfl Tryz.underlying30 sz76 rfl rfl rfl get_mapA)) (Ch.s (.d (.agg [(.str (((xs.take k).getD m default).name)), (.int .i64 (((xs.take k).getD m default).kind))])) (.pure (.loadRefA _ _ rfl ag76 sz76 rfl)) (Ch.s (.ptr 6000 0) (.alloc 6000 _ rfl zer76) ?_))))))
     refine Ch.s .junk (.storePtr _ _ _ rfl rfl rfl (.aggD _) sz76 (lb rfl)) (Ch.nil (Ts hc (Ch.s (.ptr 4000 0) (fP fld76_0 rfl) (Ch.s (dS ((xs.getD k default).name)) (lP ag9 rfl rfl rfl) (Ch.s (.ptr 6000 0) (fP fld76_0 rfl) (Ch.s (dS (((xs.take k).getD m default).name)) (lP ag9 rfl rfl rfl) ?_))))))
     refine Ch.s (dB (decide (((xs.getD k default).name) = (((xs.take k).getD m default).name)))) (.pure (.str _ _ _ _ _ rfl rfl rfl rfl)) (Ch.nil ?_)
     refine T_condD (p := (((xs.getD k default).name) = (((xs.take k).getD m default).name))) rfl (fun h5 => ?_) (fun h5 => ?_)
     ·
      try have hy := any_yes (p := fun y : Sgn => decide (y.name = (xs.getD k default).name)) (l := xs.take k) default m (by omega) (decide_eq_true h5.symm)
      refine Ts hc (Ch.s (dB false) pa (Ch.nil (T_ret ?_)))
      exact eR [(dB false)] [] [] (.cons (.tmp 2 rfl) .nil) eA (Exp.of (congrArg D.bool a17) (.d _))
     ·
      try have hy := any_yes (p := fun y : Sgn => decide (y.name = (xs.getD k default).name)) (l := xs.take k) default m (by omega) (decide_eq_true h5.symm)
      refine Tk (Tz hc (Ch.s (dI ((m : Int) + 1)) (iX rfl rfl intV_addA) (Ch.s (dI ((m : Int) + 1)) pm (Ch.nil ?_))))
      exact nx (m + 1) ⟨by omega, upto_succ hp1.2 (by first | (simp_all; done) | (exact decide_eq_false (fun e => (by assumption : ¬ _) e.symm)))⟩ (Wk.of rfl rfl (ar (ar (ar (ar (ar (ar (ar (ai (vI a67) trivial)))))))) (ar trivial))
    ·
     refine T_exit (Tz hc (Ch.s (dI ((k : Int) + 1)) (iX rfl rfl intV_addA) (Ch.s (dI ((k : Int) + 1)) pm (Ch.nil ?_))))
     exact nx (k + 1) ⟨by omega, upto_succ hp0.2 a36⟩ (Wk.of rfl rfl (ar (ar (ar (ai (vI a67) trivial)))) trivial)
  | false =>
   refine Ck (Ck (Ck (Ck (Ch.s (dB true) (pT rfl) (Ch.nil ?_)))))
   refine T_cond (b := true) rfl (fun _ => ?_) (fun h => nomatch h)
   refine Ts hc (Ch.s (dB false) pa (Ch.nil (T_ret ?_)))
   exact eR [(dB false)] [] [] (.cons (.tmp 2 rfl) .nil) eA (Exp.of (congrArg D.bool a17) (.d _))
 ·
  try have hk : (xs.getD k default).name.length ≤ 1048576 := bulkF_mem hb _ (getD_mem (l := xs) (j := k) (d := default) (by omega))
  refine T_exit (Ts hc (Ch.s (.d (.slice false 2 (xs.map Sgn.d))) pm (Ch.s (dI (xs.length : Int)) (.pure (.len _ _ 76 rfl Tryz.underlying30 (.sh _ _) (by simp))) (Ch.s (dB (withinB (xs.length : Int) 1 8)) (.call 41000 17 _ _ _ en17 rfl (.inl rfl) (.cons (.d _) (.cons (.d _) (.cons (.d _) .nil))) rfl rfl (sp_spec_l1In (xs.length : Int) 1 8) (.skip _ _ (.skip _ _ (.skip _ _ .nil))) rfl) (Ch.s (dB (withinB (xs.length : Int) 1 8)) pa (Ch.nil ?_))))))
  refine T_ret ?_
  exact eR [(dB (withinB (xs.length : Int) 1 8))] [] [] (.cons (.tmp 2 rfl) .nil) eA (Exp.of (congrArg D.bool a17) (.d _))

theorem en102 : Enters Tryz.prog 102 := ⟨_, Tryz.func102, by kernel_rfl, rfl⟩

theorem en85 : Enters Tryz.prog 85 := ⟨_, Tryz.func85, by kernel_rfl, rfl⟩

theorem zr3 : (Tryz.prog.info? 3).bind (·.zero) = some (.int .i64 0) := by kernel_rfl

theorem sty44 : SlotTy Tryz.prog 44 3 1 8 := slotTy_mk (by kernel_rfl)

theorem en71 : Enters Tryz.prog 71 := ⟨_, Tryz.func71, by kernel_rfl, rfl⟩

theorem zr44 : (Tryz.prog.info? 44).bind (·.zero) = some (.slice none 0 0) := by kernel_rfl

theorem sty103 : SlotTy Tryz.prog 103 44 1 24 := slotTy_mk (by kernel_rfl)

theorem sz105 : SizeIs Tryz.prog 105 2 := by unfold SizeIs; kernel_rfl

theorem ag105 : AggIs Tryz.prog 105 true := by unfold AggIs; kernel_rfl

theorem zr105 : (Tryz.prog.info? 105).bind (·.zero) = some (.agg #[.int .i64 0, .int .i64 0]) := by kernel_rfl

theorem zer105 : ∃ i z, Tryz.prog.info? 105 = some i ∧ i.zero = some z ∧ z.cells = List.toArray [.int .i64 0, .int .i64 0] := zero_mk zr105 rfl

theorem fld105_0 : FieldIs Tryz.prog 105 0 0 1 false := FieldIs.mk Tryz.underlying105 rfl rfl sz3 ag3 rfl

theorem sz44 : SizeIs Tryz.prog 44 1 := by unfold SizeIs; kernel_rfl

theorem ag44 : AggIs Tryz.prog 44 false := by unfold AggIs; kernel_rfl

theorem fld105_1 : FieldIs Tryz.prog 105 1 1 1 false := FieldIs.mk Tryz.underlying105 rfl rfl sz3 ag3 rfl

def linked (a : List (List Int)) (e : Stp) : List (List Int) := a.set e.src.toNat (a.getD e.src.toNat default ++ [e.dst])

def adjTo (n : Nat) (l : List Stp) (k : Nat) : List (List Int) := (l.take k).foldl linked (List.replicate n [])

theorem adjTo_zero (n : Nat) (l : List Stp) : adjTo n l 0 = List.replicate n [] := rfl

theorem adjTo_succ {n : Nat} {l : List Stp} {k : Nat} (h : k < l.length) : adjTo n l (k + 1) = linked (adjTo n l k) (l.getD k default) := by
 have hg : l.getD k default = l[k] := by simp [h]
 unfold adjTo
 rw [List.take_succ_eq_append_getElem h, List.foldl_append, hg]; rfl

theorem set_holeI {a : List (List Int)} {j : Nat} {h : D} {xs : List Int} {y : Int} : ((a.map intsU).set j h).set j (.slice true 1 (xs.map (fun n => D.int .i64 n) ++ [D.int .i64 y])) = (a.set j (xs ++ [y])).map intsU := by
 rw [show D.slice true 1 (xs.map (fun n => D.int .i64 n) ++ [D.int .i64 y]) = intsU (xs ++ [y]) from congrArg (D.slice true 1) (by rw [List.map_append]; rfl)]
 exact set_hole

theorem getD_app {a b : List Int} {k : Nat} (h : k < a.length) : (a ++ b).getD k default = a.getD k default := by
 rw [List.getD_eq_getElem?_getD, List.getElem?_append_left h, ← List.getD_eq_getElem?_getD]

theorem linked_length (a : List (List Int)) (e : Stp) : (linked a e).length = a.length := by simp [linked]

theorem foldl_len : ∀ (l : List Stp) (a : List (List Int)), (l.foldl linked a).length = a.length
 | [], _ => rfl
 | e :: l, a => by rw [List.foldl_cons, foldl_len l, linked_length]

theorem adjTo_length (n : Nat) (l : List Stp) (k : Nat) : (adjTo n l k).length = n := by rw [adjTo, foldl_len, List.length_replicate]

theorem adj_len (n : Nat) (l : List Stp) : ∀ k, k ≤ l.length → ∀ i, ((adjTo n l k).getD i default).length ≤ k
  | 0, _, i => by
    rw [adjTo_zero]
    by_cases hi : i < n
    · simp [hi]
    · simp [hi]; rfl
  | k + 1, hk, i => by
    rw [adjTo_succ (by omega), linked, List.getD_eq_getElem?_getD, List.getElem?_set]
    have h1 := adj_len n l k (by omega)
    split
    · rename_i e
      subst e
      have h2 := h1 (l.getD k default).src.toNat
      split
      · rw [Option.getD_some, List.length_append, List.length_singleton]; omega
      · exact Nat.zero_le _
    · rw [← List.getD_eq_getElem?_getD]
      have h2 := h1 i; omega

def relax (k : Nat) (p : List Int × List Int) (t : Int) : List Int × List Int :=
 if p.1.getD t.toNat default < 0 then (p.1.set t.toNat (p.1.getD (p.2.getD k default).toNat default + 1), p.2 ++ [t]) else p

def relaxTo (k : Nat) (o q ts : List Int) (m : Nat) : List Int × List Int := (ts.take m).foldl (relax k) (o, q)

theorem relaxTo_zero (k : Nat) (o q ts : List Int) : relaxTo k o q ts 0 = (o, q) := rfl

theorem relaxTo_succ {k : Nat} {o q ts : List Int} {m : Nat} (h : m < ts.length) : relaxTo k o q ts (m + 1) = relax k (relaxTo k o q ts m) (ts.getD m default) := by
 have hg : ts.getD m default = ts[m] := by simp [h]
 unfold relaxTo
 rw [List.take_succ_eq_append_getElem h, List.foldl_append, hg]; rfl

theorem sp_bits_Mul64 (n : Nat) (hn : n ≤ 1048576) : Sp Tryz.prog 102 [(.int .u64 1), (.int .u64 (n : Int))] [.any, .any] (.tup [(.int .u64 0), (.int .u64 (n : Int))]) := by
 refine Sp_intro (lend := true) Tryz.func102 rfl rfl rfl (fun _ => rfl) (fun c hc hX => ?_)
 refine Ts hc (Ch.s (.d (.int .u64 0)) pa (Ch.s (.d (.int .u64 0)) pa (Ch.nil (Ts hc (Ch.s (.d (.int .u64 1)) pm ?_)))))
 refine Ch.s (.d (.int .u64 1)) (iX rfl rfl rfl) (Ch.s (.d (.int .u64 1)) pa (Ch.nil (Ts hc (Ch.s (.d (.int .u64 1)) pm (Ch.s (.d (.int .u64 0)) (.pure (.shift _ _ _ _ _ rfl rfl rfl rfl)) (Ch.s (.d (.int .u64 0)) pa ?_))))))
 refine Ch.nil (Ts hc (Ch.s (.d (.int .u64 (n : Int))) pm (Ch.s (.d (.int .u64 (n : Int))) (iX rfl rfl (u64_and (n := n) a24)) (Ch.s (.d (.int .u64 (n : Int))) pa (Ch.nil (Tq ?_))))))
 refine Tz hc (Ch.s (.d (.int .u64 (n : Int))) pm (Ch.s (.d (.int .u64 0)) (.pure (.shift _ _ _ _ _ rfl rfl rfl (u64_shr (n := n) a24))) (Ch.s (.d (.int .u64 0)) pa (Ch.nil (Ts hc (Ch.s (.d (.int .u64 1)) pm ?_))))))
 refine Ch.s (.d (.int .u64 (n : Int))) pm (Ch.s (.d (.int .u64 (n : Int))) (iX rfl rfl (u64_mul1 (n := n) a24)) (Ch.s (.d (.int .u64 (n : Int))) pa (Ch.nil (Ts hc (Ch.s (.d (.int .u64 0)) pm (Ch.s (.d (.int .u64 (n : Int))) pm ?_))))))
 refine Ch.s (.d (.int .u64 0)) (iX rfl rfl (u64_mul0 _)) (Ch.s (.d (.int .u64 (n : Int))) pm (Ch.s (.d (.int .u64 0)) (.pure (.shift _ _ _ _ _ rfl rfl rfl (u64_shr (n := n) a24))) (Ch.s (.d (.int .u64 0)) (iX rfl rfl rfl) (Ch.s (.d (.int .u64 0)) pa (Ch.nil (Tq (Tz hc ?_)))))))
 refine Ch.s (.d (.int .u64 0)) pm (Ch.s (.d (.int .u64 0)) (iX rfl rfl rfl) (Ch.s (.d (.int .u64 0)) pa (Ch.nil (Ts hc (Ch.s (.d (.int .u64 0)) pm (Ch.s (.d (.int .u64 0)) (.pure (.shift _ _ _ _ _ rfl rfl rfl rfl)) ?_))))))
 refine Ch.s (.d (.int .u64 0)) pa (Ch.nil (Ts hc (Ch.s (.d (.int .u64 0)) pm (Ch.s (.d (.int .u64 1)) pm (Ch.s (.d (.int .u64 0)) pm (Ch.s (.d (.int .u64 0)) (iX rfl rfl rfl) ?_))))))
 refine Ch.s (.d (.int .u64 0)) (iX rfl rfl rfl) (Ch.s (.d (.int .u64 0)) pa (Ch.nil (Ts hc (Ch.s (.d (.int .u64 0)) pm (Ch.s (.d (.int .u64 0)) pm (Ch.s (.d (.int .u64 0)) (iX rfl rfl rfl) ?_))))))
 refine Ch.s (.d (.int .u64 0)) pm (Ch.s (.d (.int .u64 0)) (iX rfl rfl rfl) (Ch.s (.d (.int .u64 0)) pm (Ch.s (.d (.int .u64 0)) (.pure (.shift _ _ _ _ _ rfl rfl rfl rfl)) (Ch.s (.d (.int .u64 0)) (iX rfl rfl rfl) (Ch.s (.d (.int .u64 0)) pa (Ch.nil (Tq ?_)))))))
 refine Tz hc (Ch.s (.d (.int .u64 1)) pm (Ch.s (.d (.int .u64 (n : Int))) pm (Ch.s (.d (.int .u64 (n : Int))) (iX rfl rfl (u64_mul1 (n := n) a24)) (Ch.s (.d (.int .u64 (n : Int))) pa (Ch.nil (T_ret ?_))))))
 exact eR [(.d (.int .u64 0)), (.d (.int .u64 (n : Int)))] [] [] (.cons (.tmp 4 rfl) (.cons (.tmp 5 rfl) .nil)) eB (.tup (.cons (.d _) (.cons (.d _) .nil)))

theorem sp_bits_Mul (n : Nat) (hn : n ≤ 1048576) : Sp Tryz.prog 85 [(.int .u64 1), (.int .u64 (n : Int))] [.any, .any] (.tup [(.int .u64 0), (.int .u64 (n : Int))]) := by
 refine Sp_intro (lend := true) Tryz.func85 rfl rfl rfl (fun _ => rfl) (fun c hc hX => ?_)
 refine Ts hc (Ch.s (.d (.int .u64 0)) pa (Ch.s (.d (.int .u64 0)) pa (Ch.nil (Tq ?_))))
 refine T_cond (b := false) rfl (fun h => nomatch h) (fun _ => ?_)
 refine Tk (Ts hc (Ch.s (.d (.int .u64 1)) pm (Ch.s (.d (.int .u64 (n : Int))) pm (Ch.s (.tup [(.d (.int .u64 0)), (.d (.int .u64 (n : Int)))]) (.call 25000 102 _ _ _ en102 rfl (.inl rfl) (.cons (.d _) (.cons (.d _) .nil)) rfl rfl (sp_bits_Mul64 n a16) (.skip _ _ (.skip _ _ .nil)) rfl) (Ch.s (.tup [(.d (.int .u64 0)), (.d (.int .u64 (n : Int)))]) pm (Ch.s (.d (.int .u64 0)) (xT rfl rfl) ?_))))))
 refine Ch.s (.d (.int .u64 (n : Int))) (xT rfl rfl) (Ch.s (.d (.int .u64 0)) pa (Ch.s (.d (.int .u64 (n : Int))) pa (Ch.nil (Ts hc (Ch.s (.d (.int .u64 0)) pm (Ch.s (.d (.int .u64 (n : Int))) pm ?_))))))
 refine Ch.s (.d (.int .u64 0)) pa (Ch.s (.d (.int .u64 (n : Int))) pa (Ch.nil (T_ret ?_)))
 exact eR [(.d (.int .u64 0)), (.d (.int .u64 (n : Int)))] [] [] (.cons (.tmp 4 rfl) (.cons (.tmp 5 rfl) .nil)) eB (.tup (.cons (.d _) (.cons (.d _) .nil)))

def repTo (v : Int) (n k : Nat) : List Int := List.replicate k v ++ List.replicate (n - k) 0

theorem repTo_all (v : Int) {n k : Nat} (h : n ≤ k) (h2 : k ≤ n) : repTo v n k = List.replicate n v := by
 rw [repTo, show k = n by omega, Nat.sub_self]; simp

theorem repTo_length (v : Int) {n k : Nat} (h : k ≤ n) : (repTo v n k).length = n := by simp [repTo]; omega

theorem noUs_rep {d : D} (h : d.noU = true) : ∀ n, noUs (List.replicate n d) = true
 | 0 => rfl
 | n + 1 => by rw [List.replicate_succ, noUs, h, noUs_rep h n]; rfl

theorem rep_first {v : Int} {n : Nat} (h : 1 ≤ n) : (List.replicate n (D.int .i64 0)).take 0 ++ [D.int .i64 v].take 1 ++ (List.replicate n (D.int .i64 0)).drop (0 + 1) = (repTo v n 1).map fun n => D.int .i64 n := by
 simp [repTo]

theorem rep_next {v : Int} {n k m : Nat} (h : k ≤ n) (hm : Nat.min k (n - k) = m) : ((repTo v n k).map fun n => D.int .i64 n).take k ++ (((repTo v n k).take k).map fun n => D.int .i64 n).take m ++ ((repTo v n k).map fun n => D.int .i64 n).drop (k + m) = (repTo v n (k + m)).map fun n => D.int .i64 n := by
 have h1 : m ≤ k := by rw [← hm]; exact Nat.min_le_left _ _
 rw [← List.map_take, ← List.map_take, ← List.map_drop, ← List.map_append, ← List.map_append]
 congr 1
 have e1 : (repTo v n k).take k = List.replicate k v := by rw [repTo, List.take_append_of_le_length (by simp), List.take_of_length_le (by simp)]
 have e2 : (repTo v n k).drop (k + m) = List.replicate (n - (k + m)) 0 := by
  rw [repTo, List.drop_append, List.drop_of_length_le (by simp), List.nil_append]
  rw [List.length_replicate, List.drop_replicate]; congr 1; omega
 rw [e1, e2, List.take_replicate, Nat.min_eq_left h1, List.replicate_append_replicate, repTo]

theorem sp_Repeat_int (v : Int) (n : Nat) (h1n : 1 ≤ n) (hn : n ≤ 1048576) : Sp Tryz.prog 71 [(.slice false 1 [(.int .i64 v)]), (.int .i64 (n : Int))] [.any, .any] (.slice true 1 ((List.replicate n v).map (fun n : Int => D.int .i64 n))) := by
 refine Sp_intro (lend := true) Tryz.func71 rfl rfl rfl (fun _ => rfl) (fun c hc hX => ?_)
 refine Ts hc (Ch.s (.c (.slice none 0 0)) pa (Ch.nil (Tq (Ts hc (Ch.s (dI (n : Int)) pm ?_)))))
 refine Ch.s (dB (decide ((n : Int) < 0))) (iX rfl rfl rfl) (Ch.nil ?_)
 refine T_condD (p := ((n : Int) < 0)) rfl (fun h1 => ?_) (fun h1 => ?_)
 ·
  exfalso; omega
 ·
  refine Tk (Ts hc (Ch.s (.d (.slice false 1 [(.int .i64 v)])) pm (Ch.s (dI ((1 : Nat) : Int)) (.pure (.len _ _ 3 rfl Tryz.underlying44 (.sh _ _) rfl)) ?_)))
  refine Ch.step (v := (.d (.int .u64 1))) rfl (.pure (EvP.of (convU64 (n := 1) rfl a24) (.convInt _ _ _ rfl (isSome_of Tryz.underlying3) Tryz.underlying92 rfl))) rfl rfl ?_
  refine Ch.s (dI (n : Int)) pm ?_
  refine Ch.step (v := (.d (.int .u64 (n : Int)))) rfl (.pure (EvP.of (convU64 (n := n) rfl a24) (.convInt _ _ _ rfl (isSome_of Tryz.underlying3) Tryz.underlying92 rfl))) rfl rfl ?_
  refine Ch.s (.tup [(.d (.int .u64 0)), (.d (.int .u64 (n : Int)))]) (.call 18000 85 _ _ _ en85 rfl (.inl rfl) (.cons (.d _) (.cons (.d _) .nil)) rfl rfl (sp_bits_Mul n a16) (.skip _ _ (.skip _ _ .nil)) rfl) (Ch.s (.tup [(.d (.int .u64 0)), (.d (.int .u64 (n : Int)))]) pm (Ch.s (.d (.int .u64 0)) (xT rfl rfl) (Ch.s (.d (.int .u64 (n : Int))) (xT rfl rfl) (Ch.s (.d (.int .u64 0)) pa (Ch.s (.d (.int .u64 (n : Int))) pa (Ch.nil (Tq ?_)))))))
  refine Ts hc (Ch.s (.d (.int .u64 0)) pm (Ch.s (dB false) (iX rfl rfl rfl) (Ch.s (dB false) pm (Ch.s (.d (.int .u64 (n : Int))) pm (Ch.s (dB (decide (9223372036854775807 < (n : Int)))) (iX rfl rfl rfl) (Ch.s (dB (decide (9223372036854775807 < (n : Int)))) (pF rfl) ?_))))))
  refine Ch.nil ?_
  refine T_condD (p := (9223372036854775807 < (n : Int))) rfl (fun h2 => ?_) (fun h2 => ?_)
  ·
   exfalso; omega
  ·
   refine Tk (Ts hc (Ch.s (.d (.int .u64 (n : Int))) pm (Ch.s (dI (n : Int)) (.pure (EvP.of (conv64 a24 a24) (.convInt _ _ _ rfl (isSome_of Tryz.underlying92) Tryz.underlying3 rfl))) (Ch.s (.row 30000) (.make 30000 _ 3 _ _ (n) (n) rfl sty44 rfl rfl rfl rfl a24 a24 a24 (zeroD_mk (zd := (.int .i64 0)) zr3 a70 rfl)) (Ch.s (.row 30000) pa (Ch.nil ?_))))))
   refine Ts hc (Ch.s (.row 30000) pm (Ch.s (.d (.slice false 1 [(.int .i64 v)])) pm (Ch.s (dI ((1 : Nat) : Int)) (.copy (n := 1) (zs := ((repTo v n 1).map (fun n : Int => D.int .i64 n))) _ _ _ _ 3 rfl sty44 (.row rfl) (noUs_rep rfl _) (.sh _ _) (by rw [List.length_replicate]; exact Nat.min_eq_left (show 1 ≤ n - 0 by omega)) (rep_first (by omega))) (Ch.s (dI ((1 : Nat) : Int)) pa (Ch.nil (Tq ?_))))))
   refine Tb ?_
   refine T_loop (ι := Nat) (fun k => { n := 48, sl := [(7, (.row 7)), (8, (dI (k : Int)))], hp := [(7, (some (.row 1 ((repTo v n k).map (fun n : Int => D.int .i64 n)))))], pin := [] }) (fun k => 1 ≤ k ∧ k ≤ n) (fun k => n - k) ⟨1, ⟨by omega, by omega⟩, (Wk.ren [(7, 30000)] rfl rfl rfl rfl (ar (ar trivial)) (ar trivial))⟩ (fun k hp0 => ?_)
   have hrl := repTo_length v hp0.2; have h8 : Nat.min k (n - k) ≤ n - k := Nat.min_le_right k (n - k)
   refine Tq (Ts hc (Ch.s (dI (k : Int)) pm (Ch.s (.row 7) pm (Ch.s (dI ((repTo v n k).length : Int)) (.pure (.len _ _ 3 rfl Tryz.underlying44 (.row rfl) (by simp))) (Ch.s (dB (decide ((k : Int) < ((repTo v n k).length : Int)))) (iX rfl rfl rfl) (Ch.nil ?_))))))
   refine T_condD (p := ((k : Int) < ((repTo v n k).length : Int))) rfl (fun h3 => ?_) (fun h3 => ?_)
   ·
    refine Tk (Tb ?_)
    refine T_regionD hc (by kernel_rfl) ?_
    refine ChD.s (dI (k : Int)) [] pm (ChD.s (.row 7) [] pm (ChD.s (dI (k : Int)) [] pm (ChD.s (.sub 7 1 k ((repTo v n k).length)) [7] (.pure (.subRow _ _ _ _ 3 (k) ((repTo v n k).length) rfl Tryz.underlying44 sz3 rfl rfl (bndS rfl rfl) (bndN (by simp)) a24 a24)) (ChD.s (.row 7) [] pm (ChD.s (dI (k : Int)) [] pm (ChD.s (.sub 7 1 0 k) [7] (.pure (.subRow _ _ _ _ 3 (0) (k) rfl Tryz.underlying44 sz3 rfl rfl (bndN rfl) (bndS rfl rfl) a24 a24)) (ChD.s (dI ((Nat.min k (n - k) : Nat) : Int)) [7] (.copy (n := Nat.min k (n - k)) (zs := ((repTo v n (k + Nat.min k (n - k))).map (fun n : Int => D.int .i64 n))) _ _ _ _ 3 rfl sty44 (.sub rfl a24 a24) (noUs_map (fun _ => rfl) _) (.sub (ys := (((repTo v n k).take k).map (fun n : Int => D.int .i64 n))) rfl (noUs_map (fun _ => rfl) _) a24 a24 a41) (by simp only [List.length_map, List.length_take, repTo_length v hp0.2]; rw [Nat.min_eq_left hp0.2]) (rep_next hp0.2 rfl)) ?_)))))))
    refine ChD.s (dI ((k : Int) + ((Nat.min k (n - k) : Nat) : Int))) [] (iX rfl rfl intV_addA) (ChD.s (dI ((k : Int) + ((Nat.min k (n - k) : Nat) : Int))) [] pa ?_)
    refine ChD.nil (And.intro ?_ (by kernel_rfl))
    refine Exists.intro (k + Nat.min k (n - k)) (And.intro ⟨by omega, by omega⟩ (And.intro (by have h9 : 1 ≤ Nat.min k (n - k) := Nat.le_min.2 ⟨by omega, by omega⟩; generalize Nat.min k (n - k) = z at *; omega) (Wk.of rfl rfl (ar (ai (vI (by first | rfl | omega)) trivial)) (ar trivial))))
   ·
    refine T_exit (Ts hc (Ch.s (.row 7) pm (Ch.s (.row 7) pa (Ch.nil (T_ret ?_)))))
    exact eR [(.row 7)] [] [7] (.cons (.tmp 4 rfl) .nil) eB (Exp.of (congrArg (D.slice true 1) (by rw [repTo_all v (by omega) hp0.2])) (.row rfl))

theorem edges_in {n : Nat} {l : List Stp} (h : ∀ e ∈ l, (0 ≤ e.src ∧ e.src.toNat < n) ∧ (0 ≤ e.dst ∧ e.dst.toNat < n)) : ∀ k, k ≤ l.length → ∀ i, ∀ t ∈ (adjTo n l k).getD i default, 0 ≤ t ∧ t.toNat < n
  | 0, _, i, t, ht => by
    rw [adjTo_zero] at ht
    by_cases hi : i < n
    · simp [hi] at ht
    · simp [hi] at ht
      cases ht
  | k + 1, hk, i, t, ht => by
    have he := h _ (getD_mem (l := l) (j := k) (d := default) (by omega))
    rw [adjTo_succ (by omega), linked] at ht
    by_cases hi : i = (l.getD k default).src.toNat
    · subst hi
      rw [List.getD_eq_getElem?_getD, List.getElem?_set] at ht
      rw [if_pos rfl, if_pos (by rw [adjTo_length]; exact he.1.2)] at ht
      rw [Option.getD_some] at ht
      rcases List.mem_append.1 ht with ht | ht
      · exact edges_in h k (by omega) _ t ht
      · rw [List.mem_singleton] at ht; rw [ht]; exact he.2
    · rw [List.getD_eq_getElem?_getD, List.getElem?_set, if_neg (fun e => hi e.symm), ← List.getD_eq_getElem?_getD] at ht
      exact edges_in h k (by omega) i t ht

def negs (o : List Int) : Nat := o.countP fun d => decide (d < 0)

structure Bfs (n : Nat) (p : List Int × List Int) : Prop where
 len : p.1.length = n
 qin : ∀ t ∈ p.2, 0 ≤ t ∧ t.toNat < n
 qd : ∀ t ∈ p.2, 0 ≤ p.1.getD t.toNat default
 top : ∀ j, p.1.getD j default ≤ (p.2.length : Int)
 few : p.2.length + negs p.1 = n

theorem Bfs.relax {n : Nat} {p : List Int × List Int} (h : Bfs n p) {k : Nat} (hk : k < p.2.length) {t : Int} (ht : 0 ≤ t ∧ t.toNat < n) : Bfs n (relax k p t) := by
  unfold Go.AM.relax
  split
  · rename_i hneg
    have hq := h.qd _ (getD_mem (l := p.2) (j := k) (d := default) hk)
    have htl : t.toNat < p.1.length := by rw [h.len]; exact ht.2
    have hg : p.1.getD t.toNat default = p.1[t.toNat] := by simp [htl]
    have hcnt : negs (p.1.set t.toNat (p.1.getD (p.2.getD k default).toNat default + 1)) + 1 = negs p.1 := by
      unfold negs
      rw [List.countP_set (h := htl)]
      rw [← hg, if_pos (decide_eq_true hneg), if_neg (by rw [decide_eq_true_iff]; omega)]
      have : 0 < p.1.countP fun d => decide (d < 0) := List.countP_pos_iff.2 ⟨_, List.getElem_mem htl, by rw [← hg]; exact decide_eq_true hneg⟩
      omega
    have hset : ∀ j, (p.1.set t.toNat (p.1.getD (p.2.getD k default).toNat default + 1)).getD j default = if t.toNat = j then p.1.getD (p.2.getD k default).toNat default + 1 else p.1.getD j default := by
      intro j
      rw [List.getD_eq_getElem?_getD, List.getElem?_set]
      split
      · rename_i e; subst e; first | rfl | (rw [if_pos htl]; rfl)
      · rw [← List.getD_eq_getElem?_getD]
    refine ⟨by rw [List.length_set]; exact h.len, ?_, ?_, ?_, ?_⟩
    · intro x hx
      rcases List.mem_append.1 hx with hx | hx
      · exact h.qin x hx
      · rw [List.mem_singleton] at hx; rw [hx]; exact ht
    · intro x hx
      rw [hset]
      split
      · omega
      · rcases List.mem_append.1 hx with hx | hx
        · exact h.qd x hx
        · rename_i hne
          rw [List.mem_singleton] at hx; subst hx; exact absurd rfl hne
    · intro j
      rw [hset, List.length_append, List.length_singleton]
      have h1 := h.top j
      have h2 := h.top (p.2.getD k default).toNat
      split <;> omega
    · have := h.few
      dsimp only
      rw [List.length_append, List.length_singleton]; omega
  · exact h

theorem relax_q {p : List Int × List Int} {k : Nat} {t : Int} : ∃ r, (relax k p t).2 = p.2 ++ r := by
  unfold relax; split
  · exact ⟨[t], rfl⟩
  · exact ⟨[], by simp⟩

theorem relaxTo_inv {n : Nat} {o q ts : List Int} (h : Bfs n (o, q)) {k : Nat} (hk : k < q.length) (hts : ∀ t ∈ ts, 0 ≤ t ∧ t.toNat < n) : ∀ m, m ≤ ts.length → Bfs n (relaxTo k o q ts m) ∧ ∃ r, (relaxTo k o q ts m).2 = q ++ r
 | 0, _ => ⟨h, [], by rw [relaxTo_zero]; simp⟩
 | m + 1, hm => by
  obtain ⟨h1, r, h2⟩ := relaxTo_inv h hk hts m (by omega)
  rw [relaxTo_succ (by omega)]
  have hkl : k < (relaxTo k o q ts m).2.length := by rw [h2, List.length_append]; omega
  obtain ⟨r2, h3⟩ := relax_q (p := relaxTo k o q ts m) (k := k) (t := ts.getD m default)
  exact ⟨h1.relax hkl (hts _ (getD_mem (by omega))), r ++ r2, by rw [h3, h2, List.append_assoc]⟩

def bfsR (nx : List (List Int)) : Nat → List Int × List Int → Nat → List Int
 | 0, p, _ => p.1
 | f + 1, p, k => if k < p.2.length then bfsR nx f (relaxTo k p.1 p.2 (nx.getD (p.2.getD k default).toNat default) (nx.getD (p.2.getD k default).toNat default).length) (k + 1) else p.1

def distF (n : Nat) (l : List Stp) (s : Nat) : List Int := bfsR (adjTo n l l.length) n ((List.replicate n (-1)).set s 0, [(s : Int)]) 0

structure BfsInv (n : Nat) (l : List Stp) (s : Nat) (q : (List Int × List Int) × Nat) : Prop where
 inv : Bfs n q.1
 eq : bfsR (adjTo n l l.length) (n - q.2) q.1 q.2 = distF n l s

theorem Bfs.le {n p} (h : Bfs n p) : p.2.length ≤ n := by have := h.few; omega

theorem BfsInv.zero {n : Nat} {l : List Stp} {s : Nat} (hs : s < n) : BfsInv n l s (((List.replicate n (-1)).set s 0, [(s : Int)]), 0) := by
  have hset : ∀ j, ((List.replicate n (-1 : Int)).set s 0).getD j default = if s = j then 0 else if j < n then -1 else default := by
    intro j
    rw [List.getD_eq_getElem?_getD, List.getElem?_set]
    split
    · rw [if_pos (by simpa using hs)]; rfl
    · rw [List.getElem?_replicate]; split <;> rfl
  refine ⟨⟨by simp, ?_, ?_, ?_, ?_⟩, rfl⟩
  · intro t ht
    have : t = (s : Int) := by simpa using ht
    omega
  · intro t ht
    have : t = (s : Int) := by simpa using ht
    subst this
    dsimp only
    rw [hset, if_pos (by omega)]; omega
  · intro j
    dsimp only
    rw [hset]
    split
    · simp
    · split
      · simp
      · show (0 : Int) ≤ _; simp
  · dsimp only
    unfold negs
    rw [List.countP_set (h := by simpa using hs)]
    simp [List.countP_replicate]
    omega

theorem BfsInv.step {n : Nat} {l : List Stp} {s : Nat} {q : (List Int × List Int) × Nat} (h : BfsInv n l s q) (hk : q.2 < q.1.2.length) (hl : ∀ e ∈ l, (0 ≤ e.src ∧ e.src.toNat < n) ∧ (0 ≤ e.dst ∧ e.dst.toNat < n)) {ts : List Int} (hts : ts = (adjTo n l l.length).getD (q.1.2.getD q.2 default).toNat default) :
  BfsInv n l s (relaxTo q.2 q.1.1 q.1.2 ts ts.length, q.2 + 1) := by
 subst hts
 have hle := h.inv.le
 refine ⟨(relaxTo_inv h.inv hk (edges_in hl _ (Nat.le_refl _) _) _ (Nat.le_refl _)).1, ?_⟩
 rw [← h.eq]
 dsimp only
 rw [show n - q.2 = (n - (q.2 + 1)) + 1 by omega, bfsR, if_pos hk]

theorem BfsInv.done {n : Nat} {l : List Stp} {s : Nat} {q : (List Int × List Int) × Nat} (h : BfsInv n l s q) (hk : ¬ q.2 < q.1.2.length) : q.1.1 = distF n l s := by
 rw [← h.eq]
 cases n - q.2 with
 | zero => rfl
 | succ f => rw [bfsR, if_neg hk]

set_option maxHeartbeats 2000000 in
theorem sp_impl_distances (n : Nat) (l : List Stp) (s : Nat) (hn : n ≤ 1048576) (hll : l.length ≤ 1048576) (hs : s < n) (hl : ∀ e ∈ l, (0 ≤ e.src ∧ e.src.toNat < n) ∧ (0 ≤ e.dst ∧ e.dst.toNat < n)) : Sp Tryz.prog 52 [(.int .i64 (n : Int)), (.slice false 2 (l.map Stp.d)), (.int .i64 (s : Int))] [.any, .any, .any] (.slice true 1 ((distF n l s).map (fun n : Int => D.int .i64 n))) := by
 refine Sp_intro (lend := true) Tryz.func52 rfl rfl rfl (fun _ => rfl) (fun c hc hX => ?_)
 refine Ts hc (Ch.s (.c (.slice none 0 0)) pa (Ch.nil (Tq ?_)))
 refine T_regionD hc (by kernel_rfl) ?_
 refine ChD.s (.row 15000) [] (.slice 15000 _ 3 _ rfl sty44 (xs := [.const (.int .i64 (-1))]) rfl rfl (.cons (.d _) .nil) rfl rfl (by decide)) (ChD.s (dI (n : Int)) [] pm (ChD.s (.row 17000) [15000] (.call 17000 71 _ _ _ en71 rfl (.inl rfl) (.cons (.lend (.row (ys := (([(-1)]).map (fun n : Int => D.int .i64 n))) rfl rfl)) (.cons (.d _) .nil)) rfl (sol (solid_row (fun _ => rfl) _) rfl) (sp_Repeat_int (-1) n (by omega) (by omega)) (.skip _ _ (.skip _ _ .nil)) rfl) (ChD.s (dI (n : Int)) [] pm (ChD.s (.row 19000) [] (.make 19000 _ 44 _ _ (n) (n) rfl sty103 rfl rfl rfl rfl a24 a24 a24 (zeroD_mk (zd := (.slice true 1 [])) zr44 (by intro S w; exact nil_reads true 1) rfl)) (ChD.s (.row 17000) [] pa (ChD.s (.row 19000) [] pa ?_))))))
 refine ChD.nil (And.intro ?_ (by kernel_rfl))
 refine Tq (Ts hc (Ch.s (.d (.slice false 2 (l.map Stp.d))) pm (Ch.s (dI (l.length : Int)) (.pure (.len _ _ 105 rfl Tryz.underlying85 (.sh _ _) (by simp))) (Ch.s (dI 0) pm (Ch.nil (Tb ?_))))))
 refine T_loop (ι := Nat) (fun k => { n := 85, sl := [(2, (dI (s : Int))), (7, (.row 17000)), (8, (.row 8)), (20, (.d (.slice false 2 (l.map Stp.d)))), (21, (dI (l.length : Int))), (22, (dI (k : Int)))], hp := [(8, (some (.row 1 ((adjTo n l k).map intsU)))), (17000, (some (.row 1 ((List.replicate n (-1)).map (fun n : Int => D.int .i64 n)))))], pin := [] }) (fun k => k ≤ l.length) (fun k => l.length - k) ⟨0, (by omega), (Wk.ren [(8, 19000)] rfl rfl rfl rfl (ar (ar (ar (ar (ar (ai (vI a67) trivial)))))) (ai (oR a42) (ar trivial)))⟩ (fun k hp0 => ?_)
 have hal := adjTo_length n l k; have hadj := adj_len n l k hp0 (l.getD k default).src.toNat
 refine Ts hc (Ch.s (dB (decide ((k : Int) < (l.length : Int)))) (iX rfl rfl rfl) (Ch.nil (Tq ?_)))
 refine T_condD (p := ((k : Int) < (l.length : Int))) rfl (fun h1 => ?_) (fun h1 => ?_)
 ·
  try have hek := hl _ (getD_mem (l := l) (j := k) (d := default) (by omega))
  refine Tk (Tq (Tb (Ts hc (Ch.s (.d (.ref (.agg [(.int .i64 ((l.getD k default).src)), (.int .i64 ((l.getD k default).dst))]))) (.pure (.idx _ _ _ 105 (k) rfl Tryz.underlying85 sz105 rfl rfl rfl get_mapA)) (Ch.s (.d (.agg [(.int .i64 ((l.getD k default).src)), (.int .i64 ((l.getD k default).dst))])) (.pure (.loadRefA _ _ rfl ag105 sz105 rfl)) (Ch.s (.ptr 10000 0) (.alloc 10000 _ rfl zer105) ?_))))))
  refine Ch.s .junk (.storePtr _ _ _ rfl rfl rfl (.aggD _) sz105 (lb rfl)) (Ch.nil ?_)
  refine T_take 8 ((((l.getD k default).src)).toNat) 7000002 7000003 rfl get_mapA rfl rfl (fun u1 => ?_)
  refine T_regionD hc (by kernel_rfl) ?_
  refine ChD.s (.row 8) [] pm (ChD.s (.ptr 10000 0) [] (fP fld105_0 rfl) (ChD.s (dI ((l.getD k default).src)) [10000] (lP ag3 rfl rfl rfl) (ChD.s (.row 8) [] pm (ChD.s (.ptr 10000 0) [] (fP fld105_0 rfl) (ChD.s (dI ((l.getD k default).src)) [10000] (lP ag3 rfl rfl rfl) (ChD.s (.el 8 1 ((((l.getD k default).src)).toNat) 0) [8, 7000002, 7000003] (.pure (.idxRow _ _ _ 44 ((((l.getD k default).src)).toNat) rfl Tryz.underlying103 sz44 rfl rfl rfl (by omega) a52)) (ChD.s (.row 7000002) [8, 7000002, 7000003] (.pure (.loadHole (n := 7000002) (m := 7000003) (u := u1) _ _ rfl ag44 rfl rfl (get_set a52) rfl rfl)) ?_)))))))
  refine ChD.s (.ptr 10000 1) [] (fP fld105_1 rfl) (ChD.s (dI ((l.getD k default).dst)) [10000] (lP ag3 rfl rfl rfl) (ChD.s (.row 36000) [] (.slice 36000 _ 3 _ rfl sty44 (xs := [.tmp 35]) rfl rfl (.cons (.d _) .nil) rfl rfl (by decide)) (ChD.s (.row 37000) [36000, 7000002] (.append 37000 _ _ _ 3 rfl sty44 (by decide) (.rowK rfl) (.inr ⟨_, rfl, rfl⟩) (.row rfl rfl) rfl a33) (ChD.s (.el 8 1 ((((l.getD k default).src)).toNat) 0) [8, 7000002, 7000003] (.pure (.idxRow _ _ _ 44 ((((l.getD k default).src)).toNat) rfl Tryz.underlying103 sz44 rfl rfl rfl (by omega) a52)) (ChD.s .junk [8, 37000, 7000002, 7000003] (.storeElK (y' := (.slice true 1 ((((adjTo n l k).getD ((((l.getD k default).src)).toNat) default).map (fun n : Int => D.int .i64 n)) ++ [(.int .i64 ((l.getD k default).dst))]))) _ _ _ rfl rfl rfl (.row rfl) rfl rfl rfl sz44 rfl (get_set a52) rfl rfl) ?_)))))
  refine ChD.nil (And.intro ?_ (by kernel_rfl))
  refine Tz hc (Ch.s (dI ((k : Int) + 1)) (iX rfl rfl intV_addA) (Ch.s (dI ((k : Int) + 1)) pm (Ch.nil ?_)))
  exact nx (k + 1) (by omega) (Wk.of rfl rfl (ar (ar (ar (ar (ar (ai (vI a67) trivial)))))) (ai (oR a42) (ar trivial)))
 ·
  try have hek := hl _ (getD_mem (l := l) (j := k) (d := default) (by omega))
  refine T_exit (Ts hc (Ch.s (.row 17000) pm (Ch.s (dI (s : Int)) pm (Ch.s (.el 17000 1 s 0) (.pure (.idxRow _ _ _ 3 (s) rfl Tryz.underlying44 sz3 rfl rfl rfl rfl a52)) (Ch.s .junk (.storeEl (y' := (.int .i64 0)) _ _ _ rfl rfl rfl (.d _) rfl sz3 rfl get_mapA rfl rfl) (Ch.nil ?_))))))
  refine Ts hc (Ch.s (dI (s : Int)) pm (Ch.s (.row 44000) (.slice 44000 _ 3 _ rfl sty44 (xs := [.tmp 43]) rfl rfl (.cons (.d _) .nil) rfl rfl (by decide)) (Ch.s (.row 44000) pa (Ch.nil (Tq (Tq ?_))))))
  refine Tz hc (Ch.s (dI 0) pa (Ch.nil (Tb ?_)))
  refine T_loop (ι := (List Int × List Int) × Nat) (fun q => { n := 85, sl := [(7, (.row 7)), (8, (.row 8)), (11, (.row 11)), (12, (dI (q.2 : Int)))], hp := [(7, (some (.row 1 (q.1.1.map (fun n : Int => D.int .i64 n))))), (8, (some (.row 1 ((adjTo n l l.length).map intsU)))), (11, (some (.row 1 (q.1.2.map (fun n : Int => D.int .i64 n)))))], pin := [] }) (fun q => BfsInv n l s q) (fun q => n - q.2) ⟨(((List.replicate n (-1)).set s 0, [(s : Int)]), 0), (BfsInv.zero hs), (Wk.ren [(7, 17000), (11, 44000)] rfl rfl rfl rfl (ar (ar (ar (ai (vI a67) trivial)))) (ai (oR a29) (ai (oR (by first | rfl | (rw [show k = l.length by omega]))) (ai (oR a37) trivial))))⟩ (fun q hp1 => ?_)
  have hql := hp1.inv.le; have hol := hp1.inv.len; have hal := adjTo_length n l l.length
  refine Tq (Ts hc (Ch.s (dI (q.2 : Int)) pm (Ch.s (.row 11) pm (Ch.s (dI (q.1.2.length : Int)) (.pure (.len _ _ 3 rfl Tryz.underlying44 (.row rfl) (by simp))) (Ch.s (dB (decide ((q.2 : Int) < (q.1.2.length : Int)))) (iX rfl rfl rfl) (Ch.nil ?_))))))
  refine T_condD (p := ((q.2 : Int) < (q.1.2.length : Int))) rfl (fun h2 => ?_) (fun h2 => ?_)
  ·
   try have hqk := hp1.inv.qin _ (getD_mem (l := q.1.2) (j := q.2) (d := default) (by omega))
   try have hin := edges_in hl l.length (Nat.le_refl _) (q.1.2.getD q.2 default).toNat
   refine Tk (Tq (Tb (Tq ?_)))
   refine T_take 8 (((q.1.2.getD q.2 default)).toNat) 7000004 7000005 rfl get_mapA rfl rfl (fun u2 => ?_)
   refine Tz hc (Ch.s (.row 8) pm (Ch.s (.row 11) pm (Ch.s (dI (q.2 : Int)) pm (Ch.s (.el 11 1 q.2 0) (.pure (.idxRow _ _ _ 3 (q.2) rfl Tryz.underlying44 sz3 rfl rfl rfl rfl a52)) (Ch.s (dI (q.1.2.getD q.2 default)) (.pure (.loadEl1 _ _ rfl ag3 rfl rfl get_mapA rfl rfl rfl)) (Ch.s (.el 8 1 (((q.1.2.getD q.2 default)).toNat) 0) (.pure (.idxRow _ _ _ 44 (((q.1.2.getD q.2 default)).toNat) rfl Tryz.underlying103 sz44 rfl rfl rfl (by omega) a52)) (Ch.s (.row 7000004) (.pure (.loadHole (n := 7000004) (m := 7000005) (u := u2) _ _ rfl ag44 rfl rfl (get_set a52) rfl rfl)) ?_)))))))
   refine Ch.s (dI (((adjTo n l l.length).getD (((q.1.2.getD q.2 default)).toNat) default).length : Int)) (.pure (.len _ _ 3 rfl Tryz.underlying44 (.row rfl) (by simp))) (Ch.s (dI 0) pm (Ch.nil (Tb ?_)))
   refine T_loop (ι := Nat) (fun m => { n := 85, sl := [(7, (.row 7)), (8, (.row 8)), (11, (.row 11)), (12, (dI (q.2 : Int))), (57, (.row 7000004)), (58, (dI (((adjTo n l l.length).getD (((q.1.2.getD q.2 default)).toNat) default).length : Int))), (59, (dI (m : Int)))], hp := [(7, (some (.row 1 (((relaxTo q.2 q.1.1 q.1.2 ((adjTo n l l.length).getD (q.1.2.getD q.2 default).toNat default) m).1).map (fun n : Int => D.int .i64 n))))), (8, (some (.row 1 ((((adjTo n l l.length).map intsU)).set (((q.1.2.getD q.2 default)).toNat) (.hole u2))))), (11, (some (.row 1 (((relaxTo q.2 q.1.1 q.1.2 ((adjTo n l l.length).getD (q.1.2.getD q.2 default).toNat default) m).2).map (fun n : Int => D.int .i64 n))))), (7000004, (some (.row 1 (((adjTo n l l.length).getD (((q.1.2.getD q.2 default)).toNat) default).map (fun n : Int => D.int .i64 n))))), (7000005, (some (.head 7000004 u2)))], pin := [] }) (fun m => m ≤ ((adjTo n l l.length).getD (q.1.2.getD q.2 default).toNat default).length) (fun m => ((adjTo n l l.length).getD (q.1.2.getD q.2 default).toNat default).length - m) ⟨0, (by omega), (Wk.of rfl rfl (ar (ar (ar (ar (ar (ar (ai (vI a67) trivial))))))) (ai (oR a27) (ar (ai (oR a26) (ar (ar trivial))))))⟩ (fun m hp2 => ?_)
   have hadl := adj_len n l l.length (Nat.le_refl _) (q.1.2.getD q.2 default).toNat; obtain ⟨hri, r, hrq⟩ := relaxTo_inv (k := q.2) (o := q.1.1) (q := q.1.2) hp1.inv (by omega) hin m hp2; have hri0 := hri.len; have hril := hri.le; have hqn : (relaxTo q.2 q.1.1 q.1.2 ((adjTo n l l.length).getD (q.1.2.getD q.2 default).toNat default) m).2.getD q.2 default = q.1.2.getD q.2 default := (by rw [hrq]; exact getD_app (by omega)); have hkl2 : q.2 < (relaxTo q.2 q.1.1 q.1.2 ((adjTo n l l.length).getD (q.1.2.getD q.2 default).toNat default) m).2.length := (by rw [hrq, List.length_append]; omega); have hlo := hri.qd _ (getD_mem (d := default) hkl2); have htop := hri.top ((relaxTo q.2 q.1.1 q.1.2 ((adjTo n l l.length).getD (q.1.2.getD q.2 default).toNat default) m).2.getD q.2 default).toNat; have hqk2 := hri.qin _ (getD_mem (d := default) hkl2)
   refine Ts hc (Ch.s (dB (decide ((m : Int) < (((adjTo n l l.length).getD (((q.1.2.getD q.2 default)).toNat) default).length : Int)))) (iX rfl rfl rfl) (Ch.nil (Tq ?_)))
   refine T_condD (p := ((m : Int) < (((adjTo n l l.length).getD (((q.1.2.getD q.2 default)).toNat) default).length : Int))) rfl (fun h3 => ?_) (fun h3 => ?_)
   ·
    try have htm := hin _ (getD_mem (l := ((adjTo n l l.length).getD (q.1.2.getD q.2 default).toNat default)) (j := m) (d := default) (by omega))
    refine Tk (Tq (Tb (Ts hc (Ch.s (.el 7000004 1 m 0) (.pure (.idxRow _ _ _ 3 (m) rfl Tryz.underlying44 sz3 rfl rfl rfl rfl a52)) (Ch.s (dI (((adjTo n l l.length).getD (((q.1.2.getD q.2 default)).toNat) default).getD m default)) (.pure (.loadEl1 _ _ rfl ag3 rfl rfl get_mapA rfl rfl rfl)) (Ch.s (dI (((adjTo n l l.length).getD (((q.1.2.getD q.2 default)).toNat) default).getD m default)) pa ?_))))))
    refine Ch.nil (Ts hc (Ch.s (.row 7) pm (Ch.s (dI (((adjTo n l l.length).getD (((q.1.2.getD q.2 default)).toNat) default).getD m default)) pm (Ch.s (.el 7 1 (((((adjTo n l l.length).getD (((q.1.2.getD q.2 default)).toNat) default).getD m default)).toNat) 0) (.pure (.idxRow _ _ _ 3 (((((adjTo n l l.length).getD (((q.1.2.getD q.2 default)).toNat) default).getD m default)).toNat) rfl Tryz.underlying44 sz3 rfl rfl rfl (by omega) a52)) (Ch.s (dI (((relaxTo q.2 q.1.1 q.1.2 ((adjTo n l l.length).getD (q.1.2.getD q.2 default).toNat default) m).1).getD (((((adjTo n l l.length).getD (((q.1.2.getD q.2 default)).toNat) default).getD m default)).toNat) default)) (.pure (.loadEl1 _ _ rfl ag3 rfl rfl get_mapA rfl rfl rfl)) (Ch.s (dB (decide ((((relaxTo q.2 q.1.1 q.1.2 ((adjTo n l l.length).getD (q.1.2.getD q.2 default).toNat default) m).1).getD (((((adjTo n l l.length).getD (((q.1.2.getD q.2 default)).toNat) default).getD m default)).toNat) default) < 0))) (iX rfl rfl rfl) ?_))))))
    refine Ch.nil ?_
    refine T_condD (p := ((((relaxTo q.2 q.1.1 q.1.2 ((adjTo n l l.length).getD (q.1.2.getD q.2 default).toNat default) m).1).getD (((((adjTo n l l.length).getD (((q.1.2.getD q.2 default)).toNat) default).getD m default)).toNat) default) < 0)) rfl (fun h4 => ?_) (fun h4 => ?_)
    ·
     refine Ts hc (Ch.s (.row 7) pm (Ch.s (dI (((adjTo n l l.length).getD (((q.1.2.getD q.2 default)).toNat) default).getD m default)) pm (Ch.s (.row 7) pm (Ch.s (.row 11) pm (Ch.s (dI (q.2 : Int)) pm (Ch.s (.el 11 1 q.2 0) (.pure (.idxRow _ _ _ 3 (q.2) rfl Tryz.underlying44 sz3 rfl rfl rfl rfl a52)) ?_))))))
     refine Ch.s (dI (((relaxTo q.2 q.1.1 q.1.2 ((adjTo n l l.length).getD (q.1.2.getD q.2 default).toNat default) m).2).getD q.2 default)) (.pure (.loadEl1 _ _ rfl ag3 rfl rfl get_mapA rfl rfl rfl)) (Ch.s (.el 7 1 (((((relaxTo q.2 q.1.1 q.1.2 ((adjTo n l l.length).getD (q.1.2.getD q.2 default).toNat default) m).2).getD q.2 default)).toNat) 0) (.pure (.idxRow _ _ _ 3 (((((relaxTo q.2 q.1.1 q.1.2 ((adjTo n l l.length).getD (q.1.2.getD q.2 default).toNat default) m).2).getD q.2 default)).toNat) rfl Tryz.underlying44 sz3 rfl rfl rfl (by omega) a52)) (Ch.s (dI (((relaxTo q.2 q.1.1 q.1.2 ((adjTo n l l.length).getD (q.1.2.getD q.2 default).toNat default) m).1).getD (((((relaxTo q.2 q.1.1 q.1.2 ((adjTo n l l.length).getD (q.1.2.getD q.2 default).toNat default) m).2).getD q.2 default)).toNat) default)) (.pure (.loadEl1 _ _ rfl ag3 rfl rfl get_mapA rfl rfl rfl)) (Ch.s (dI ((((relaxTo q.2 q.1.1 q.1.2 ((adjTo n l l.length).getD (q.1.2.getD q.2 default).toNat default) m).1).getD (((((relaxTo q.2 q.1.1 q.1.2 ((adjTo n l l.length).getD (q.1.2.getD q.2 default).toNat default) m).2).getD q.2 default)).toNat) default) + 1)) (iX rfl rfl intV_addA) (Ch.s (.el 7 1 (((((adjTo n l l.length).getD (((q.1.2.getD q.2 default)).toNat) default).getD m default)).toNat) 0) (.pure (.idxRow _ _ _ 3 (((((adjTo n l l.length).getD (((q.1.2.getD q.2 default)).toNat) default).getD m default)).toNat) rfl Tryz.underlying44 sz3 rfl rfl rfl (by omega) a52)) (Ch.s .junk (.storeEl (y' := (.int .i64 ((((relaxTo q.2 q.1.1 q.1.2 ((adjTo n l l.length).getD (q.1.2.getD q.2 default).toNat default) m).1).getD (((((relaxTo q.2 q.1.1 q.1.2 ((adjTo n l l.length).getD (q.1.2.getD q.2 default).toNat default) m).2).getD q.2 default)).toNat) default) + 1))) _ _ _ rfl rfl rfl (.d _) rfl sz3 rfl get_mapA rfl rfl) (Ch.nil (Tz hc ?_)))))))
     refine Ch.s (.row 11) pm (Ch.s (dI (((adjTo n l l.length).getD (((q.1.2.getD q.2 default)).toNat) default).getD m default)) pm (Ch.s (.row 81000) (.slice 81000 _ 3 _ rfl sty44 (xs := [.tmp 80]) rfl rfl (.cons (.d _) .nil) rfl rfl (by decide)) ?_))
     refine Ch.step (v := (.row 82000)) rfl (.append 82000 _ _ _ 3 rfl sty44 (by decide) (.rowK rfl) (.inr ⟨_, rfl, rfl⟩) (.row rfl rfl) rfl a33) rfl rfl ?_
     refine Ch.s (.row 82000) pa (Ch.nil (Tz hc (Ch.s (dI ((m : Int) + 1)) (iX rfl rfl intV_addA) (Ch.s (dI ((m : Int) + 1)) pm (Ch.nil ?_)))))
     exact nx (m + 1) (by omega) (Wk.ren [(11, 82000)] rfl rfl rfl rfl (ar (ar (ar (ar (ar (ar (ai (vI a67) trivial))))))) (ai (oR a27) (ar (ai (oR a26) (ar (ar trivial))))))
    ·
     refine Tk (Tz hc (Ch.s (dI ((m : Int) + 1)) (iX rfl rfl intV_addA) (Ch.s (dI ((m : Int) + 1)) pm (Ch.nil ?_))))
     exact nx (m + 1) (by omega) (Wk.of rfl rfl (ar (ar (ar (ar (ar (ar (ai (vI a67) trivial))))))) (ai (oR a27) (ar (ai (oR a26) (ar (ar trivial))))))
   ·
    try have htm := hin _ (getD_mem (l := ((adjTo n l l.length).getD (q.1.2.getD q.2 default).toNat default)) (j := m) (d := default) (by omega))
    refine T_exit (Tz hc (Ch.s (dI (q.2 : Int)) pm (Ch.s (dI ((q.2 : Int) + 1)) (iX rfl rfl intV_addA) (Ch.s (dI ((q.2 : Int) + 1)) pa (Ch.nil ?_)))))
    refine Exists.intro ((relaxTo q.2 q.1.1 q.1.2 ((adjTo n l l.length).getD (q.1.2.getD q.2 default).toNat default) (((adjTo n l l.length).getD (q.1.2.getD q.2 default).toNat default).length), q.2 + 1)) (And.intro (hp1.step (by omega) hl rfl) (And.intro (by dsimp only; omega) (Wk.trans (Wk.give 8 (((q.1.2.getD q.2 default)).toNat) 7000004 7000005 rfl (get_set a52) rfl rfl rfl (set_back (f := intsU) (by omega))) (Wk.of rfl rfl (ar (ar (ar (ai (vI a67) trivial)))) (ai (oR a29) (ar (ai (oR a37) trivial)))))))
  ·
   try have hqk := hp1.inv.qin _ (getD_mem (l := q.1.2) (j := q.2) (d := default) (by omega))
   try have hin := edges_in hl l.length (Nat.le_refl _) (q.1.2.getD q.2 default).toNat
   refine T_exit (Ts hc (Ch.s (.row 7) pm (Ch.s (.row 7) pa (Ch.nil (T_ret ?_)))))
   exact eR [(.row 7)] [] [7] (.cons (.tmp 6 rfl) .nil) eC (Exp.of (congrArg (D.slice true 1) (by exact congrArg (List.map _) (hp1.done (by omega)))) (.row rfl))

theorem sty85 : SlotTy Tryz.prog 85 105 2 16 := slotTy_mk (by kernel_rfl)

theorem stru105 : StructIs Tryz.prog 105 [.int .i64 0, .int .i64 0] [(0, 1), (1, 1)] := structIs_mk (by kernel_rfl) Tryz.underlying105 (by kernel_rfl)

theorem en70 : Enters Tryz.prog 70 := ⟨_, Tryz.func70, by kernel_rfl, rfl⟩

theorem fld82_0 : FieldIs Tryz.prog 82 0 0 1 false := FieldIs.mk Tryz.underlying82 rfl rfl sz3 ag3 rfl

theorem ag82 : AggIs Tryz.prog 82 true := by unfold AggIs; kernel_rfl

theorem sz82 : SizeIs Tryz.prog 82 2 := by unfold SizeIs; kernel_rfl

theorem stru82 : StructIs Tryz.prog 82 [.int .i64 0, .bool false] [(0, 1), (1, 1)] := structIs_mk (by kernel_rfl) Tryz.underlying82 (by kernel_rfl)

theorem eqa82 : ∀ (a0 : Int) (a1 : Bool) (b0 : Int) (b1 : Bool), EqA Tryz.prog 82 [.int .i64 a0, .bool a1] [.int .i64 b0, .bool b1] (decide (a0 = b0) && (decide (a1 = b1) && true)) := fun _ _ _ _ => ⟨_, Tryz.underlying82, Tryz.stoodInHeld82, Tryz.eqGuardType82, (.int (k2 := .i64) rfl Tryz.underlying3 rfl rfl rfl (.bool rfl Tryz.underlying4 rfl rfl .nil))⟩

theorem fld82_1 : FieldIs Tryz.prog 82 1 1 1 false := FieldIs.mk Tryz.underlying82 rfl rfl sz4 ag4 rfl

theorem en47 : Enters Tryz.prog 47 := ⟨_, Tryz.func47, by kernel_rfl, rfl⟩

theorem en48 : Enters Tryz.prog 48 := ⟨_, Tryz.func48, by kernel_rfl, rfl⟩

theorem en49 : Enters Tryz.prog 49 := ⟨_, Tryz.func49, by kernel_rfl, rfl⟩

theorem en50 : Enters Tryz.prog 50 := ⟨_, Tryz.func50, by kernel_rfl, rfl⟩

theorem en53 : Enters Tryz.prog 53 := ⟨_, Tryz.func53, by kernel_rfl, rfl⟩

theorem en52 : Enters Tryz.prog 52 := ⟨_, Tryz.func52, by kernel_rfl, rfl⟩

theorem en51 : Enters Tryz.prog 51 := ⟨_, Tryz.func51, by kernel_rfl, rfl⟩

theorem en64 : Enters Tryz.prog 64 := ⟨_, Tryz.func64, by kernel_rfl, rfl⟩

theorem en66 : Enters Tryz.prog 66 := ⟨_, Tryz.func66, by kernel_rfl, rfl⟩

theorem en65 : Enters Tryz.prog 65 := ⟨_, Tryz.func65, by kernel_rfl, rfl⟩

theorem zr4 : (Tryz.prog.info? 4).bind (·.zero) = some (.bool false) := by kernel_rfl

theorem sty99 : SlotTy Tryz.prog 99 4 1 1 := slotTy_mk (by kernel_rfl)

theorem en36 : Enters Tryz.prog 36 := ⟨_, Tryz.func36, by kernel_rfl, rfl⟩

theorem en37 : Enters Tryz.prog 37 := ⟨_, Tryz.func37, by kernel_rfl, rfl⟩

theorem en38 : Enters Tryz.prog 38 := ⟨_, Tryz.func38, by kernel_rfl, rfl⟩

theorem en39 : Enters Tryz.prog 39 := ⟨_, Tryz.func39, by kernel_rfl, rfl⟩

def stepsOf (l : List Arc) : List Stp := l.map fun a => Stp.mk a.src a.dst

theorem steps_take {l : List Arc} {k : Nat} (hk : k < l.length) : stepsOf (l.take k) ++ [Stp.mk (l.getD k default).src (l.getD k default).dst] = stepsOf (l.take (k + 1)) := by
 unfold stepsOf; rw [List.take_succ_eq_append_getElem hk, List.map_append]; simp [hk]

theorem sp_impl_arcSteps (l : List Arc) (hn : l.length ≤ 1048576) : Sp Tryz.prog 53 [(.slice false 4 (l.map Arc.d))] [.any] (.slice true 2 ((stepsOf l).map Stp.d)) := by
 refine Sp_intro (lend := true) Tryz.func53 rfl rfl rfl (fun _ => rfl) (fun c hc hX => ?_)
 refine Ts hc (Ch.s (.c (.slice none 0 0)) pa (Ch.nil (Ts hc (Ch.s (.row 6000) (.slice 6000 _ 105 _ rfl sty85 (xs := []) rfl rfl .nil rfl rfl (by decide)) (Ch.s (.row 6000) pa ?_)))))
 refine Ch.nil (Tq (Ts hc (Ch.s (.d (.slice false 4 (l.map Arc.d))) pm (Ch.s (dI (l.length : Int)) (.pure (.len _ _ 70 rfl Tryz.underlying31 (.sh _ _) (by simp))) (Ch.s (dI 0) pm (Ch.nil ?_))))))
 refine Tb ?_
 refine T_loop (ι := Nat) (fun k => { n := 23, sl := [(3, (.row 3)), (7, (.d (.slice false 4 (l.map Arc.d)))), (8, (dI (l.length : Int))), (9, (dI (k : Int)))], hp := [(3, (some (.row 2 ((stepsOf (l.take k)).map Stp.d))))], pin := [] }) (fun k => k ≤ l.length) (fun k => l.length - k) ⟨0, (by omega), (Wk.ren [(3, 6000)] rfl rfl rfl rfl (ar (ar (ar (ai (vI a67) trivial)))) (ai (oR a65) trivial))⟩ (fun k hp0 => ?_)
 have hq : (stepsOf (l.take k)).length = k := by simp [stepsOf]; omega
 refine Ts hc (Ch.s (dB (decide ((k : Int) < (l.length : Int)))) (iX rfl rfl rfl) (Ch.nil (Tq ?_)))
 refine T_condD (p := ((k : Int) < (l.length : Int))) rfl (fun h1 => ?_) (fun h1 => ?_)
 ·
  refine Tk (Tq (Tb (Ts hc (Ch.s (.d (.ref (.agg [(.int .i64 ((l.getD k default).src)), (.int .i64 ((l.getD k default).sig)), (.bool ((l.getD k default).up)), (.int .i64 ((l.getD k default).dst))]))) (.pure (.idx _ _ _ 70 (k) rfl Tryz.underlying31 sz70 rfl rfl rfl get_mapA)) (Ch.s (.d (.agg [(.int .i64 ((l.getD k default).src)), (.int .i64 ((l.getD k default).sig)), (.bool ((l.getD k default).up)), (.int .i64 ((l.getD k default).dst))])) (.pure (.loadRefA _ _ rfl ag70 sz70 rfl)) (Ch.s (.ptr 5000 0) (.alloc 5000 _ rfl zer70) ?_))))))
  refine Ch.s .junk (.storePtr _ _ _ rfl rfl rfl (.aggD _) sz70 (lb rfl)) (Ch.nil (Tz hc (Ch.s (.row 3) pm (Ch.s (.ptr 5000 0) (fP fld70_0 rfl) (Ch.s (dI ((l.getD k default).src)) (lP ag3 rfl rfl rfl) (Ch.s (.ptr 5000 3) (fP fld70_3 rfl) (Ch.s (dI ((l.getD k default).dst)) (lP ag3 rfl rfl rfl) ?_)))))))
  refine Ch.s (.agg [(dI ((l.getD k default).src)), (dI ((l.getD k default).dst))]) (.build _ _ rfl stru105 (.cons (.one _ rfl) (.cons (.one _ rfl) .nil)) rfl) (Ch.s (.row 19000) (.slice 19000 _ 105 _ rfl sty85 (xs := [.tmp 18]) rfl rfl (.cons (.agg (.cons (.d _) (.cons (.d _) .nil)) rfl) .nil) rfl rfl (by decide)) ?_)
  refine Ch.step (v := (.row 20000)) rfl (.append 20000 _ _ _ 105 rfl sty85 (by decide) (.rowK rfl) (.inr ⟨_, rfl, rfl⟩) (.row rfl rfl) rfl a33) rfl rfl ?_
  refine Ch.s (.row 20000) pa (Ch.nil (Tz hc (Ch.s (dI ((k : Int) + 1)) (iX rfl rfl intV_addA) (Ch.s (dI ((k : Int) + 1)) pm (Ch.nil ?_)))))
  exact nx (k + 1) (by omega) (Wk.ren [(3, 20000)] rfl rfl rfl rfl (ar (ar (ar (ai (vI a67) trivial)))) (ai (oR a65) trivial))
 ·
  refine T_exit (Ts hc (Ch.s (.row 3) pm (Ch.s (.row 3) pa (Ch.nil (T_ret ?_)))))
  exact eR [(.row 3)] [] [3] (.cons (.tmp 2 rfl) .nil) eA (Exp.of (congrArg (D.slice true 2) (by rw [List.take_of_length_le (by omega)])) (.row rfl))

def hasI (xs : List Int) (v : Int) : Bool := xs.any fun a => decide (a = v)

theorem sp_Index_int (xs : List Int) (v : Int) (hn : xs.length ≤ 1048576) : Sp Tryz.prog 70 [(.slice false 1 (xs.map (fun n : Int => D.int .i64 n))), (.int .i64 v)] [.any, .any] (.int .i64 (ixF (fun a => decide (a = v)) xs)) := by
 refine Sp_intro (lend := true) Tryz.func70 rfl rfl rfl (fun _ => rfl) (fun c hc hX => ?_)
 refine Ts hc (Ch.s (dI 0) pa (Ch.nil (Tq (Ts hc (Ch.s (.d (.slice false 1 (xs.map (fun n : Int => D.int .i64 n)))) pm ?_)))))
 refine Ch.s (dI (xs.length : Int)) (.pure (.len _ _ 3 rfl Tryz.underlying44 (.sh _ _) (by simp))) (Ch.s (dI 0) pm (Ch.nil (Tb ?_)))
 refine T_loop (ι := Nat) (fun k => { n := 19, sl := [(0, (.d (.slice false 1 (xs.map (fun n : Int => D.int .i64 n))))), (1, (dI v)), (7, (dI (xs.length : Int))), (8, (dI (k : Int)))], hp := [], pin := [] }) (fun k => k ≤ xs.length ∧ ∀ j, j < k → decide (xs.getD j default = v) = false) (fun k => xs.length - k) ⟨0, ⟨by omega, fun j hj => by omega⟩, (Wk.of rfl rfl (ar (ar (ar (ai (vI a67) trivial)))) trivial)⟩ (fun k hp0 => ?_)
 refine Ts hc (Ch.s (dB (decide ((k : Int) < (xs.length : Int)))) (iX rfl rfl rfl) (Ch.nil (Tq ?_)))
 refine T_condD (p := ((k : Int) < (xs.length : Int))) rfl (fun h1 => ?_) (fun h1 => ?_)
 ·
  refine Tk (Tq (Tb (Ts hc (Ch.s (dI (k : Int)) pm (Ch.s (dI (k : Int)) pa (Ch.nil ?_))))))
  refine Ts hc (Ch.s (dI v) pm (Ch.s (.d (.slice false 1 (xs.map (fun n : Int => D.int .i64 n)))) pm (Ch.s (dI (k : Int)) pm (Ch.s (.d (.ref (.int .i64 (xs.getD k default)))) (.pure (.idx _ _ _ 3 (k) rfl Tryz.underlying44 sz3 rfl rfl rfl get_mapA)) (Ch.s (dI (xs.getD k default)) (rF ag3 rfl rfl) (Ch.s (dB (decide (v = (xs.getD k default)))) (iX rfl rfl rfl) ?_))))))
  refine Ch.nil ?_
  refine T_condD (p := (v = (xs.getD k default))) rfl (fun h2 => ?_) (fun h2 => ?_)
  ·
   refine Ts hc (Ch.s (dI (k : Int)) pm (Ch.s (dI (k : Int)) pa (Ch.nil (T_ret ?_))))
   exact eR [(dI (k : Int))] [] [] (.cons (.tmp 4 rfl) .nil) eB (Exp.of (congrArg (D.int .i64) (by exact (ixF_some (d := default) (by omega) hp0.2 (by first | (exact decide_eq_true h2.symm) | (exact decide_eq_true h2))).symm)) (.d _))
  ·
   refine Tk (Tz hc (Ch.s (dI ((k : Int) + 1)) (iX rfl rfl intV_addA) (Ch.s (dI ((k : Int) + 1)) pm (Ch.nil ?_))))
   exact nx (k + 1) ⟨by omega, upto_succ hp0.2 (by first | (exact decide_eq_false (fun e => h2 e.symm)) | (exact decide_eq_false h2))⟩ (Wk.of rfl rfl (ar (ar (ar (ai (vI a67) trivial)))) trivial)
 ·
  refine T_exit (Ts hc (Ch.s (dI (-1)) pa (Ch.nil (T_ret ?_))))
  exact eR [(dI (-1))] [] [] (.cons (.tmp 4 rfl) .nil) eB (Exp.of (congrArg (D.int .i64) a60) (.d _))

theorem sp_Contains_int (xs : List Int) (v : Int) (hn : xs.length ≤ 1048576) : Sp Tryz.prog 51 [(.slice false 1 (xs.map (fun n : Int => D.int .i64 n))), (.int .i64 v)] [.any, .any] (.bool (hasI xs v)) := by
 refine Sp_intro (lend := true) Tryz.func51 rfl rfl rfl (fun _ => rfl) (fun c hc hX => ?_)
 refine Ts hc (Ch.s (dB false) pa (Ch.nil (Ts hc (Ch.s (.d (.slice false 1 (xs.map (fun n : Int => D.int .i64 n)))) pm (Ch.s (dI v) pm ?_)))))
 refine Ch.s (dI (ixF (fun a => decide (a = v)) xs)) (.call 7000 70 _ _ _ en70 rfl (.inl rfl) (.cons (.d _) (.cons (.d _) .nil)) rfl rfl (sp_Index_int xs v a21) (.skip _ _ (.skip _ _ .nil)) rfl) (Ch.s (dB (decide (0 ≤ (ixF (fun a => decide (a = v)) xs)))) (iX rfl rfl rfl) (Ch.s (dB (decide (0 ≤ (ixF (fun a => decide (a = v)) xs)))) pa (Ch.nil (T_ret ?_))))
 exact eR [(dB (decide (0 ≤ (ixF (fun a => decide (a = v)) xs))))] [] [] (.cons (.tmp 4 rfl) .nil) eB (Exp.of (congrArg D.bool (by exact ixF_nonneg _ xs)) (.d _))

theorem sp_impl_isBits (u : List UInt8) (n : Int) (hs : u.length ≤ 1048576) : Sp Tryz.prog 48 [(.str u), (.int .i64 n)] [.any, .any] (.bool (codeN u n)) := by
 refine Sp_intro (lend := true) Tryz.func48 rfl rfl rfl (fun _ => rfl) (fun c hc hX => ?_)
 refine Ts hc (Ch.s (dB false) pa (Ch.nil (Tq (Ts hc (Ch.s (dI 0) pa ?_)))))
 refine Ch.nil (Tb ?_)
 refine T_loop (ι := Nat) (fun k => { n := 26, sl := [(0, (dS u)), (1, (dI n)), (5, (dI (k : Int)))], hp := [], pin := [] }) (fun k => k ≤ u.length ∧ ∀ j, j < k → codeCh (u.getD j 0) = true) (fun k => u.length - k) ⟨0, ⟨by omega, fun j hj => by omega⟩, (Wk.of rfl rfl (ar (ar (ai (vI a67) trivial))) trivial)⟩ (fun k hp0 => ?_)
 refine Tq (Ts hc (Ch.s (dI (k : Int)) pm (Ch.s (dS u) pm (Ch.s (dI (u.length : Int)) (.pure (.lenStr _ _ rfl Tryz.underlying9 rfl)) (Ch.s (dB (decide ((k : Int) < (u.length : Int)))) (iX rfl rfl rfl) (Ch.nil ?_))))))
 refine T_condD (p := ((k : Int) < (u.length : Int))) rfl (fun h1 => ?_) (fun h1 => ?_)
 ·
  refine Tk (Tq (Tb (Ts hc (Ch.s (dS u) pm (Ch.s (dI (k : Int)) pm (Ch.s (.d (.int .u8 ((u.getD k 0).toNat : Int))) (.pure (.idxStr _ _ _ (k) rfl Tryz.underlying9 rfl rfl rfl get_strA)) ?_))))))
  refine Ch.s (dB (!(decide (((u.getD k 0) : UInt8) = 48)))) (iX rfl rfl (u8_neq ((u.getD k 0) : UInt8) 48 rfl rfl)) (Ch.s (dB (!(decide (((u.getD k 0) : UInt8) = 48)))) pm ?_)
  cases h2 : (decide (((u.getD k 0) : UInt8) = 48)) with
  | true =>
   replace h2 := odt h2
   refine Ck (Ck (Ck (Ck (Ch.s (dB false) (pF rfl) (Ch.nil ?_)))))
   refine T_cond (b := false) rfl (fun h => nomatch h) (fun _ => ?_)
   refine Tk (Tz hc (Ch.s (dI (k : Int)) pm (Ch.s (dI ((k : Int) + 1)) (iX rfl rfl intV_addA) (Ch.s (dI ((k : Int) + 1)) pa (Ch.nil ?_)))))
   exact nx (k + 1) ⟨by omega, upto_succ hp0.2 (by simp_all [codeCh])⟩ (Wk.of rfl rfl (ar (ar (ai (vI a67) trivial))) trivial)
  | false =>
   replace h2 := odf h2
   refine Ch.s (dS u) pm (Ch.s (dI (k : Int)) pm (Ch.s (.d (.int .u8 ((u.getD k 0).toNat : Int))) (.pure (.idxStr _ _ _ (k) rfl Tryz.underlying9 rfl rfl rfl get_strA)) (Ch.s (dB (!(decide (((u.getD k 0) : UInt8) = 49)))) (iX rfl rfl (u8_neq ((u.getD k 0) : UInt8) 49 rfl rfl)) (Ch.s (dB (!(decide (((u.getD k 0) : UInt8) = 49)))) (pT rfl) (Ch.nil ?_)))))
   refine T_condN (b := (decide (((u.getD k 0) : UInt8) = 49))) rfl (fun h3 => ?_) (fun h3 => ?_)
   ·
    replace h3 := odf h3
    refine Ts hc (Ch.s (dB false) pa (Ch.nil (T_ret ?_)))
    exact eR [(dB false)] [] [] (.cons (.tmp 4 rfl) .nil) eB (Exp.of (congrArg D.bool a30) (.d _))
   ·
    replace h3 := odt h3
    refine Tk (Tz hc (Ch.s (dI (k : Int)) pm (Ch.s (dI ((k : Int) + 1)) (iX rfl rfl intV_addA) (Ch.s (dI ((k : Int) + 1)) pa (Ch.nil ?_)))))
    exact nx (k + 1) ⟨by omega, upto_succ hp0.2 (by simp_all [codeCh])⟩ (Wk.of rfl rfl (ar (ar (ai (vI a67) trivial))) trivial)
 ·
  refine T_exit (Ts hc (Ch.s (dS u) pm (Ch.s (dI (u.length : Int)) (.pure (.lenStr _ _ rfl Tryz.underlying9 rfl)) (Ch.s (dI n) pm (Ch.s (dB (decide ((u.length : Int) = n))) (iX rfl rfl rfl) (Ch.s (dB (decide ((u.length : Int) = n))) pa ?_))))))
  refine Ch.nil (T_ret ?_)
  exact eR [(dB (decide ((u.length : Int) = n)))] [] [] (.cons (.tmp 4 rfl) .nil) eB (Exp.of (congrArg D.bool a30) (.d _))

def edgeB (l : Lab) (n : Int) : Bool := withinB l.sig 0 (n - 1) || (decide (l.sig = -1) && !l.up)

theorem lab_eq (l : Lab) : decide (l = Lab.mk (-1) false) = (decide (l.sig = -1) && !l.up) := by
  cases l; rename_i a b; cases b <;> simp

theorem sp_impl_isEdge (l : Lab) (n : Int) (hn0 : 0 ≤ n) (hn : n ≤ 1048576) : Sp Tryz.prog 49 [(.agg [(.int .i64 l.sig), (.bool (l.up))]), (.int .i64 n)] [.any, .any] (.bool (edgeB l n)) := by
 refine Sp_intro (lend := true) Tryz.func49 rfl rfl rfl (fun _ => rfl) (fun c hc hX => ?_)
 refine Ts hc (Ch.s (.ptr 2000 0) (.box 2000 _ _ rfl (.aggD _)) (Ch.s (dB false) pa (Ch.nil (Ts hc (Ch.s (.ptr 2000 0) (fP fld82_0 rfl) ?_)))))
 refine Ch.s (dI l.sig) (lP ag3 rfl rfl rfl) (Ch.s (dI n) pm (Ch.s (dI (n - 1)) (iX rfl rfl intV_subA) (Ch.s (dB (withinB l.sig 0 (n - 1))) (.call 9000 25 _ _ _ en25 rfl (.inl rfl) (.cons (.d _) (.cons (.d _) (.cons (.d _) .nil))) rfl rfl (sp_impl_within l.sig 0 (n - 1)) (.skip _ _ (.skip _ _ (.skip _ _ .nil))) rfl) (Ch.s (dB (withinB l.sig 0 (n - 1))) pm ?_))))
 cases h1 : (withinB l.sig 0 (n - 1)) with
 | true =>
  refine Ck (Ck (Ck (Ch.s (dB true) (pT rfl) (Ch.s (dB true) pa (Ch.nil (T_ret ?_))))))
  exact eR [(dB true)] [] [] (.cons (.tmp 4 rfl) .nil) eB (Exp.of (congrArg D.bool a56) (.d _))
 | false =>
  refine Ch.s (.agg [(dI l.sig), (dB (l.up))]) (lA ag82 sz82 rfl rfl (lb rfl) rfl) (Ch.s (.agg [(dI (-1)), (dB false)]) (.build _ _ rfl stru82 (.cons (.one _ rfl) .nil) rfl) (Ch.s (dB (decide (l = (Lab.mk (-1) false)))) (.pure (.eqA _ _ _ _ rfl (eqa82 _ _ _ _) (.v [(.int .i64 l.sig), (.bool (l.up))]) (.v [(.int .i64 (-1)), (.bool false)]) (Lab.eqv l (Lab.mk (-1) false)))) (Ch.s (dB (decide (l = (Lab.mk (-1) false)))) (pF rfl) (Ch.s (dB (decide (l = (Lab.mk (-1) false)))) pa (Ch.nil (T_ret ?_))))))
  exact eR [(dB (decide (l = (Lab.mk (-1) false))))] [] [] (.cons (.tmp 4 rfl) .nil) eB (Exp.of (congrArg D.bool a56) (.d _))

theorem sp_spec_l2Label (l : Lab) (n : Int) (hn0 : 0 ≤ n) (hn : n ≤ 1048576) : Sp Tryz.prog 64 [(.agg [(.int .i64 l.sig), (.bool (l.up))]), (.int .i64 n)] [.any, .any] (.bool (edgeB l n)) := by
 refine Sp_intro (lend := true) Tryz.func64 rfl rfl rfl (fun _ => rfl) (fun c hc hX => ?_)
 refine Ts hc (Ch.s (.ptr 2000 0) (.box 2000 _ _ rfl (.aggD _)) (Ch.s (dB false) pa (Ch.nil (Ts hc (Ch.s (.ptr 2000 0) (fP fld82_0 rfl) ?_)))))
 refine Ch.s (dI l.sig) (lP ag3 rfl rfl rfl) (Ch.s (dI n) pm (Ch.s (dI (n - 1)) (iX rfl rfl intV_subA) (Ch.s (dB (withinB l.sig 0 (n - 1))) (.call 9000 17 _ _ _ en17 rfl (.inl rfl) (.cons (.d _) (.cons (.d _) (.cons (.d _) .nil))) rfl rfl (sp_spec_l1In l.sig 0 (n - 1)) (.skip _ _ (.skip _ _ (.skip _ _ .nil))) rfl) (Ch.s (dB (withinB l.sig 0 (n - 1))) pm ?_))))
 cases h1 : (withinB l.sig 0 (n - 1)) with
 | true =>
  refine Ck (Ck (Ck (Ck (Ck (Ck (Ck (Ch.skip rfl rfl ?_)))))))
  refine Ch.s (dB true) (pT rfl) (Ch.s (dB true) pa (Ch.nil (T_ret ?_)))
  exact eR [(dB true)] [] [] (.cons (.tmp 4 rfl) .nil) eB (Exp.of (congrArg D.bool a56) (.d _))
 | false =>
  refine Ch.s (.ptr 2000 0) (fP fld82_0 rfl) (Ch.s (dI l.sig) (lP ag3 rfl rfl rfl) (Ch.s (dB (decide (l.sig = (-1)))) (iX rfl rfl rfl) (Ch.s (dB (decide (l.sig = (-1)))) pm ?_)))
  cases h2 : (decide (l.sig = (-1))) with
  | true =>
   replace h2 := odt h2
   refine Ch.s (.ptr 2000 1) (fP fld82_1 rfl) (Ch.s (dB (l.up)) (lP ag4 rfl rfl rfl) (Ch.s (dB (!(l.up))) (nT rfl) (Ch.s (dB (!(l.up))) (pT rfl) (Ch.s (dB (!(l.up))) (pF rfl) (Ch.s (dB (!(l.up))) pa (Ch.nil (T_ret ?_)))))))
   exact eR [(dB (!(l.up)))] [] [] (.cons (.tmp 4 rfl) .nil) eB (Exp.of (congrArg D.bool a56) (.d _))
  | false =>
   replace h2 := odf h2
   refine Ck (Ck (Ck (Ch.s (dB false) (pF rfl) (Ch.s (dB false) (pF rfl) (Ch.s (dB false) pa (Ch.nil (T_ret ?_)))))))
   exact eR [(dB false)] [] [] (.cons (.tmp 4 rfl) .nil) eB (Exp.of (congrArg D.bool a56) (.d _))

def fitCh (a : Arc) (u v : List UInt8) (j : Nat) : Bool := if (j : Int) = a.sig then !decide (decide (u.getD j 0 = 49) = a.up) && decide (decide (v.getD j 0 = 49) = a.up) else decide (u.getD j 0 = v.getD j 0)

def fitB (a : Arc) (u v : List UInt8) : Bool := allB u.length (fitCh a u v)

theorem sp_impl_fitsCodes (a : Arc) (u v : List UInt8) (hu : u.length ≤ 1048576) (hv : v.length = u.length) : Sp Tryz.prog 50 [(.agg [(.int .i64 a.src), (.int .i64 a.sig), (.bool (a.up)), (.int .i64 a.dst)]), (.str u), (.str v)] [.any, .any, .any] (.bool (fitB a u v)) := by
 refine Sp_intro (lend := true) Tryz.func50 rfl rfl rfl (fun _ => rfl) (fun c hc hX => ?_)
 refine Ts hc (Ch.s (.ptr 3000 0) (.box 3000 _ _ rfl (.aggD _)) (Ch.s (dB false) pa (Ch.nil (Tq (Tq (Tz hc ?_))))))
 refine Ch.s (dS u) pm (Ch.s (dI (u.length : Int)) (.pure (.lenStr _ _ rfl Tryz.underlying9 rfl)) (Ch.s (dI 0) pm (Ch.nil (Tb ?_))))
 refine T_loop (ι := Nat) (fun k => { n := 43, sl := [(1, (dS u)), (2, (dS v)), (3, (.ptr 3000 0)), (9, (dI (u.length : Int))), (10, (dI (k : Int)))], hp := [(3000, (some (.box [(dI a.src), (dI a.sig), (dB (a.up)), (dI a.dst)])))], pin := [] }) (fun k => k ≤ u.length ∧ ∀ j, j < k → fitCh a u v j = true) (fun k => u.length - k) ⟨0, ⟨by omega, fun j hj => by omega⟩, (Wk.of rfl rfl (ar (ar (ar (ar (ai (vI a67) trivial))))) (ar trivial))⟩ (fun k hp0 => ?_)
 refine Ts hc (Ch.s (dB (decide ((k : Int) < (u.length : Int)))) (iX rfl rfl rfl) (Ch.nil (Tq ?_)))
 refine T_condD (p := ((k : Int) < (u.length : Int))) rfl (fun h1 => ?_) (fun h1 => ?_)
 ·
  refine Tk (Tq (Tb (Ts hc (Ch.s (dI (k : Int)) pm (Ch.s (dI (k : Int)) pa (Ch.nil ?_))))))
  refine Tb (Ts hc (Ch.s (dI (k : Int)) pm (Ch.s (.ptr 3000 1) (fP fld70_1 rfl) (Ch.s (dI a.sig) (lP ag3 rfl rfl rfl) (Ch.s (dB (!(decide ((k : Int) = a.sig)))) (iX rfl rfl rfl) (Ch.s (dB (!(decide ((k : Int) = a.sig)))) pa ?_))))))
  refine Ch.nil ?_
  refine T_condN (b := (decide ((k : Int) = a.sig))) rfl (fun h2 => ?_) (fun h2 => ?_)
  ·
   replace h2 := odf h2
   refine Tq ?_
   refine T_regionD hc (by kernel_rfl) ?_
   refine ChD.s (dS u) [] pm (ChD.s (dI (k : Int)) [] pm (ChD.s (.d (.int .u8 ((u.getD k 0).toNat : Int))) [] (.pure (.idxStr _ _ _ (k) rfl Tryz.underlying9 rfl rfl rfl get_strA)) (ChD.s (dS v) [] pm (ChD.s (dI (k : Int)) [] pm (ChD.s (.d (.int .u8 ((v.getD k 0).toNat : Int))) [] (.pure (.idxStr _ _ _ (k) rfl Tryz.underlying9 rfl rfl rfl get_strA)) (ChD.s (dB (!(decide (((u.getD k 0) : UInt8) = (v.getD k 0))))) [] (iX rfl rfl (u8_neq ((u.getD k 0) : UInt8) (v.getD k 0) rfl rfl)) ?_))))))
   refine ChD.nil (And.intro ?_ (by kernel_rfl))
   refine T_condN (b := (decide (((u.getD k 0) : UInt8) = (v.getD k 0)))) rfl (fun h3 => ?_) (fun h3 => ?_)
   ·
    replace h3 := odf h3
    refine Ts hc (Ch.s (dB false) pa (Ch.nil (T_ret ?_)))
    exact eR [(dB false)] [] [] (.cons (.tmp 6 rfl) .nil) eC (Exp.of (congrArg D.bool a9) (.d _))
   ·
    replace h3 := odt h3
    refine Tk (Tz hc (Ch.s (dI ((k : Int) + 1)) (iX rfl rfl intV_addA) (Ch.s (dI ((k : Int) + 1)) pm (Ch.nil ?_))))
    exact nx (k + 1) ⟨by omega, upto_succ hp0.2 a19⟩ (Wk.of rfl rfl (ar (ar (ar (ar (ai (vI a67) trivial))))) (ar trivial))
  ·
   replace h2 := odt h2
   refine Tq ?_
   refine T_regionD hc (by kernel_rfl) ?_
   refine ChD.s (dS u) [] pm (ChD.s (dI (k : Int)) [] pm (ChD.s (.d (.int .u8 ((u.getD k 0).toNat : Int))) [] (.pure (.idxStr _ _ _ (k) rfl Tryz.underlying9 rfl rfl rfl get_strA)) (ChD.s (dB (decide (((u.getD k 0) : UInt8) = 49))) [] (iX rfl rfl (u8_eql ((u.getD k 0) : UInt8) 49 rfl rfl)) (ChD.s (.ptr 3000 2) [] (fP fld70_2 rfl) (ChD.s (dB (a.up)) [3000] (lP ag4 rfl rfl rfl) (ChD.s (dB (decide ((decide (((u.getD k 0) : UInt8) = 49)) = (a.up)))) [] (.pure (.eqB _ _ _ _ rfl Tryz.underlying4 rfl rfl)) (ChD.s (dB (decide ((decide (((u.getD k 0) : UInt8) = 49)) = (a.up)))) [] pm ?_)))))))
   cases h4 : (decide ((decide (((u.getD k 0) : UInt8) = 49)) = (a.up))) with
   | true =>
    replace h4 := odt h4
    refine ChD.skip rfl rfl (ChD.skip rfl rfl (ChD.skip rfl rfl (ChD.skip rfl rfl (ChD.skip rfl rfl (ChD.skip rfl rfl (ChD.skip rfl rfl (ChD.s (dB true) [] (pT rfl) ?_)))))))
    refine ChD.s (dB true) [] pa ?_
    refine ChD.nil (And.intro ?_ (by kernel_rfl))
    refine T_cond (b := true) rfl (fun _ => ?_) (fun h => nomatch h)
    refine Ts hc (Ch.s (dB false) pa (Ch.nil (T_ret ?_)))
    exact eR [(dB false)] [] [] (.cons (.tmp 6 rfl) .nil) eC (Exp.of (congrArg D.bool a9) (.d _))
   | false =>
    replace h4 := odf h4
    refine ChD.s (dS v) [] pm (ChD.s (dI (k : Int)) [] pm (ChD.s (.d (.int .u8 ((v.getD k 0).toNat : Int))) [] (.pure (.idxStr _ _ _ (k) rfl Tryz.underlying9 rfl rfl rfl get_strA)) (ChD.s (dB (decide (((v.getD k 0) : UInt8) = 49))) [] (iX rfl rfl (u8_eql ((v.getD k 0) : UInt8) 49 rfl rfl)) (ChD.s (.ptr 3000 2) [] (fP fld70_2 rfl) (ChD.s (dB (a.up)) [3000] (lP ag4 rfl rfl rfl) (ChD.s (dB (!(decide ((decide (((v.getD k 0) : UInt8) = 49)) = (a.up))))) [] (.pure (.neB _ _ _ _ rfl Tryz.underlying4 rfl rfl)) (ChD.s (dB (!(decide ((decide (((v.getD k 0) : UInt8) = 49)) = (a.up))))) [] (pF rfl) ?_)))))))
    refine ChD.s (dB (!(decide ((decide (((v.getD k 0) : UInt8) = 49)) = (a.up))))) [] pa ?_
    refine ChD.nil (And.intro ?_ (by kernel_rfl))
    refine T_condN (b := (decide ((decide (((v.getD k 0) : UInt8) = 49)) = (a.up)))) rfl (fun h5 => ?_) (fun h5 => ?_)
    ·
     replace h5 := odf h5
     refine Ts hc (Ch.s (dB false) pa (Ch.nil (T_ret ?_)))
     exact eR [(dB false)] [] [] (.cons (.tmp 6 rfl) .nil) eC (Exp.of (congrArg D.bool a9) (.d _))
    ·
     replace h5 := odt h5
     refine Tk (Tz hc (Ch.s (dI ((k : Int) + 1)) (iX rfl rfl intV_addA) (Ch.s (dI ((k : Int) + 1)) pm (Ch.nil ?_))))
     exact nx (k + 1) ⟨by omega, upto_succ hp0.2 a19⟩ (Wk.of rfl rfl (ar (ar (ar (ar (ai (vI a67) trivial))))) (ar trivial))
 ·
  refine T_exit (Ts hc (Ch.s (dB true) pa (Ch.nil (T_ret ?_))))
  exact eR [(dB true)] [] [] (.cons (.tmp 6 rfl) .nil) eC (Exp.of (congrArg D.bool a9) (.d _))

inductive Rch (E : Int → Int → Prop) (S : Int → Prop) : Int → Prop
 | base {a : Int} : S a → Rch E S a
 | step {a b : Int} : Rch E S a → E a b → Rch E S b

theorem Rch.mono {E E' : Int → Int → Prop} {S S' : Int → Prop} (hE : ∀ a b, E a b → E' a b) (hS : ∀ a, S a → S' a) {a : Int} (h : Rch E S a) : Rch E' S' a := by
 induction h with
 | base h => exact .base (hS _ h)
 | step _ e ih => exact .step ih (hE _ _ e)

theorem Rch.ind {E : Int → Int → Prop} {S : Int → Prop} (P : Int → Prop) (h0 : ∀ a, S a → P a) (h1 : ∀ a b, P a → E a b → P b) {a : Int} (h : Rch E S a) : P a := by
 induction h with
 | base h => exact h0 _ h
 | step _ e ih => exact h1 _ _ ih e

structure Grow {σ ε : Type} (g : σ → ε → σ) (l : List ε) (size : σ → Nat) (ok : σ → Prop) (N : Nat) : Prop where
 keep : ∀ s e, e ∈ l → ok s → ok (g s e)
 more : ∀ s e, e ∈ l → ok s → size s ≤ size (g s e)
 same : ∀ s e, e ∈ l → ok s → size (g s e) ≤ size s → g s e = s
 top : ∀ s, ok s → size s ≤ N

theorem Grow.fold {σ ε : Type} {g : σ → ε → σ} {size : σ → Nat} {ok : σ → Prop} {N : Nat} : ∀ {l : List ε}, Grow g l size ok N → ∀ s, ok s → ok (l.foldl g s) ∧ size s ≤ size (l.foldl g s) ∧ (size (l.foldl g s) ≤ size s → l.foldl g s = s ∧ ∀ e ∈ l, g s e = s)
  | [], _, s, hs => ⟨hs, Nat.le_refl _, fun _ => ⟨rfl, fun e he => absurd he (List.not_mem_nil)⟩⟩
  | e :: l, h, s, hs => by
    have h' : Grow g l size ok N := ⟨fun s a ha => h.keep s a (List.mem_cons_of_mem _ ha), fun s a ha => h.more s a (List.mem_cons_of_mem _ ha), fun s a ha => h.same s a (List.mem_cons_of_mem _ ha), h.top⟩
    have h1 := h.keep s e (List.mem_cons_self) hs
    have h2 := h.more s e (List.mem_cons_self) hs
    obtain ⟨a, b, c⟩ := h'.fold (g s e) h1
    rw [List.foldl_cons]
    refine ⟨a, by omega, fun hle => ?_⟩
    obtain ⟨c1, c2⟩ := c (by omega)
    have e1 := h.same s e (List.mem_cons_self) hs (by rw [c1] at hle; exact hle)
    rw [e1] at c1 c2
    rw [e1]
    refine ⟨c1, fun x hx => ?_⟩
    rcases List.mem_cons.1 hx with rfl | hx
    · exact e1
    · exact c2 x hx

def itN {σ : Type} (f : σ → σ) : Nat → σ → σ
 | 0, s => s
 | k + 1, s => f (itN f k s)

theorem Grow.steps {σ ε : Type} {g : σ → ε → σ} {l : List ε} {size : σ → Nat} {ok : σ → Prop} {N : Nat} (h : Grow g l size ok N) {s : σ} (hs : ok s) : ∀ k, ok (itN (l.foldl g) k s) ∧ (k ≤ size (itN (l.foldl g) k s) ∨ ∀ e ∈ l, g (itN (l.foldl g) k s) e = itN (l.foldl g) k s)
  | 0 => ⟨hs, .inl (Nat.zero_le _)⟩
  | k + 1 => by
    obtain ⟨h1, h2⟩ := h.steps hs k
    obtain ⟨a, b, c⟩ := h.fold _ h1
    refine ⟨a, ?_⟩
    by_cases hle : size (l.foldl g (itN (l.foldl g) k s)) ≤ size (itN (l.foldl g) k s)
    · obtain ⟨c1, c2⟩ := c hle
      right
      show ∀ e ∈ l, g (l.foldl g (itN (l.foldl g) k s)) e = l.foldl g (itN (l.foldl g) k s)
      rw [c1]; exact c2
    · rcases h2 with h2 | h2
      · left
        show k + 1 ≤ size (l.foldl g (itN (l.foldl g) k s))
        omega
      · exfalso
        apply hle
        have : ∀ (l' : List ε) , (∀ e ∈ l', g (itN (l.foldl g) k s) e = itN (l.foldl g) k s) → l'.foldl g (itN (l.foldl g) k s) = itN (l.foldl g) k s := by
          intro l'
          induction l' with
          | nil => intro _; rfl
          | cons e l' ih =>
            intro hh
            rw [List.foldl_cons, hh e (List.mem_cons_self)]
            exact ih fun x hx => hh x (List.mem_cons_of_mem _ hx)
        rw [this l h2]; exact Nat.le_refl _

theorem Grow.fix {σ ε : Type} {g : σ → ε → σ} {l : List ε} {size : σ → Nat} {ok : σ → Prop} {N : Nat} (h : Grow g l size ok N) {s : σ} (hs : ok s) : ok (itN (l.foldl g) N s) ∧ ∀ e ∈ l, g (itN (l.foldl g) N s) e = itN (l.foldl g) N s := by
  obtain ⟨h1, h2⟩ := h.steps hs N
  refine ⟨h1, ?_⟩
  rcases h2 with h2 | h2
  · intro e he
    exact h.same _ e he h1 (by have := h.top _ (h.keep _ e he h1); omega)
  · exact h2

def markC (p : Arc → Bool) (m : List Bool) (a : Arc) : List Bool := if m.getD a.src.toNat default && p a then m.set a.dst.toNat true else m

def arcE (p : Arc → Bool) (l : List Arc) (a b : Int) : Prop := ∃ e ∈ l, e.src = a ∧ e.dst = b ∧ p e = true

def ends (n : Nat) (l : List Arc) : Prop := ∀ e ∈ l, (0 ≤ e.src ∧ e.src.toNat < n) ∧ (0 ≤ e.dst ∧ e.dst.toNat < n)

theorem getD_set {τ : Type} {d : τ} {l : List τ} {i j : Nat} {x : τ} : (l.set i x).getD j d = if i = j ∧ i < l.length then x else l.getD j d := by
  rw [List.getD_eq_getElem?_getD, List.getElem?_set]
  by_cases h : i = j
  · subst h
    by_cases h2 : i < l.length
    · simp [h2]
    · simp [h2]
  · simp [h]

theorem markC_size (p : Arc → Bool) (m : List Bool) (a : Arc) : m.count true ≤ (markC p m a).count true ∧ ((markC p m a).count true ≤ m.count true → markC p m a = m) := by
  unfold markC
  split
  · by_cases hd : a.dst.toNat < m.length
    · rw [List.count_set (h := hd)]
      by_cases hb : m[a.dst.toNat] = true
      · have hc : 0 < m.count true := List.count_pos_iff.2 (by rw [← hb]; exact List.getElem_mem hd)
        rw [hb]
        refine ⟨by simp; omega, fun _ => ?_⟩
        rw [← hb]; exact List.set_getElem_self hd
      · have hb' : m[a.dst.toNat] = false := by simpa using hb
        rw [hb']
        refine ⟨by simp, fun h => ?_⟩
        simp at h
        omega
    · rw [List.set_eq_of_length_le (by omega)]
      exact ⟨Nat.le_refl _, fun _ => rfl⟩
  · exact ⟨Nat.le_refl _, fun _ => rfl⟩

theorem markC_hit {p : Arc → Bool} {m : List Bool} {e : Arc} (h : m.getD e.src.toNat default = true) (hp : p e = true) (hd : e.dst.toNat < m.length) : (markC p m e).getD e.dst.toNat default = true := by
 unfold markC
 rw [h, hp, Bool.and_self, if_pos rfl, getD_set, if_pos ⟨rfl, hd⟩]

theorem markC_grow (p : Arc → Bool) {n : Nat} {l : List Arc} (hl : ends n l) (m0 : List Bool) :
    Grow (markC p) l (fun m => m.count true) (fun m => m.length = n ∧ (∀ j, m0.getD j default = true → m.getD j default = true) ∧ ∀ j : Nat, m.getD j default = true → Rch (arcE p l) (fun a => 0 ≤ a ∧ m0.getD a.toNat default = true) (j : Int)) n := by
  refine ⟨?_, fun s e _ _ => (markC_size p s e).1, fun s e _ _ => (markC_size p s e).2, fun s hs => by have := List.count_le_length (a := true) (l := s); omega⟩
  intro m e he ⟨h1, h2, h3⟩
  unfold markC
  split
  · rename_i hc
    rw [Bool.and_eq_true] at hc
    have hee := hl e he
    refine ⟨by rw [List.length_set]; exact h1, fun j hj => ?_, fun j hj => ?_⟩
    · rw [getD_set]; split
      · rfl
      · exact h2 j hj
    · rw [getD_set] at hj
      split at hj
      · rename_i hh
        have := h3 _ hc.1
        rw [show (e.src.toNat : Int) = e.src by omega] at this
        exact .step this ⟨e, he, rfl, by omega, hc.2⟩
      · exact h3 j hj
  · exact ⟨h1, h2, h3⟩

theorem markC_reach (p : Arc → Bool) {n : Nat} {l : List Arc} (hl : ends n l) {m0 : List Bool} (hm : m0.length = n) (j : Nat) :
  (itN (l.foldl (markC p)) n m0).getD j default = true ↔ Rch (arcE p l) (fun a => 0 ≤ a ∧ m0.getD a.toNat default = true) (j : Int) := by
 obtain ⟨⟨h1, h2, h3⟩, h4⟩ := (markC_grow p hl m0).fix (s := m0) ⟨hm, fun _ h => h, fun j h => .base ⟨by omega, h⟩⟩
 refine ⟨h3 j, fun h => ?_⟩
 have : 0 ≤ (j : Int) ∧ (itN (l.foldl (markC p)) n m0).getD ((j : Int)).toNat default = true := by
  refine Rch.ind (fun a => 0 ≤ a ∧ (itN (l.foldl (markC p)) n m0).getD a.toNat default = true) (fun a ha => ⟨ha.1, h2 _ ha.2⟩) ?_ h
  rintro a b ⟨ha, hb⟩ ⟨e, he, rfl, rfl, hp⟩
  have hs := h4 e he
  have hee := hl e he
  refine ⟨hee.2.1, ?_⟩
  rw [← hs]
  exact markC_hit hb hp (by omega)
 simpa using this.2

theorem linked_mem {a : List (List Int)} {e : Stp} {i : Nat} {t : Int} (he : e.src.toNat < a.length) : t ∈ (linked a e).getD i default ↔ t ∈ a.getD i default ∨ (e.src.toNat = i ∧ e.dst = t) := by
  unfold linked
  rw [getD_set]
  split
  · rename_i h
    rw [h.1, List.mem_append, List.mem_singleton]
    constructor
    · rintro (h2 | h2)
      · exact .inl h2
      · exact .inr ⟨rfl, h2.symm⟩
    · rintro (h2 | h2)
      · exact .inl h2
      · exact .inr h2.2.symm
  · rename_i h
    constructor
    · exact .inl
    · rintro (h2 | h2)
      · exact h2
      · exact absurd ⟨h2.1, he⟩ h

theorem adj_mem {n : Nat} {l : List Stp} (hl : ∀ e ∈ l, (0 ≤ e.src ∧ e.src.toNat < n) ∧ (0 ≤ e.dst ∧ e.dst.toNat < n)) {i : Nat} {t : Int} : ∀ k, k ≤ l.length → (t ∈ (adjTo n l k).getD i default ↔ ∃ e ∈ l.take k, e.src.toNat = i ∧ e.dst = t)
  | 0, _ => by
    rw [adjTo_zero]
    constructor
    · intro h
      exfalso
      by_cases hi : i < n
      · simp [hi] at h
      · simp [hi] at h
        cases h
    · rintro ⟨e, he, _⟩
      simp at he
  | k + 1, hk => by
    have hm := getD_mem (l := l) (j := k) (d := default) (by omega)
    have hg : l.getD k default = l[k] := by simp [show k < l.length by omega]
    rw [adjTo_succ (by omega), linked_mem (by rw [adjTo_length]; exact (hl _ hm).1.2), adj_mem hl k (by omega), List.take_succ_eq_append_getElem (by omega)]
    constructor
    · rintro (⟨e, he, h⟩ | h)
      · exact ⟨e, List.mem_append.2 (.inl he), h⟩
      · exact ⟨_, List.mem_append.2 (.inr (List.mem_singleton.2 rfl)), by rw [← hg]; exact h⟩
    · rintro ⟨e, he, h⟩
      rcases List.mem_append.1 he with he | he
      · exact .inl ⟨e, he, h⟩
      · rw [List.mem_singleton] at he; subst he; rw [← hg] at h; exact .inr h

structure BfsC (E : Int → Int → Prop) (s : Nat) (p : List Int × List Int) : Prop where
 snd : ∀ t ∈ p.2, Rch E (fun a => a = (s : Int)) t
 two : ∀ j, j < p.1.length → p.1.getD j default = -1 ∨ (j : Int) ∈ p.2
 src : (s : Int) ∈ p.2

theorem BfsC.relax {E : Int → Int → Prop} {s n k : Nat} {p : List Int × List Int} (h : BfsC E s p) (hi : Bfs n p) (hk : k < p.2.length) {t : Int} (ht : 0 ≤ t ∧ t.toNat < n) (he : E (p.2.getD k default) t) :
    BfsC E s (relax k p t) ∧ (∀ j : Nat, 0 ≤ p.1.getD j default → 0 ≤ (Go.AM.relax k p t).1.getD j default) ∧ 0 ≤ (Go.AM.relax k p t).1.getD t.toNat default := by
  have hq : p.2.getD k default ∈ p.2 := getD_mem hk
  have hqd := hi.qd _ hq
  have hlen := hi.len
  unfold Go.AM.relax
  split
  · refine ⟨⟨?_, ?_, List.mem_append.2 (.inl h.src)⟩, ?_, ?_⟩
    · intro x hx
      rcases List.mem_append.1 hx with hx | hx
      · exact h.snd x hx
      · rw [List.mem_singleton] at hx; subst hx; exact .step (h.snd _ hq) he
    · intro j hj
      dsimp only at hj ⊢
      rw [List.length_set] at hj
      rw [getD_set]
      split
      · rename_i hh
        right
        rw [← hh.1]
        exact List.mem_append.2 (.inr (List.mem_singleton.2 (by omega)))
      · rcases h.two j hj with h2 | h2
        · exact .inl h2
        · exact .inr (List.mem_append.2 (.inl h2))
    · intro j hj
      dsimp only
      rw [getD_set]
      split
      · omega
      · exact hj
    · dsimp only
      rw [getD_set, if_pos ⟨rfl, by omega⟩]; omega
  · exact ⟨h, fun _ h => h, by omega⟩

theorem relaxTo_c {E : Int → Int → Prop} {s n k : Nat} {o q ts : List Int} (hi : Bfs n (o, q)) (h : BfsC E s (o, q)) (hk : k < q.length) (hts : ∀ t ∈ ts, (0 ≤ t ∧ t.toNat < n) ∧ E (q.getD k default) t) : ∀ m, m ≤ ts.length →
    BfsC E s (relaxTo k o q ts m) ∧ (∀ j : Nat, 0 ≤ o.getD j default → 0 ≤ (relaxTo k o q ts m).1.getD j default) ∧ ∀ i, i < m → 0 ≤ (relaxTo k o q ts m).1.getD (ts.getD i default).toNat default
  | 0, _ => ⟨h, fun _ h => h, fun i hi => absurd hi (Nat.not_lt_zero _)⟩
  | m + 1, hm => by
    obtain ⟨h1, h2, h3⟩ := relaxTo_c hi h hk hts m (by omega)
    obtain ⟨h4, r, h5⟩ := relaxTo_inv hi hk (fun t ht => (hts t ht).1) m (by omega)
    have hkl : k < (relaxTo k o q ts m).2.length := by rw [h5, List.length_append]; omega
    have hqk : (relaxTo k o q ts m).2.getD k default = q.getD k default := by rw [h5]; exact getD_app hk
    have htm := hts _ (getD_mem (l := ts) (j := m) (d := default) (by omega))
    obtain ⟨a, b, c⟩ := h1.relax h4 hkl htm.1 (by rw [hqk]; exact htm.2)
    rw [relaxTo_succ (by omega)]
    refine ⟨a, fun j hj => b j (h2 j hj), fun i hi => ?_⟩
    by_cases hlt : i < m
    · exact b _ (h3 i hlt)
    · rw [show i = m by omega]; exact c

theorem bfsR_end {E : Int → Int → Prop} {s n : Nat} {nx : List (List Int)} (hnx : ∀ a : Int, (0 ≤ a ∧ a.toNat < n) → ∀ t ∈ nx.getD a.toNat default, (0 ≤ t ∧ t.toNat < n) ∧ E a t) : ∀ (f : Nat) (p : List Int × List Int) (k : Nat), Bfs n p → BfsC E s p → n ≤ k + f →
    (∀ i, i < k → i < p.2.length → ∀ t ∈ nx.getD (p.2.getD i default).toNat default, 0 ≤ p.1.getD t.toNat default) →
    ∃ q, Bfs n (bfsR nx f p k, q) ∧ BfsC E s (bfsR nx f p k, q) ∧ ∀ a ∈ q, ∀ t ∈ nx.getD a.toNat default, 0 ≤ (bfsR nx f p k).getD t.toNat default
  | 0, p, k, hi, hc, hf, hd => by
    refine ⟨p.2, hi, hc, fun a ha t ht => ?_⟩
    obtain ⟨i, hil, rfl⟩ := List.mem_iff_getElem.1 ha
    have hle := hi.le
    refine hd i (by omega) hil t ?_
    rwa [show p.2.getD i default = p.2[i] by simp [hil]]
  | f + 1, p, k, hi, hc, hf, hd => by
    rw [bfsR]
    split
    · rename_i hk
      have hqk := hi.qin _ (getD_mem (l := p.2) (j := k) (d := default) hk)
      have hts := hnx _ hqk
      obtain ⟨a, b, c⟩ := relaxTo_c (o := p.1) (q := p.2) hi hc hk hts _ (Nat.le_refl _)
      obtain ⟨h4, r, h5⟩ := relaxTo_inv (o := p.1) (q := p.2) hi hk (fun t ht => (hts t ht).1) _ (Nat.le_refl _)
      refine bfsR_end hnx f _ _ h4 a (by omega) ?_
      intro i hi1 hi2 t ht
      rw [h5] at ht
      by_cases hlt : i < k
      · rw [getD_app (by omega)] at ht
        exact b _ (hd i hlt (by omega) t ht)
      · have e : i = k := by omega
        subst e
        rw [getD_app hk] at ht
        obtain ⟨m, hm, rfl⟩ := List.mem_iff_getElem.1 ht
        have h6 := c m hm
        rw [List.getD_eq_getElem?_getD (i := m), List.getElem?_eq_getElem hm, Option.getD_some] at h6
        exact h6
    · rename_i hk
      refine ⟨p.2, hi, hc, fun a ha t ht => ?_⟩
      obtain ⟨i, hil, rfl⟩ := List.mem_iff_getElem.1 ha
      refine hd i (by omega) hil t ?_
      rwa [show p.2.getD i default = p.2[i] by simp [hil]]

def stE (l : List Stp) (a b : Int) : Prop := ∃ e ∈ l, e.src = a ∧ e.dst = b

theorem dist_all {n s : Nat} {l : List Stp} (hs : s < n) (hl : ∀ e ∈ l, (0 ≤ e.src ∧ e.src.toNat < n) ∧ (0 ≤ e.dst ∧ e.dst.toNat < n)) :
    hasI (distF n l s) (-1) = false ↔ ∀ j, j < n → Rch (stE l) (fun a => a = (s : Int)) (j : Int) := by
  have hnx : ∀ a : Int, (0 ≤ a ∧ a.toNat < n) → ∀ t ∈ (adjTo n l l.length).getD a.toNat default, (0 ≤ t ∧ t.toNat < n) ∧ stE l a t := by
    intro a ha t ht
    obtain ⟨e, he, h1, h2⟩ := (adj_mem hl l.length (Nat.le_refl _)).1 ht
    rw [List.take_length] at he
    have hee := hl e he
    exact ⟨by rw [← h2]; exact hee.2, e, he, by omega, h2⟩
  have hset : ∀ j, ((List.replicate n (-1 : Int)).set s 0).getD j default = if s = j then 0 else if j < n then -1 else default := by
    intro j
    rw [getD_set, List.length_replicate]
    by_cases h : s = j
    · rw [if_pos ⟨h, hs⟩, if_pos h]
    · rw [if_neg (fun hh => h hh.1), if_neg h]
      rw [List.getD_eq_getElem?_getD, List.getElem?_replicate]; split <;> rfl
  obtain ⟨q, hi, hc, hd⟩ := bfsR_end (E := stE l) (s := s) hnx n ((List.replicate n (-1)).set s 0, [(s : Int)]) 0 (BfsInv.zero (l := l) hs).inv
    ⟨fun t ht => by rw [List.mem_singleton] at ht; exact .base ht, fun j hj => by
      dsimp only at hj ⊢
      rw [List.length_set, List.length_replicate] at hj
      rw [hset]
      by_cases h : s = j
      · right; rw [h]; exact List.mem_singleton.2 rfl
      · left; rw [if_neg h, if_pos hj], List.mem_singleton.2 rfl⟩ (by omega) (fun i h => absurd h (Nat.not_lt_zero _))
  change Bfs n (distF n l s, q) at hi
  change BfsC (stE l) s (distF n l s, q) at hc
  change ∀ a ∈ q, ∀ t ∈ (adjTo n l l.length).getD a.toNat default, 0 ≤ (distF n l s).getD t.toNat default at hd
  have hlen : (distF n l s).length = n := hi.len
  unfold hasI
  constructor
  · intro h j hj
    rcases hc.two j (by rw [hlen]; exact hj) with h2 | h2
    · rw [List.any_eq_false] at h
      exact absurd (decide_eq_true h2) (h _ (getD_mem (by rw [hlen]; exact hj)))
    · exact hc.snd _ h2
  · intro h
    rw [List.any_eq_false]
    intro x hx hx1
    obtain ⟨j, hj, rfl⟩ := List.mem_iff_getElem.1 hx
    have hx1 := of_decide_eq_true hx1
    have hq : (j : Int) ∈ q := by
      refine Rch.ind (fun a => a ∈ q) (fun a ha => by rw [ha]; exact hc.src) ?_ (h j (by omega))
      rintro a b ha ⟨e, he, rfl, rfl⟩
      have hee := hl e he
      have h1 := hd _ ha e.dst ((adj_mem hl l.length (Nat.le_refl _)).2 ⟨e, by rw [List.take_length]; exact he, rfl, rfl⟩)
      rcases hc.two e.dst.toNat (by dsimp only; omega) with h2 | h2
      · rw [h2] at h1; omega
      · rwa [show (e.dst.toNat : Int) = e.dst by omega] at h2
    have h3 := hi.qd _ hq
    have h4 : (distF n l s).getD ((j : Int)).toNat default = (distF n l s)[j] := by simp [hj]
    dsimp only at h3
    rw [h4] at h3; omega

def setCh (u : List UInt8) (k : Int) (b : UInt8) : List UInt8 := u.take k.toNat ++ [b] ++ u.drop (k + 1).toNat

theorem setCh_get {u : List UInt8} {k : Int} {b : UInt8} (h0 : 0 ≤ k) (h1 : k.toNat < u.length) : ∀ j, (setCh u k b).getD j 0 = if (j : Int) = k then b else u.getD j 0 := by
  intro j
  unfold setCh
  have e1 : (u.take k.toNat).length = k.toNat := by simp; omega
  rw [show (k + 1).toNat = k.toNat + 1 by omega, List.append_assoc, List.getD_eq_getElem?_getD, List.getElem?_append]
  split
  · rw [List.getElem?_take, if_pos (by omega), if_neg (by omega), ← List.getD_eq_getElem?_getD]
  · rw [e1, List.singleton_append, List.getElem?_cons]
    split
    · rw [if_pos (by omega)]; rfl
    · rw [if_neg (by omega), List.getElem?_drop, show k.toNat + 1 + (j - k.toNat - 1) = j by omega, ← List.getD_eq_getElem?_getD]

theorem setCh_len {u : List UInt8} {k : Int} {b : UInt8} (h0 : 0 ≤ k) (h1 : k.toNat < u.length) : (setCh u k b).length = u.length := by
 unfold setCh
 simp only [List.length_append, List.length_take, List.length_singleton, List.length_drop]
 omega

theorem eq_getD {u v : List UInt8} (hl : u.length = v.length) : u = v ↔ ∀ j, j < u.length → u.getD j 0 = v.getD j 0 := by
  constructor
  · intro h j _; rw [h]
  · intro h
    apply List.ext_getElem hl
    intro j h1 h2
    have := h j h1
    simpa [h1, h2] using this

theorem fit_neg {a : Arc} {u v : List UInt8} (hv : v.length = u.length) (h : a.sig < 0) : fitB a u v = decide (u = v) := by
  rw [Bool.eq_iff_iff, decide_eq_true_iff, fitB, allB_true, eq_getD hv.symm]
  constructor
  · intro h2 j hj
    have := h2 j hj
    unfold fitCh at this
    rw [if_neg (by omega)] at this
    exact of_decide_eq_true this
  · intro h2 j hj
    unfold fitCh
    rw [if_neg (by omega)]
    exact decide_eq_true (h2 j hj)

theorem fit_pos {a : Arc} {u v : List UInt8} {n : Int} (hu : codeN u n = true) (hv : codeN v n = true) (h0 : 0 ≤ a.sig) (h1 : a.sig < n) : fitB a u v = (decide (u = setCh v a.sig (bitN (!a.up))) && decide (v = setCh u a.sig (bitN a.up))) := by
  unfold codeN at hu hv
  simp only [Bool.and_eq_true, decide_eq_true_iff, allB_true] at hu hv
  obtain ⟨cu, lu⟩ := hu
  obtain ⟨cv, lv⟩ := hv
  have h1u : a.sig.toNat < u.length := by omega
  have h1v : a.sig.toNat < v.length := by omega
  have bu := cu _ h1u
  have bv := cv _ h1v
  rw [Bool.eq_iff_iff, Bool.and_eq_true, decide_eq_true_iff, decide_eq_true_iff, fitB, allB_true, eq_getD (by rw [setCh_len h0 h1v]; omega), eq_getD (by rw [setCh_len h0 h1u]; omega)]
  have key : ∀ x y : UInt8, codeCh x = true → codeCh y = true → (((!decide (decide (x = 49) = a.up)) && decide (decide (y = 49) = a.up)) = true ↔ x = bitN (!a.up) ∧ y = bitN a.up) := by
    intro x y hx hy
    unfold codeCh at hx hy
    simp only [Bool.or_eq_true, beq_iff_eq] at hx hy
    rcases hx with rfl | rfl <;> rcases hy with rfl | rfl <;> cases a.up <;> decide
  constructor
  · intro h
    refine ⟨fun j hj => ?_, fun j hj => ?_⟩
    · rw [setCh_get h0 h1v]
      have := h j hj
      unfold fitCh at this
      split
      · rename_i e
        rw [if_pos e] at this
        obtain rfl : a.sig.toNat = j := by omega
        exact ((key _ _ bu bv).1 this).1
      · rename_i e
        rw [if_neg e] at this
        exact of_decide_eq_true this
    · rw [setCh_get h0 h1u]
      have := h j (by omega)
      unfold fitCh at this
      split
      · rename_i e
        rw [if_pos e] at this
        obtain rfl : a.sig.toNat = j := by omega
        exact ((key _ _ bu bv).1 this).2
      · rename_i e
        rw [if_neg e] at this
        exact (of_decide_eq_true this).symm
  · rintro ⟨h2, h3⟩ j hj
    unfold fitCh
    have a2 := h2 j hj
    have a3 := h3 j (by omega)
    rw [setCh_get h0 h1v] at a2
    rw [setCh_get h0 h1u] at a3
    split
    · rename_i e
      rw [if_pos e] at a2 a3
      obtain rfl : a.sig.toNat = j := by omega
      exact (key _ _ bu bv).2 ⟨a2, a3⟩
    · rename_i e
      rw [if_neg e] at a2
      exact decide_eq_true a2

def codeAt (x : Sgr) (k : Int) : List UInt8 := x.codes.getD k.toNat default

def arcB (x : Sgr) (a : Arc) : Bool := withinB a.src 0 ((x.codes.length : Int) - 1) && (withinB a.dst 0 ((x.codes.length : Int) - 1) && (edgeB (Lab.mk a.sig a.up) (x.sigs.length : Int) && fitB a (codeAt x a.src) (codeAt x a.dst)))

def sgB (x : Sgr) : Bool := sigsB x.sigs && (withinB (x.codes.length : Int) 1 300 && (!decide ((4000 : Int) < (x.arcs.length : Int)) && (allOf x.codes (fun u => codeN u (x.sigs.length : Int)) && (allOf x.arcs (arcB x) && !hasI (distF x.codes.length (stepsOf x.arcs) 0) (-1)))))

def metIt (x : Sgr) (k : Nat) : List Bool := itN (x.arcs.foldl (markC fun _ => true)) k ((List.replicate x.codes.length false).set 0 true)

theorem arc_ends {x : Sgr} (h : allOf x.arcs (arcB x) = true) : ends x.codes.length x.arcs := by
 intro e he
 obtain ⟨j, hj, rfl⟩ := List.mem_iff_getElem.1 he
 have := allB_true.1 h j hj
 rw [show x.arcs.getD j default = x.arcs[j] by simp [hj]] at this
 unfold arcB at this
 simp only [Bool.and_eq_true] at this
 have h1 := within_two this.1
 have h2 := within_two this.2.1
 omega

theorem stE_arcs (l : List Arc) (a b : Int) : stE (stepsOf l) a b ↔ arcE (fun _ => true) l a b := by
  unfold stE arcE stepsOf
  constructor
  · rintro ⟨e, he, h1, h2⟩
    obtain ⟨a, ha, rfl⟩ := List.mem_map.1 he
    exact ⟨a, ha, h1, h2, rfl⟩
  · rintro ⟨e, he, h1, h2, _⟩
    exact ⟨_, List.mem_map.2 ⟨e, he, rfl⟩, h1, h2⟩

theorem steps_ends {n : Nat} {l : List Arc} (h : ends n l) : ∀ e ∈ stepsOf l, (0 ≤ e.src ∧ e.src.toNat < n) ∧ (0 ≤ e.dst ∧ e.dst.toNat < n) := by
 intro e he
 obtain ⟨a, ha, rfl⟩ := List.mem_map.1 he
 exact h a ha

theorem met_all {x : Sgr} (hn : 1 ≤ x.codes.length) (hl : ends x.codes.length x.arcs) : allOf (metIt x x.codes.length) (fun b => b) = !hasI (distF x.codes.length (stepsOf x.arcs) 0) (-1) := by
  have hm : ((List.replicate x.codes.length false).set 0 true).length = x.codes.length := by simp
  have h1 := markC_reach (fun _ => true) hl hm
  have h2 := dist_all (n := x.codes.length) (s := 0) (by omega) (steps_ends hl)
  have hz : ∀ a : Int, (0 ≤ a ∧ ((List.replicate x.codes.length false).set 0 true).getD a.toNat default = true) ↔ a = ((0 : Nat) : Int) := by
    intro a
    rw [getD_set, List.length_replicate]
    constructor
    · rintro ⟨h3, h4⟩
      split at h4
      · omega
      · exfalso
        rw [List.getD_eq_getElem?_getD, List.getElem?_replicate] at h4
        split at h4 <;> cases h4
    · rintro rfl
      exact ⟨by omega, by rw [if_pos ⟨by omega, by omega⟩]⟩
  have hlen : (metIt x x.codes.length).length = x.codes.length := by
    have := ((markC_grow (fun _ => true) hl _).fix (s := (List.replicate x.codes.length false).set 0 true) ⟨hm, fun _ h => h, fun j h => .base ⟨by omega, h⟩⟩).1.1
    exact this
  rw [Bool.eq_iff_iff, Bool.not_eq_true', h2, allOf, allB_true, hlen]
  constructor
  · intro h j hj
    have h3 := (h1 j).1 (by have := h j hj; exact this)
    exact h3.mono (fun a b hh => (stE_arcs _ _ _).2 hh) (fun a ha => (hz a).1 ha)
  · intro h j hj
    have h3 := (h j hj).mono (fun a b hh => (stE_arcs _ _ _).1 hh) (fun a ha => (hz a).2 ha)
    exact (h1 j).2 h3

def metTo (x : Sgr) (k m : Nat) : List Bool := (x.arcs.take m).foldl (markC fun _ => true) (metIt x k)

theorem metTo_all (x : Sgr) (k : Nat) {m : Nat} (h : x.arcs.length ≤ m) : metTo x k m = metIt x (k + 1) := by
 rw [metTo, List.take_of_length_le h]; rfl

theorem metTo_succ {x : Sgr} {k m : Nat} (h : m < x.arcs.length) : metTo x k (m + 1) = markC (fun _ => true) (metTo x k m) (x.arcs.getD m default) := by
 have hg : x.arcs.getD m default = x.arcs[m] := by simp [h]
 unfold metTo
 rw [List.take_succ_eq_append_getElem h, List.foldl_append, hg]; rfl

theorem metTo_yes {x : Sgr} {k m : Nat} (h : m < x.arcs.length) (hs : (metTo x k m).getD (x.arcs.getD m default).src.toNat default = true) : ((metTo x k m).map D.bool).set (x.arcs.getD m default).dst.toNat (D.bool true) = (metTo x k (m + 1)).map D.bool := by
 rw [metTo_succ h, markC, hs, Bool.and_self, if_pos rfl, List.map_set]

theorem metTo_no {x : Sgr} {k m : Nat} (h : m < x.arcs.length) (hs : (metTo x k m).getD (x.arcs.getD m default).src.toNat default = false) : metTo x k m = metTo x k (m + 1) := by
 rw [metTo_succ h, markC, hs, if_neg (by decide)]

theorem markC_len (p : Arc → Bool) (m : List Bool) (a : Arc) : (markC p m a).length = m.length := by
  unfold markC; split
  · rw [List.length_set]
  · rfl

theorem marks_len (p : Arc → Bool) : ∀ (l : List Arc) (m : List Bool), (l.foldl (markC p) m).length = m.length
 | [], _ => rfl
 | a :: l, m => by rw [List.foldl_cons, marks_len p l, markC_len]

theorem metIt_len (x : Sgr) : ∀ k, (metIt x k).length = x.codes.length
 | 0 => by simp [metIt, itN]
 | k + 1 => by
  have : metIt x (k + 1) = x.arcs.foldl (markC fun _ => true) (metIt x k) := rfl
  rw [this, marks_len, metIt_len x k]

theorem metTo_len (x : Sgr) (k m : Nat) : (metTo x k m).length = x.codes.length := by rw [metTo, marks_len, metIt_len]

theorem metIt_start (x : Sgr) : (List.replicate x.codes.length (D.bool false)).set 0 (D.bool true) = (metIt x 0).map D.bool := by
 rw [metIt, itN, List.map_set, List.map_replicate]

theorem sg_codes {x : Sgr} {k : Nat} (hk : x.codes.length ≤ k) (h : ∀ j, j < k → codeN (x.codes.getD j default) (x.sigs.length : Int) = true) : allOf x.codes (fun u => codeN u (x.sigs.length : Int)) = true := allB_of fun j hj => h j (by omega)

theorem sg_arcs {x : Sgr} {k : Nat} (hk : x.arcs.length ≤ k) (h : ∀ j, j < k → arcB x (x.arcs.getD j default) = true) : allOf x.arcs (arcB x) = true := allB_of fun j hj => h j (by omega)

theorem sg_no_code {x : Sgr} {k : Nat} (hk : k < x.codes.length) (h : codeN (x.codes.getD k default) (x.sigs.length : Int) = false) : sgB x = false := by
  rw [sgB, show allOf x.codes (fun u => codeN u (x.sigs.length : Int)) = false from allB_no k hk h]
  cases sigsB x.sigs <;> cases withinB (x.codes.length : Int) 1 300 <;> cases decide ((4000 : Int) < (x.arcs.length : Int)) <;> rfl

theorem sg_no_arc {x : Sgr} {k : Nat} (hk : k < x.arcs.length) (h : arcB x (x.arcs.getD k default) = false) : sgB x = false := by
  rw [sgB, show allOf x.arcs (arcB x) = false from allB_no k hk h]
  cases sigsB x.sigs <;> cases withinB (x.codes.length : Int) 1 300 <;> cases decide ((4000 : Int) < (x.arcs.length : Int)) <;> cases allOf x.codes (fun u => codeN u (x.sigs.length : Int)) <;> rfl

theorem sg_end {x : Sgr} (h1 : sigsB x.sigs = true) (h2 : withinB (x.codes.length : Int) 1 300 = true) (h3 : ¬ (4000 : Int) < (x.arcs.length : Int)) (h4 : allOf x.codes (fun u => codeN u (x.sigs.length : Int)) = true) (h5 : allOf x.arcs (arcB x) = true) : (!hasI (distF x.codes.length (stepsOf x.arcs) 0) (-1)) = sgB x := by
 rw [sgB, h1, h2, decide_eq_false h3, h4, h5]; rfl

theorem codes_at {x : Sgr} (h : allOf x.codes (fun u => codeN u (x.sigs.length : Int)) = true) : ∀ a : Int, 0 ≤ a → a.toNat < x.codes.length → codeN (codeAt x a) (x.sigs.length : Int) = true ∧ (codeAt x a).length = x.sigs.length := by
 intro a h0 h1
 have h2 : codeN (codeAt x a) (x.sigs.length : Int) = true := allB_true.1 h _ h1
 refine ⟨h2, ?_⟩
 unfold codeN at h2
 simp only [Bool.and_eq_true, decide_eq_true_iff] at h2
 omega

theorem stepsOf_len (l : List Arc) : (stepsOf l).length = l.length := by simp [stepsOf]

theorem distF_len {n s : Nat} {l : List Stp} (hs : s < n) (hl : ∀ e ∈ l, (0 ≤ e.src ∧ e.src.toNat < n) ∧ (0 ≤ e.dst ∧ e.dst.toNat < n)) : (distF n l s).length = n := by
  have hnx : ∀ a : Int, (0 ≤ a ∧ a.toNat < n) → ∀ t ∈ (adjTo n l l.length).getD a.toNat default, (0 ≤ t ∧ t.toNat < n) ∧ True := by
    intro a ha t ht
    obtain ⟨e, he, h1, h2⟩ := (adj_mem hl l.length (Nat.le_refl _)).1 ht
    rw [List.take_length] at he
    exact ⟨by rw [← h2]; exact (hl e he).2, trivial⟩
  obtain ⟨q, hi, _⟩ := bfsR_end (E := fun _ _ => True) (s := s) hnx n ((List.replicate n (-1)).set s 0, [(s : Int)]) 0 (BfsInv.zero (l := l) hs).inv
    ⟨fun t ht => by rw [List.mem_singleton] at ht; exact .base ht, fun j hj => by
      dsimp only at hj ⊢
      rw [List.length_set, List.length_replicate] at hj
      rw [getD_set, List.length_replicate]
      by_cases h : s = j
      · right; rw [h]; exact List.mem_singleton.2 rfl
      · left
        rw [if_neg (fun hh => h hh.1), List.getD_eq_getElem?_getD, List.getElem?_replicate, if_pos hj]; rfl, List.mem_singleton.2 rfl⟩ (by omega) (fun i h => absurd h (Nat.not_lt_zero _))
  exact hi.len

theorem edge_lt {a : Arc} {n : Int} (h : edgeB (Lab.mk a.sig a.up) n = true) : a.sig < n ∨ a.sig = -1 := by
  unfold edgeB at h
  simp only [Bool.or_eq_true, Bool.and_eq_true, decide_eq_true_iff] at h
  rcases h with h | h
  · have := within_two h
    omega
  · exact .inr h.1

theorem met_no {x : Sgr} (hn : 1 ≤ x.codes.length) (hl : ends x.codes.length x.arcs) {k : Nat} (hk : k = x.codes.length) (m : Nat) (hm : m < x.codes.length) (h : (metIt x k).getD m default = false) : false = !hasI (distF x.codes.length (stepsOf x.arcs) 0) (-1) := by
 subst hk
 rw [← met_all hn hl]
 exact (allB_no m (by rw [metIt_len]; exact hm) h).symm

theorem met_yes {x : Sgr} (hn : 1 ≤ x.codes.length) (hl : ends x.codes.length x.arcs) {k : Nat} (hk : k = x.codes.length) (h : ∀ j, j < x.codes.length → (metIt x k).getD j default = true) : true = !hasI (distF x.codes.length (stepsOf x.arcs) 0) (-1) := by
 subst hk
 rw [← met_all hn hl]
 exact (allB_of fun j hj => h j (by rw [metIt_len] at hj; exact hj)).symm

end Go.AM
