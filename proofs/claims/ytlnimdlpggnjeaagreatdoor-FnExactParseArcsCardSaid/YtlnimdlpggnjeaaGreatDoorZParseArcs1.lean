/-
  The contracts that the law FnExactParseArcs needs.
-/
import Derived.Test.YtlnimdlpggnjeaaGreatDoorAmO
import Derived.Test.YtlnimdlpggnjeaaGreatDoorProg
import Derived.KernelRfl
import Derived.Test.YtlnimdlpggnjeaaGreatDoorAmP
import Derived.Test.YtlnimdlpggnjeaaGreatDoorAmW
import Derived.Test.YtlnimdlpggnjeaaGreatDoorAmX
import Derived.Test.YtlnimdlpggnjeaaGreatDoorAmY
import Derived.Test.YtlnimdlpggnjeaaGreatDoorAmZ
namespace Go.AM
open Go.Proofs
set_option linter.unusedVariables false
set_option linter.unusedSimpArgs false

theorem iX {P : Program} {ρ : Operand → V} {h : Nat → Option Ob} {dst : Option Nat} {op t x y t' a2 b2 c2 d2} {k a b r} (hx : ρ x = .d (.int k a)) (hy : ρ y = .d (.int k b)) (hv : intV op k a b = some r) : Ev P ρ h (Oper.mk dst (.binOp op t x y t') a2 b2 c2 d2) (.d r) {} := .pure (.int _ _ _ _ _ rfl hx hy hv)
theorem lb {n m : Nat} (h : Nat.ble n m = true) : n ≤ m := Nat.le_of_ble_eq_true h
theorem T_condD {P : Program} {c : Ctx} {Q : Exit → St → Prop} {α : St} {k : Operand} {x y : Code} {p : Prop} [Decidable p] (hk : α.ev k = .d (.bool (decide p))) (ht : p → T P c x Q α) (hf : ¬p → T P c y Q α) : T P c (.cond k x y) Q α := T_cond hk (fun h => ht (of_decide_eq_true h)) (fun h => hf (of_decide_eq_false h))
theorem T_condN {P : Program} {c : Ctx} {Q : Exit → St → Prop} {α : St} {k : Operand} {x y : Code} {b : Bool} (hk : α.ev k = .d (.bool (!b))) (ht : b = false → T P c x Q α) (hf : b = true → T P c y Q α) : T P c (.cond k x y) Q α := T_cond hk (fun h => ht (nott h)) (fun h => hf (notf h))
theorem ar {α : Sort _} {x : α} {b : Prop} (k : b) : x = x ∧ b := ⟨rfl, k⟩
theorem eR {P : Program} {rs : List ResultVar} {pvs : List V} {ds' : List D} {r : D} {lend : Bool} {α : St} (vs : List V) (k1 k2 : List Nat) (h1 : ResVs P α rs vs) (h2 : Exps α.ob (fun _ => none) pvs ds' k1) (h3 : Exp α.ob (fun id => if lend = true ∧ id ∉ k1 ++ k2 then α.ob id else none) (packV vs) r k2) (h4 : nodupB (k1 ++ k2) = true := by rfl) (h5 : ((idss pvs).all fun i => α.pin.contains i) = true := by rfl) : (Exit.ret = .normal ∨ Exit.ret = .ret) ∧ Ret P rs pvs ds' r lend α := endR vs k1 k2 h1 h2 h3 h4 h5
theorem odt {p : Prop} [Decidable p] (h : decide p = true) : p := of_decide_eq_true h
theorem odf {p : Prop} [Decidable p] (h : decide p = false) : ¬p := of_decide_eq_false h
@[reducible] def dI (n : Int) : V := .d (.int .i64 n)
@[reducible] def dB (b : Bool) : V := .d (.bool b)
@[reducible] def dS (s : List UInt8) : V := .d (.str s)
theorem pT {P : Program} {ρ : Operand → V} {h : Nat → Option Ob} {dst : Option Nat} {a2 b2 c2 d2} {c x y} (hc : ρ c = .d (.bool true)) : Ev P ρ h (Oper.mk dst (.pick c x y) a2 b2 c2 d2) (ρ x) {} := .pure (.pickT _ _ _ rfl hc rfl)
theorem pF {P : Program} {ρ : Operand → V} {h : Nat → Option Ob} {dst : Option Nat} {a2 b2 c2 d2} {c x y} (hc : ρ c = .d (.bool false)) : Ev P ρ h (Oper.mk dst (.pick c x y) a2 b2 c2 d2) (ρ y) {} := .pure (.pickF _ _ _ rfl hc rfl)
theorem nT {P : Program} {ρ : Operand → V} {h : Nat → Option Ob} {dst : Option Nat} {a2 b2 c2 d2} {t x b} (hx : ρ x = .d (.bool b)) : Ev P ρ h (Oper.mk dst (.unOp .not t x) a2 b2 c2 d2) (.d (.bool (!b))) {} := .pure (.not _ _ rfl hx)
theorem lP {P : Program} {ρ : Operand → V} {h : Nat → Option Ob} {dst : Option Nat} {a2 b2 c2 d2} {t x id off cs v} (ht : AggIs P t false) (hx : ρ x = .ptr id off) (hob : h id = some (.box cs)) (hv : cs[off]? = some v) : Ev P ρ h (Oper.mk dst (.load t x) a2 b2 c2 d2) v {} := .pure (.loadPtr1 _ _ rfl ht hx hob hv)
theorem fP {P : Program} {ρ : Operand → V} {h : Nat → Option Ob} {dst : Option Nat} {a2 b2 c2 d2} {s x f id o0 off n agg} (hf : FieldIs P s f off n agg) (hx : ρ x = .ptr id o0) : Ev P ρ h (Oper.mk dst (.fieldAddr s x f) a2 b2 c2 d2) (.ptr id (o0 + off)) {} := .pure (.fldPtr _ _ _ rfl hf hx)
theorem lA {P : Program} {ρ : Operand → V} {h : Nat → Option Ob} {dst : Option Nat} {a2 b2 c2 d2} {t x id off cs n vs} (ht : AggIs P t true) (hsz : SizeIs P t n) (hx : ρ x = .ptr id off) (hob : h id = some (.box cs)) (hn : off + n ≤ cs.length) (hv : (cs.drop off).take n = vs) : Ev P ρ h (Oper.mk dst (.load t x) a2 b2 c2 d2) (.agg vs) {} := .pure (.loadPtrA _ _ rfl ht hsz hx hob hn hv)
theorem rF {P : Program} {ρ : Operand → V} {h : Nat → Option Ob} {dst : Option Nat} {a2 b2 c2 d2} {t x y} (ht : AggIs P t false) (hx : ρ x = .d (.ref y)) (h1 : y.one = true) : Ev P ρ h (Oper.mk dst (.load t x) a2 b2 c2 d2) (.d y) {} := .pure (.loadRef1 _ _ rfl ht hx h1)
theorem xT {P : Program} {ρ : Operand → V} {h : Nat → Option Ob} {dst : Option Nat} {a2 b2 c2 d2} {x n vs v} (hx : ρ x = .tup vs) (hv : vs[n]? = some v) : Ev P ρ h (Oper.mk dst (.extract x n) a2 b2 c2 d2) v {} := .pure (.extract _ rfl hx hv)
theorem Tz {P : Program} {c : Ctx} {Q : Exit → St → Prop} {α : St} {id : Nat} {l : List Oper} (hc : CtxOK c) (h : Ch P l.toArray (fun α' => Q .normal α') l α) : T P c (.region id l.toArray false) Q α := T_region hc h
theorem Tb {P : Program} {c : Ctx} {Q : Exit → St → Prop} {α : St} {id : Nat} {x : Code} (h : T P c x (blockQ id Q) α) : T P c (.block id x) Q α := T_block h
theorem Tk {P : Program} {c : Ctx} {Q : Exit → St → Prop} {α : St} (h : Q .normal α) : T P c .skip Q α := T_skip h
theorem Tq {P : Program} {c : Ctx} {Q : Exit → St → Prop} {α : St} {x y : Code} (h : T P c x (thenQ (T P c y Q) Q) α) : T P c (.seq x y) Q α := T_seq h
theorem Ts {P : Program} {c : Ctx} {Q : Exit → St → Prop} {α : St} {id : Nat} {l : List Oper} {y : Code} (hc : CtxOK c) (h : Ch P l.toArray (fun α' => thenQ (T P c y Q) Q .normal α') l α) : T P c (.seq (.region id l.toArray false) y) Q α := T_seq (T_region hc h)
theorem Ck {P : Program} {all : Array Oper} {K : St → Prop} {o : Oper} {rest : List Oper} {α : St} (r : Ch P all K rest (α.put o.dst (.c undef))) (hw : wantA all α o = some false := by rfl) (hd : dstB o α.n = true := by rfl) : Ch P all K (o :: rest) α := .skip hw hd r
theorem eA {h hb : Nat → Option Ob} {v : V} : Exps h hb [v] [D.any] [] := .cons (.any _) .nil
theorem eB {h hb : Nat → Option Ob} {v w : V} : Exps h hb [v, w] [D.any, D.any] [] := .cons (.any _) (.cons (.any _) .nil)
theorem eC {h hb : Nat → Option Ob} {v w x : V} : Exps h hb [v, w, x] [D.any, D.any, D.any] [] := .cons (.any _) (.cons (.any _) (.cons (.any _) .nil))
theorem a94 {p : Prop} (h : p := by first | assumption | omega) : p := h
theorem a93 {p : Prop} (h : p := by cases x; cases y; simp_all) : p := h
theorem a92 {p : Prop} (h : p := by exact eqL_at default k (by assumption)) : p := h
theorem a91 {p : Prop} (h : p := by first | (simp_all; done) | (simp_all; omega)) : p := h
theorem a90 {p : Prop} (h : p := by first | (rw [hpn] <;> rfl) | (rw [hpy] <;> rfl)) : p := h
theorem a89 {p : Prop} (h : p := by first | (rw [iterS_succ (by omega)]; done) | rfl) : p := h
theorem a88 {p : Prop} (h : p := by first | (rw [iterI_succ (by omega)]; done) | rfl) : p := h
theorem a87 {p : Prop} (h : p := by first | rfl | omega | (simp; done) | (simp; omega)) : p := h
theorem a86 {p : Prop} (h : p := by first | exact (.row rfl rfl) | exact (.row rfl rfl)) : p := h
theorem a85 {p : Prop} (h : p := by first | rfl | (unfold xml; omega) | (exfalso; omega)) : p := h
theorem a84 {p : Prop} (h : p := by first | rfl | (unfold xml; omega) | (simp [xmk]; done)) : p := h
theorem a83 {p : Prop} (h : p := by first | rfl | (subst_vars; simp [Lib.indexByte]; done)) : p := h
theorem a82 {p : Prop} (h : p := by first | assumption | (exact hlx _ (getD_mem (by omega)))) : p := h
theorem a81 {p : Prop} (h : p := by first | rfl | (rw [List.set_set, lmTo, List.map_set]; rfl)) : p := h
theorem a80 {p : Prop} (h : p := by first | rfl | (rw [List.set_set, smTo, List.map_set]; rfl)) : p := h
theorem a79 {p : Prop} (h : p := by first | assumption | exact (fun y hy => (hv.nam y hy).2.1)) : p := h
theorem a78 {p : Prop} (h : p := by rw [D.solid]; exact solids_c (Stg.sol _) (solids_c rfl rfl)) : p := h
theorem a77 {p : Prop} (h : p := by first | (simp_all [risAt]; done) | (simp_all [risAt]; omega)) : p := h
theorem a76 {p : Prop} (h : p := by first | omega | (exact Nat.le_trans (splB_at_le _) (by omega))) : p := h
theorem a75 {p : Prop} (h : p := by first | (rw [h1]; rfl) | (rw [h1, h2]; rfl) | (simp_all; done)) : p := h
theorem a74 {p : Prop} (h : p := by exact eqL_all default (by omega) (fun j hj => hp0.2 j (by omega))) : p := h
theorem a73 {p : Prop} (h : p := by first | rfl | (simp only [List.set_set, hmg]; exact tm_set rfl rfl)) : p := h
theorem a72 {p : Prop} (h : p := by first | rfl | (rw [if_pos (by assumption)]; rfl) | (simp_all; done)) : p := h
theorem a71 {p : Prop} (h : p := by first | (unfold wAt; simp_all; done) | (unfold wAt; simp_all; omega)) : p := h
theorem a70 {p : Prop} (h : p := by first | (exact small1 n (by omega)) | (exact small2 n (by omega) hn)) : p := h
theorem a69 {p : Prop} (h : p := by exact (ixF_some (d := default) (by omega) hp0.2 (by assumption)).symm) : p := h
theorem a68 {p : Prop} (h : p := by exact (ixF_none (d := default) (fun j hj => hp0.2 j (by omega))).symm) : p := h
theorem a67 {p : Prop} (h : p := by first | (unfold stgB; simp_all; done) | (unfold stgB; simp_all; omega)) : p := h
theorem a66 {p : Prop} (h : p := by first | (unfold netB; simp_all; done) | (unfold netB; simp_all; omega)) : p := h
theorem a65 {p : Prop} (h : p := by first | (unfold traB; simp_all; done) | (unfold traB; simp_all; omega)) : p := h
theorem a64 {p : Prop} (h : p := by first | (unfold endL; simp_all; done) | (unfold endL; simp_all; omega)) : p := h
theorem a63 {p : Prop} (h : p := by first | omega | (exfalso; omega) | (exfalso; simp_all; done) | contradiction) : p := h
theorem a62 {p : Prop} (h : p := by first | (simp_all [edgeB, lab_eq]; done) | (simp_all [edgeB, lab_eq]; omega)) : p := h
theorem a61 {p : Prop} (h : p := by first | (rw [numS_lo (by omega)]; done) | (rw [numS_hi (by omega) hn]; done)) : p := h
theorem a60 {p : Prop} (h : p := by first | (rw [imarked_zero]; done) | (rw [← imarked_set, List.map_set]; done)) : p := h
theorem a59 {p : Prop} (h : p := by rw [List.length_append]; simp only [List.length_cons, List.length_nil]; omega) : p := h
theorem a58 {p : Prop} (h : p := by first | rfl | (exfalso; simp_all; done) | (exfalso; omega) | (simp_all; done)) : p := h
theorem a57 {p : Prop} (h : p := by first | (exact (cutS_yes (by omega)).symm) | (exact (cutS_no (by omega)).symm)) : p := h
theorem a56 {p : Prop} (h : p := by unfold addPre; rw [List.map_set]; simp only [List.set_set]; congr 1; simp [Tra.u]) : p := h
theorem a55 {p : Prop} (h : p := by unfold addPost; rw [List.map_set]; simp only [List.set_set]; congr 1; simp [Tra.u]) : p := h
theorem a54 {p : Prop} (h : p := by first | (rw [iterS_succ (by omega)]; done) | (rw [iterS_succ (by omega)]; rfl) | rfl) : p := h
theorem a53 {p : Prop} (h : p := by first | (rw [iterI_succ (by omega)]; done) | (rw [iterI_succ (by omega)]; rfl) | rfl) : p := h
theorem a52 {p : Prop} (h : p := by first | omega | (simp only [List.length_map, List.length_set]; omega) | (simp; omega)) : p := h
theorem a51 {p : Prop} (h : p := by first | (exact hp0.1.end (.inl (by assumption))) | (exact hp0.1.end (.inr (by omega)))) : p := h
theorem a50 {p : Prop} (h : p := by first | rfl | (rw [cntL_yes (by assumption)]; rfl) | (rw [cntL_no (by assumption)]; done)) : p := h
theorem a49 {p : Prop} (h : p := by first | rfl | (exact congrArg D.str (plcT_succ (by omega))) | (exact plcT_succ (by omega))) : p := h
theorem a48 {p : Prop} (h : p := by first | (exact (padS_nil _).symm) | (exact padS_set _ (by omega)) | (simp [padS_nil]; done)) : p := h
theorem a47 {p : Prop} (h : p := by first | exact hp0.cut (by omega) (by assumption) | exact hp0.skip (by omega) (by assumption)) : p := h
theorem a46 {p : Prop} (h : p := by first | rfl | (rw [tml_succ (by omega)]; rw [hmg]; omega) | (rw [tml_succ (by omega)]; omega)) : p := h
theorem a45 {p : Prop} (h : p := by first | (exact cutP_yes (by assumption)) | (exact cutP_no (by assumption)) | (simp_all; done)) : p := h
theorem a44 {p : Prop} (h : p := by first | (simp [mkS]; done) | (exact push rfl (by rw [List.append_assoc, mkS_succ (by omega)]))) : p := h
theorem a43 {p : Prop} (h : p := by first | omega | (exact sm_le (by omega)) | (exact dg_le (by omega)) | (exact dg_lt (by omega))) : p := h
theorem a42 {p : Prop} (h : p := by first | assumption | exact hsg.2 | (exact fun y hy => Nat.le_trans (hv.nam y hy).2.1 (by decide))) : p := h
theorem a41 {p : Prop} (h : p := by first | (simp [List.map_take, List.map_drop]; done) | (rw [List.take_length, List.map_drop]; done)) : p := h
theorem a40 {p : Prop} (h : p := by first | (rw [trnT, if_pos (by omega)]; done) | (rw [trnT, if_neg (by omega), List.append_nil]; done)) : p := h
theorem a39 {p : Prop} (h : p := by rw [D.solid]; exact solids_c (solid_row (fun _ => rfl) _) (solids_c (solid_row (fun _ => rfl) _) rfl)) : p := h
theorem a38 {p : Prop} (h : p := by first | (rw [show k = 3 by omega]; done) | (rw [rd_end (k := k) (n := 3) (by omega) (by omega)]; done)) : p := h
theorem a37 {p : Prop} (h : p := by first | (exact congrArg (List.map _) (wSg_zero r l k).symm) | (exact push rfl (wSg_succ (by omega))) | rfl) : p := h
theorem a36 {p : Prop} (h : p := by first | (rw [preB_short (by omega)]; done) | (exact preB_eq (by simp_all)) | (unfold preB; simp_all; done)) : p := h
theorem a35 {p : Prop} (h : p := by first | (rw [tml_all (m := m) (by omega)]; done) | (exfalso; omega) | (exfalso; simp_all; done) | contradiction) : p := h
theorem a34 {p : Prop} (h : p := by first | rfl | (exact push rfl (usr_yes (by assumption))) | (exact congrArg (List.map _) (usr_no (by assumption)))) : p := h
theorem a33 {p : Prop} (h : p := by first | rfl | (exact push rfl (labI_yes (by assumption))) | (exact congrArg (List.map _) (labI_no (by assumption)))) : p := h
theorem a32 {p : Prop} (h : p := by first | exact mrkAt_1 (by assumption) | exact mrkAt_2 (by assumption) | exact mrkAt_y (by assumption) (by assumption)) : p := h
theorem a31 {p : Prop} (h : p := by first | (rw [sigOk, h2, h3, any_take (by omega) (by omega) hp1.2]; rfl) | (simp_all [sigOk]; done) | (simp_all [sigOk]; omega)) : p := h
theorem a30 {p : Prop} (h : p := by first | omega | (simp only [List.length_append, List.length_map, List.length_cons, List.length_nil]; omega) | (simp; omega) | (simp; done)) : p := h
theorem a29 {p : Prop} (h : p := by first | (rw [codeN, allB_no k (by omega) (by simp_all [codeCh])]; rfl) | (rw [codeN, allB_of (fun j hj => hp0.2 j (by omega)), Bool.true_and]; done)) : p := h
theorem a28 {p : Prop} (h : p := by first | (rw [iheldR, iheldB, allB_no m (by omega) (by simp_all)]; rfl) | (rw [iheldR, iheldB, allB_of (fun j hj => hp0.2 j (by omega)), if_pos rfl]; omega)) : p := h
theorem a27 {p : Prop} (h : p := by first | (rw [arcI_no (by assumption)]; done) | (rw [arcI_yes (by assumption)]; done) | (rw [arcI_yes (by assumption)]; rfl) | (rw [arcI_yes h1, h2]; rfl) | (simp_all; done)) : p := h
theorem a26 {p : Prop} (h : p := by first | omega | (simp only [List.length_map, List.length_append, List.length_take, List.length_drop, List.length_cons, List.length_nil]; omega) | (simp; omega) | (simp; done)) : p := h
theorem a25 {p : Prop} (h : p := by first | (rw [risB, allB_no k (by omega) a77]; done) | (rw [risB, allB_of (fun j hj => hp0.2 j (by omega))]; done)) : p := h
theorem a24 {p : Prop} (h : p := by first | (rw [edgT, if_pos (by assumption)]; done) | (rw [edgT, if_neg (by assumption), if_pos (by assumption)]; done) | (rw [edgT, if_neg (by assumption), if_neg (by simp_all)]; done)) : p := h
theorem a23 {p : Prop} (h : p := by first | assumption | omega | (rw [List.length_take]; omega) | (have := bulkF_mem hb _ (getD_mem (d := default) (by omega)); assumption) | (unfold bulkS at *; omega) | (simp_all; done)) : p := h
theorem a22 {p : Prop} (h : p := by first | (exact stg_no k (by omega) (by simp_all)) | (exact stg_yes (fun j hj => hp0.2 j (by omega)) (by simp_all; done)) | (exact stg_yes (fun j hj => hp0.2 j (by omega)) (by simp_all; omega))) : p := h
theorem a21 {p : Prop} (h : p := by first | (rw [sigsB, allB_no k (by omega) (by first | (simp_all [sigOk]; done) | (simp_all [sigOk]; omega))] <;> rfl) | (rw [sigsB, allB_of (fun j hj => hp0.2 j (by omega)), Bool.true_and]; done)) : p := h
theorem a20 {p : Prop} (h : p := by first | (rw [trnT, if_pos (by rw [show x.labs.length = k by omega]; omega), show min k t = t by omega]; done) | (rw [trnT, if_neg (by rw [show x.labs.length = k by omega]; omega), List.append_nil]; done)) : p := h
theorem a19 {p : Prop} (h : p := by first | rfl | (exact congrArg D.str (sgLn_yes (by omega) (by omega))) | (exact congrArg D.str (sgLn_no (by omega) (by omega))) | (exact sgLn_yes (by omega) (by omega)) | (exact sgLn_no (by omega) (by omega))) : p := h
theorem a18 {p : Prop} (h : p := by first | rfl | (rw [rd_no (by assumption)]; done) | (exact congrArg (List.map _) (rd_out (by omega) (by assumption) (by omega))) | (exact congrArg (List.map _) (rd_lin (by omega) (by assumption))) | (simp [mkS]; done)) : p := h
theorem a17 {p : Prop} (h : p := by first | (rw [wordS_yes (k := k) (by omega) hp0.2 hwk] <;> rfl) | (rw [wordS_yes (k := k) (by omega) hp0.2 hwk]; exact congrArg (List.map _) (wSg_end (by omega))) | (rw [wordS_no (fun j hj => hp0.2 j (by omega))] <;> rfl)) : p := h
theorem a16 {p : Prop} (h : p := by first | (rw [kndB_no m (by omega) (by omega) (by omega)]; rfl) | (rw [kndB_no m (by omega) (by omega) (by omega)]; done) | (rw [hp0.2 (by omega), if_pos rfl, sgT, show k = 3 by omega]; done) | (rw [hp0.2 (by omega)]; done)) : p := h
theorem a15 {p : Prop} (h : p := by first | (rw [mrk_no k (by omega) a32]; done) | (rw [mrkB, allB_of (fun j hj => hp0.2 j (by omega))]; done)) : p := h
theorem a14 {p : Prop} (h : p := by first | (rw [trnI_old (by assumption)]; done) | (rw [trnI_new (by assumption)]; done) | (rw [trnI_new (by assumption)]; rfl) | (rw [trnI_new (by assumption)]; simp [trnN]; done) | (rw [trnI_new (by assumption)]; simp [trnN]; rfl)) : p := h
theorem a13 {p : Prop} (h : p := by first | (rw [line_w h1] <;> rfl) | (rw [line_n h1 hok] <;> rfl) | (rw [line_a h1 hok (by assumption)] <;> rfl) | (rw [line_b h1 hok (by assumption) (by assumption)] <;> rfl) | (rw [line_y h1 hok (by assumption) (by assumption)] <;> rfl)) : p := h
theorem a12 {p : Prop} (h : p := by first | rfl | (exact sgTo_yes (by omega) (by assumption)) | (exact sgTo_no (m := m) (by omega) (by assumption)) | (exact congrArg D.str (sgTo_yes (by omega) (by assumption))) | (exact congrArg D.str (sgTo_no (m := m) (by omega) (by assumption)))) : p := h
theorem a11 {p : Prop} (h : p := by first | (rw [h1]; rfl) | (rw [h1, mrk_no k (by omega) a32]; rfl) | (rw [h1, mrkB, allB_of (fun j hj => hp0.2 j (by omega))]; rfl)) : p := h
theorem a10 {p : Prop} (h : p := by first | (exact net_no k (by omega) a65) | (exact net_yes (fun j hj => hp0.2 j (by omega)) (by simp_all; done)) | (exact net_yes (fun j hj => hp0.2 j (by omega)) (by simp_all; omega))) : p := h
theorem a9 {p : Prop} (h : p := by first | (rw [sigsB, allB_no k (by omega) (by first | (rw [sigOk, h2, h3, ← hy]; done) | (rw [sigOk, h2, h3, ← hy]; rfl) | (simp_all [sigOk]; done) | (simp_all [sigOk]; omega))] <;> rfl) | (rw [sigsB, allB_of (fun j hj => hp0.2 j (by omega)), Bool.true_and]; done)) : p := h
theorem a8 {p : Prop} (h : p := by first | (rw [frmT_no (frm_n1 (by assumption))]; done) | (rw [frmT_no (frm_n2 (by assumption))]; done) | (rw [frm_n1 (by assumption)]; done) | (rw [frm_n2 (by assumption)]; done) | (rw [frmT_yes hf3.2.2.2, arcsT, show k = x.places.toNat by omega]; done) | (rw [hf3.2.2.2]; done)) : p := h
theorem a7 {p : Prop} (h : p := by first | omega | assumption | (exact hx _ (getD_mem (by omega))) | (exact hx _ (by assumption)) | (exact Nat.le_trans (hx _ (by assumption)) (by omega)) | (simp only [List.length_append, List.length_take, List.length_drop, List.length_cons, List.length_nil]; omega) | (simp_all; done)) : p := h
theorem a6 {p : Prop} (h : p := by first | (exact congrArg D.str (arcTo_zero x).symm) | (exact (arcTo_zero x).symm) | (rw [arcTo_zero, if_pos (by assumption)]; done) | (exact congrArg D.str (arc_yes (by assumption))) | (exact congrArg D.str (arc_no (by assumption))) | (exact arc_yes (by assumption)) | (exact arc_no (by assumption))) : p := h
theorem a5 {p : Prop} (h : p := by first | rfl | (rw [Nat.zero_min]; rfl) | (rw [show min (k + 1) t = min k t + 1 by omega, cntL_yes (by rw [show min k t = k by omega]; assumption)]; rfl) | (rw [show min (k + 1) t = min k t by omega]; done) | (rw [show min (k + 1) t = min k t + 1 by omega, cntL_no (by rw [show min k t = k by omega]; assumption)]; done) | (by_cases hkt : k < t; (rw [show min (k + 1) t = min k t + 1 by omega, cntL_no (by rw [show min k t = k by omega]; assumption)]); (rw [show min (k + 1) t = min k t by omega]))) : p := h
theorem a4 {p : Prop} (h : p := by first | (rw [nameCh, letB, digB]; simp only [*, decide_true, decide_false, Bool.and_true, Bool.true_and, Bool.and_false, Bool.false_and, Bool.or_false, Bool.false_or, Bool.or_true, Bool.true_or, Bool.not_true, Bool.not_false, not_false_eq_true]; done) | (rw [nameCh, letB, digB_n]; simp only [*, decide_true, decide_false, Bool.and_true, Bool.true_and, Bool.and_false, Bool.false_and, Bool.or_false, Bool.false_or, Bool.or_true, Bool.true_or, Bool.not_true, Bool.not_false, not_false_eq_true]; done)) : p := h
theorem a3 {p : Prop} (h : p := by first | (rw [nameB, allB_no k (by omega) a4]; rfl) | (rw [nameB, allB_of (fun j hj => hp0.2 j (by omega)), Bool.true_and]; done)) : p := h
theorem a2 {p : Prop} (h : p := by first | (rw [labO_t (by assumption)]; done) | (rw [labO_t (by assumption)]; rfl) | (rw [labO_n (by assumption) (.inl (by omega))]; done) | (rw [labO_n (by assumption) (.inl (by omega))]; rfl) | (rw [labO_n (by assumption) (.inr ⟨by first | assumption | (simp_all; done), by first | assumption | (simp_all; done)⟩)]; done) | (rw [labO_n (by assumption) (.inr ⟨by first | assumption | (simp_all; done), by first | assumption | (simp_all; done)⟩)]; rfl) | (rw [labO_y (by assumption) (by omega) (by first | (exact .inl (by assumption)) | (exact .inr (by assumption)) | (simp_all; done)), ← lastI]; done) | (rw [labO_y (by assumption) (by omega) (by first | (exact .inl (by assumption)) | (exact .inr (by assumption)) | (simp_all; done)), ← lastI]; rfl)) : p := h
theorem a1 {p : Prop} (h : p := by first | (rw [trnS_old (k := k) (by omega) hp0.2 (by assumption)] <;> rfl) | (rw [trnS_bad (fun j hj => hp0.2 j (by omega)) (by assumption)] <;> rfl) | (rw [trnS_new (fun j hj => hp0.2 j (by omega)) (by assumption)]; done) | (rw [trnS_new (fun j hj => hp0.2 j (by omega)) (by assumption)]; simp [trnM, labS_t (by assumption)]; done) | (rw [trnS_new (fun j hj => hp0.2 j (by omega)) (by assumption)]; simp only [trnM, labS_t (sg := r.st.sigs) (n := ((splB u 47).getD 0 default)) (by assumption), labS_n (sg := r.st.sigs) (n := ((splB u 47).getD 0 default)) (by assumption), List.map_append]; rfl) | (rw [trnS_new (fun j hj => hp0.2 j (by omega)) (by assumption)]; simp only [trnM, labS_t (sg := r.st.sigs) (n := ((splB u 47).getD 0 default)) (by assumption), List.map_append]; rfl) | (rw [trnS_new (fun j hj => hp0.2 j (by omega)) (by assumption)]; simp only [trnM, labS_n (sg := r.st.sigs) (n := ((splB u 47).getD 0 default)) (by assumption), List.map_append]; rfl) | (rw [trnS_new (fun j hj => hp0.2 j (by omega)) (by assumption)]; simp [trnM]; done) | (rw [trnS_new (fun j hj => hp0.2 j (by omega)) (by assumption)]; simp [trnM]; rfl)) : p := h

def withinB (n lo hi : Int) : Bool := decide (lo ≤ n) && decide (n ≤ hi)

theorem sp_impl_within (n lo hi : Int) : Sp Tryz.prog 42 [(.int .i64 n), (.int .i64 lo), (.int .i64 hi)] [.any, .any, .any] (.bool (withinB n lo hi)) := by
 refine Sp_intro (lend := true) Tryz.func42 rfl rfl rfl (fun _ => rfl) (fun c hc hX => ?_)
 refine Ts hc (Ch.s (dB false) pa (Ch.nil (Ts hc (Ch.s (dI lo) pm (Ch.s (dI n) pm ?_)))))
 refine Ch.s (dB (decide (lo ≤ n))) (iX rfl rfl rfl) (Ch.s (dB (decide (lo ≤ n))) pm ?_)
 cases h1 : (decide (lo ≤ n)) with
 | true =>
  replace h1 := odt h1
  refine Ch.s (dI n) pm (Ch.s (dI hi) pm (Ch.s (dB (decide (n ≤ hi))) (iX rfl rfl rfl) (Ch.s (dB (decide (n ≤ hi))) (pT rfl) (Ch.s (dB (decide (n ≤ hi))) pa (Ch.nil (T_ret ?_))))))
  exact eR [(dB (decide (n ≤ hi)))] [] [] (.cons (.tmp 6 rfl) .nil) eC (Exp.of (congrArg D.bool (by simp [withinB] <;> omega)) (.d _))
 | false =>
  replace h1 := odf h1
  refine Ck (Ck (Ck (Ch.s (dB false) (pF rfl) (Ch.s (dB false) pa (Ch.nil (T_ret ?_))))))
  exact eR [(dB false)] [] [] (.cons (.tmp 6 rfl) .nil) eC (Exp.of (congrArg D.bool (by simp [withinB] <;> omega)) (.d _))

theorem sp_spec_l1In (n lo hi : Int) : Sp Tryz.prog 29 [(.int .i64 n), (.int .i64 lo), (.int .i64 hi)] [.any, .any, .any] (.bool (withinB n lo hi)) := by
 refine Sp_intro (lend := true) Tryz.func29 rfl rfl rfl (fun _ => rfl) (fun c hc hX => ?_)
 refine Ts hc (Ch.s (dB false) pa (Ch.nil (Ts hc (Ch.s (dI n) pm (Ch.s (dI lo) pm ?_)))))
 refine Ch.s (dB (decide (lo ≤ n))) (iX rfl rfl rfl) (Ch.s (dB (decide (lo ≤ n))) pm ?_)
 cases h1 : (decide (lo ≤ n)) with
 | true =>
  replace h1 := odt h1
  refine Ch.s (dI n) pm (Ch.s (dI hi) pm (Ch.s (dB (decide (n ≤ hi))) (iX rfl rfl rfl) (Ch.s (dB (decide (n ≤ hi))) (pT rfl) (Ch.s (dB (decide (n ≤ hi))) pa (Ch.nil (T_ret ?_))))))
  exact eR [(dB (decide (n ≤ hi)))] [] [] (.cons (.tmp 6 rfl) .nil) eC (Exp.of (congrArg D.bool (by simp [withinB] <;> omega)) (.d _))
 | false =>
  replace h1 := odf h1
  refine Ck (Ck (Ck (Ch.s (dB false) (pF rfl) (Ch.s (dB false) pa (Ch.nil (T_ret ?_))))))
  exact eR [(dB false)] [] [] (.cons (.tmp 6 rfl) .nil) eC (Exp.of (congrArg D.bool (by simp [withinB] <;> omega)) (.d _))

def meetOf (x y : UInt8) : UInt8 := if x = y ∨ y = 45 then x else y

def meetS (a b : List UInt8) (k : Nat) : List UInt8 := tab k fun j => meetOf (a.getD j 0) (b.getD j 0)

@[simp] theorem meetS_length (a b : List UInt8) (k : Nat) : (meetS a b k).length = k := by simp [meetS]

theorem en94 : Enters Tryz.prog 94 := ⟨_, Tryz.func94, by kernel_rfl, rfl⟩

theorem en83 : Enters Tryz.prog 83 := ⟨_, Tryz.func83, by kernel_rfl, rfl⟩

def codeCh (x : UInt8) : Bool := x == 48 || x == 49

def codeN (u : List UInt8) (n : Int) : Bool := allB u.length (fun j => codeCh (u.getD j 0)) && decide ((u.length : Int) = n)

theorem sp_stringslite_IndexByte (u : List UInt8) (x : UInt8) : Sp Tryz.prog 94 [(.str u), (.int .u8 (x.toNat : Int))] [.any, .any] (.int .i64 (Lib.indexByte u x)) := by
 refine Sp_intro (lend := true) Tryz.func94 rfl rfl rfl (fun _ => rfl) (fun c hc hX => ?_)
 refine Ts hc (Ch.s (dI 0) pa (Ch.nil (Ts hc (Ch.s (dS u) pm (Ch.s (.d (.int .u8 (x.toNat : Int))) pm ?_)))))
 refine Ch.step (v := (dI (Lib.indexByte u x))) rfl (.pure (.ext 107 _ _ _ (ext_indexByte Tryz.func107 (by kernel_rfl) rfl (by kernel_rfl) (by kernel_rfl) u x) rfl rfl rfl)) rfl rfl ?_
 refine Ch.s (dI (Lib.indexByte u x)) pa (Ch.nil (T_ret ?_))
 exact eR [(dI (Lib.indexByte u x))] [] [] (.cons (.tmp 4 rfl) .nil) eB (.d _)

theorem any_yes {τ : Type} {l : List τ} {p : τ → Bool} (d : τ) (k : Nat) (hk : k < l.length) (h : p (l.getD k d) = true) : true = l.any p := (List.any_eq_true.2 ⟨_, getD_mem hk, h⟩).symm

theorem any_no {τ : Type} {l : List τ} {p : τ → Bool} (d : τ) (h : ∀ j, j < l.length → p (l.getD j d) = false) : false = l.any p := by
 symm
 rw [List.any_eq_false]
 intro x hx
 obtain ⟨j, hj, rfl⟩ := List.mem_iff_getElem.1 hx
 have := h j hj
 simp [hj] at this
 simp [this]

theorem sz9 : SizeIs Tryz.prog 9 1 := by unfold SizeIs; kernel_rfl

theorem ag9 : AggIs Tryz.prog 9 false := by unfold AggIs; kernel_rfl

theorem sp_Index_str (xs : List (List UInt8)) (u : List UInt8) (hn : xs.length ≤ 1048576) : Sp Tryz.prog 65 [(.slice false 1 (xs.map D.str)), (.str u)] [.any, .any] (.int .i64 (ixF (fun a => decide (a = u)) xs)) := by
 refine Sp_intro (lend := true) Tryz.func65 rfl rfl rfl (fun _ => rfl) (fun c hc hX => ?_)
 refine Ts hc (Ch.s (dI 0) pa (Ch.nil (Tq (Ts hc (Ch.s (.d (.slice false 1 (xs.map D.str))) pm ?_)))))
 refine Ch.s (dI (xs.length : Int)) (.pure (.len _ _ 9 rfl Tryz.underlying37 (.sh _ _) (by simp))) (Ch.s (dI 0) pm (Ch.nil (Tb ?_)))
 refine T_loop (ι := Nat) (fun k => { n := 19, sl := [(0, (.d (.slice false 1 (xs.map D.str)))), (1, (dS u)), (7, (dI (xs.length : Int))), (8, (dI (k : Int)))], hp := [], pin := [] }) (fun k => k ≤ xs.length ∧ ∀ j, j < k → decide (xs.getD j default = u) = false) (fun k => xs.length - k) ⟨0, ⟨by omega, fun j hj => by omega⟩, (Wk.of rfl rfl (ar (ar (ar (ai (vI a87) trivial)))) trivial)⟩ (fun k hp0 => ?_)
 refine Ts hc (Ch.s (dB (decide ((k : Int) < (xs.length : Int)))) (iX rfl rfl rfl) (Ch.nil (Tq ?_)))
 refine T_condD (p := ((k : Int) < (xs.length : Int))) rfl (fun h1 => ?_) (fun h1 => ?_)
 ·
  refine Tk (Tq (Tb (Ts hc (Ch.s (dI (k : Int)) pm (Ch.s (dI (k : Int)) pa (Ch.nil ?_))))))
  refine Ts hc (Ch.s (dS u) pm (Ch.s (.d (.slice false 1 (xs.map D.str))) pm (Ch.s (dI (k : Int)) pm (Ch.s (.d (.ref (.str (xs.getD k default)))) (.pure (.idx _ _ _ 9 (k) rfl Tryz.underlying37 sz9 rfl rfl rfl get_mapA)) (Ch.s (dS (xs.getD k default)) (rF ag9 rfl rfl) (Ch.s (dB (decide (u = (xs.getD k default)))) (.pure (.str _ _ _ _ _ rfl rfl rfl rfl)) ?_))))))
  refine Ch.nil ?_
  refine T_condD (p := (u = (xs.getD k default))) rfl (fun h2 => ?_) (fun h2 => ?_)
  ·
   refine Ts hc (Ch.s (dI (k : Int)) pm (Ch.s (dI (k : Int)) pa (Ch.nil (T_ret ?_))))
   exact eR [(dI (k : Int))] [] [] (.cons (.tmp 4 rfl) .nil) eB (Exp.of (congrArg (D.int .i64) (by exact (ixF_some (d := default) (by omega) hp0.2 (by simp_all)).symm)) (.d _))
  ·
   refine Tk (Tz hc (Ch.s (dI ((k : Int) + 1)) (iX rfl rfl intV_addA) (Ch.s (dI ((k : Int) + 1)) pm (Ch.nil ?_))))
   exact nx (k + 1) ⟨by omega, upto_succ hp0.2 (by first | (simp_all; done) | (exact decide_eq_false (fun e => h2 e.symm)))⟩ (Wk.of rfl rfl (ar (ar (ar (ai (vI a87) trivial)))) trivial)
 ·
  refine T_exit (Ts hc (Ch.s (dI (-1)) pa (Ch.nil (T_ret ?_))))
  exact eR [(dI (-1))] [] [] (.cons (.tmp 4 rfl) .nil) eB (Exp.of (congrArg (D.int .i64) a68) (.d _))

theorem sty81 : SlotTy Tryz.prog 81 5 1 1 := slotTy_mk (by kernel_rfl)

theorem sp_laws_markText (k : Nat) (hk : k ≤ 4194304) : Sp Tryz.prog 53 [(.int .i64 (k : Int))] [.any] (.str (mtext k)) := by
 refine Sp_intro (lend := true) Tryz.func53 rfl rfl rfl (fun _ => rfl) (fun c hc hX => ?_)
 refine Ts hc (Ch.s (dS []) pa (Ch.nil (Tq (Ts hc (Ch.s (dI (k : Int)) pm ?_)))))
 refine Ch.s (dB (decide ((k : Int) ≤ 0))) (iX rfl rfl rfl) (Ch.nil ?_)
 refine T_condD (p := ((k : Int) ≤ 0)) rfl (fun h1 => ?_) (fun h1 => ?_)
 ·
  refine Ts hc (Ch.s (dS [109, 48]) pa (Ch.nil (T_ret ?_)))
  exact eR [(dS [109, 48])] [] [] (.cons (.tmp 2 rfl) .nil) eA (Exp.of (congrArg D.str (by rw [mtext, if_pos (by omega)])) (.d _))
 ·
  refine Tk (Ts hc (Ch.s (dS []) pa (Ch.nil (Tq (Tb ?_)))))
  refine T_loop (ι := Nat × List UInt8) (fun p => { n := 20, sl := [(0, (dI (p.1 : Int))), (3, (dS p.2))], hp := [], pin := [] }) (fun p => p.1 + p.2.length ≤ k ∧ digs p.1 p.2 = digs k []) (fun p => p.1) ⟨(k, []), ⟨by simp, rfl⟩, (Wk.of rfl rfl (ai (vI a87) (ai (vS a87) trivial)) trivial)⟩ (fun p hp0 => ?_)
  refine Tq (Ts hc (Ch.s (dI (p.1 : Int)) pm (Ch.s (dB (decide (0 < (p.1 : Int)))) (iX rfl rfl rfl) (Ch.nil ?_))))
  refine T_condD (p := (0 < (p.1 : Int))) rfl (fun h2 => ?_) (fun h2 => ?_)
  ·
   refine Tk (Tb (Ts hc (Ch.s (dI (p.1 : Int)) pm (Ch.s (dI ((p.1 % 10 : Nat) : Int)) (iX rfl rfl (remN (n := p.1) (d := 10) rfl rfl (by decide))) (Ch.s (dI (48 + ((p.1 % 10 : Nat) : Int))) (iX rfl rfl intV_addA) (Ch.s (.d (.int .u8 ((UInt8.ofNat (48 + p.1 % 10)).toNat : Int))) (.pure (EvP.of (convU8 (n := (48 + p.1 % 10)) (by omega) a26) (.convInt _ _ _ rfl (isSome_of Tryz.underlying3) Tryz.underlying5 rfl))) ?_))))))
   refine Ch.s (.row 12000) (.slice 12000 _ 5 _ rfl sty81 (xs := [.tmp 11]) rfl rfl (.cons (.d _) .nil) rfl rfl (by decide)) (Ch.s (dS [(UInt8.ofNat (48 + p.1 % 10))]) (.string (l := [(UInt8.ofNat (48 + p.1 % 10))]) _ _ _ _ rfl Tryz.underlying81 Tryz.underlying5 Tryz.underlying9 a86) (Ch.s (dS p.2) pm (Ch.s (dS ([(UInt8.ofNat (48 + p.1 % 10))] ++ p.2)) (.pure (.str _ _ _ _ _ rfl rfl rfl (strV_add a26))) (Ch.s (dS ([(UInt8.ofNat (48 + p.1 % 10))] ++ p.2)) pa (Ch.nil (Tz hc (Ch.s (dI (p.1 : Int)) pm ?_)))))))
   refine Ch.s (dI ((p.1 / 10 : Nat) : Int)) (iX rfl rfl (quoN (n := p.1) (d := 10) rfl rfl (by decide) a26)) (Ch.s (dI ((p.1 / 10 : Nat) : Int)) pa (Ch.nil ?_))
   refine Exists.intro ((p.1 / 10, [UInt8.ofNat (48 + p.1 % 10)] ++ p.2)) (And.intro ⟨by (have := hp0.1; simp; omega), (digs_step (k := p.1) (by omega) p.2).symm.trans hp0.2⟩ (And.intro (by (simp; omega)) (Wk.of rfl rfl (ai (vI a87) (ai (vS a87) trivial)) trivial)))
  ·
   refine T_exit (Ts hc (Ch.s (dS p.2) pm (Ch.s (dS ([109] ++ p.2)) (.pure (.str _ _ _ _ _ rfl rfl rfl (strV_add a26))) (Ch.s (dS ([109] ++ p.2)) pa (Ch.nil (T_ret ?_))))))
   exact eR [(dS ([109] ++ p.2))] [] [] (.cons (.tmp 2 rfl) .nil) eA (Exp.of (congrArg D.str (by have hz : p.1 = 0 := (by omega); have h5 := hp0.2; rw [hz, digs_zero] at h5; rw [mtext, if_neg (by omega), h5]; rfl)) (.d _))

theorem within_two {n lo hi : Int} (h : withinB n lo hi = true) : lo ≤ n ∧ n ≤ hi := by simpa [withinB] using h

theorem sz3 : SizeIs Tryz.prog 3 1 := by unfold SizeIs; kernel_rfl

theorem ag3 : AggIs Tryz.prog 3 false := by unfold AggIs; kernel_rfl

def imarks (k n : Nat) : List Int := tab n fun j => ((k + j : Nat) : Int)

def imarked (xs : List Int) (k m : Nat) : List Int := tab xs.length fun j => if j < m then ((k + j : Nat) : Int) else xs.getD j default

theorem imarked_length (xs : List Int) (k m : Nat) : (imarked xs k m).length = xs.length := by simp [imarked]

theorem imarks_length (k n : Nat) : (imarks k n).length = n := by simp [imarks]

theorem imarked_zero (xs : List Int) (k : Nat) : imarked xs k 0 = xs := by
 rw [imarked, tab_eq default rfl]; intro j _; rw [if_neg (by omega)]

theorem imarked_all (xs : List Int) (k : Nat) {m : Nat} (hle : xs.length ≤ m) : imarked xs k m = imarks k xs.length := by
 unfold imarked imarks
 apply tab_congr
 intro j hj; rw [if_pos (by omega)]

theorem imarked_set (xs : List Int) (k : Nat) {m : Nat} : (imarked xs k m).set m ((k + m : Nat) : Int) = imarked xs k (m + 1) := by
  apply List.ext_getElem
  · simp [imarked]
  · intro j h1 h2
    rw [List.getElem_set]
    split
    · rename_i e; subst e; simp [imarked, tab]
    · rename_i e
      by_cases e2 : j < m
      · simp [imarked, tab, e2, show j < m + 1 by omega]
      · simp [imarked, tab, e2, show ¬ j < m + 1 by omega]

def iheldB (xs : List Int) (k : Nat) : Bool := allB xs.length fun j => decide (xs.getD j default = ((k + j : Nat) : Int))

def iheldR (xs : List Int) (k : Nat) : Int := if iheldB xs k then ((k + xs.length : Nat) : Int) else -1

theorem iheld_marks (k n : Nat) : iheldR (imarks k n) k = ((k + n : Nat) : Int) := by
 have : iheldB (imarks k n) k = true := allB_of fun j hj => by
  rw [imarks_length] at hj
  rw [imarks, tab_getD _ _ _ _ hj]; simp
 rw [iheldR, if_pos this, imarks_length]

theorem sp_laws_markIntS (xs : List Int) (k : Nat) (hn : xs.length ≤ 1048576) (hk : k ≤ 2097152) : Sp Tryz.prog 76 [(.slice true 1 (xs.map (fun n : Int => D.int .i64 n))), (.int .i64 (k : Int))] [(.slice true 1 ((imarks k xs.length).map (fun n : Int => D.int .i64 n))), .any] (.int .i64 ((k + xs.length : Nat) : Int)) := by
 refine Sp_intro (lend := false) Tryz.func76 rfl rfl rfl (fun h => nomatch h) (fun c hc hX => ?_)
 refine Ts hc (Ch.s (dI 0) pa (Ch.nil (Tq (Ts hc (Ch.s (dI 0) pa ?_)))))
 refine Ch.nil (Tb ?_)
 refine T_loop (ι := Nat) (fun m => { n := 19, sl := [(0, (.row 1)), (1, (dI ((k + m : Nat) : Int))), (5, (dI (m : Int)))], hp := [(1, (some (.row 1 ((imarked xs k m).map (fun n : Int => D.int .i64 n)))))], pin := [1] }) (fun m => m ≤ xs.length) (fun m => xs.length - m) ⟨0, (by omega), (Wk.of rfl rfl (ar (ai (vI a87) (ai (vI a87) trivial))) (ai (oR a60) trivial))⟩ (fun m hp0 => ?_)
 have hq := imarked_length xs k m
 refine Tq (Ts hc (Ch.s (dI (m : Int)) pm (Ch.s (.row 1) pm (Ch.s (dI ((imarked xs k m).length : Int)) (.pure (.len _ _ 3 rfl Tryz.underlying62 (.row rfl) (by simp))) (Ch.s (dB (decide ((m : Int) < ((imarked xs k m).length : Int)))) (iX rfl rfl rfl) (Ch.nil ?_))))))
 refine T_condD (p := ((m : Int) < ((imarked xs k m).length : Int))) rfl (fun h1 => ?_) (fun h1 => ?_)
 ·
  refine Tk (Tq (Tb (Ts hc (Ch.s (.row 1) pm (Ch.s (dI (m : Int)) pm (Ch.s (dI ((k + m : Nat) : Int)) pm ?_))))))
  refine Ch.s (.el 1 1 m 0) (.pure (.idxRow _ _ _ 3 (m) rfl Tryz.underlying62 sz3 rfl rfl rfl rfl a52)) (Ch.s .junk (.storeEl (y' := (.int .i64 ((k + m : Nat) : Int))) _ _ _ rfl rfl rfl (.d _) rfl sz3 rfl get_mapA rfl rfl) (Ch.nil (Tz hc (Ch.s (dI ((k + m : Nat) : Int)) pm (Ch.s (dI (((k + m : Nat) : Int) + 1)) (iX rfl rfl intV_addA) (Ch.s (dI (((k + m : Nat) : Int) + 1)) pa (Ch.nil ?_)))))))
  refine Tz hc (Ch.s (dI (m : Int)) pm (Ch.s (dI ((m : Int) + 1)) (iX rfl rfl intV_addA) (Ch.s (dI ((m : Int) + 1)) pa (Ch.nil ?_))))
  exact nx (m + 1) (by omega) (Wk.of rfl rfl (ar (ai (vI a87) (ai (vI a87) trivial))) (ai (oR a60) trivial))
 ·
  refine T_exit (Ts hc (Ch.s (dI ((k + m : Nat) : Int)) pm (Ch.s (dI ((k + m : Nat) : Int)) pa (Ch.nil (T_ret ?_)))))
  exact eR [(dI ((k + m : Nat) : Int))] [1] [] (.cons (.tmp 4 rfl) .nil) (.cons (Exp.of (congrArg (D.slice true 1) (by rw [imarked_all xs k (by omega)])) (.row rfl)) eA) (Exp.of (congrArg (D.int .i64) (by omega)) (.d _))

theorem sp_laws_heldIntS (xs : List Int) (k : Nat) (hn : xs.length ≤ 1048576) (hk : k ≤ 2097152) : Sp Tryz.prog 77 [(.slice false 1 (xs.map (fun n : Int => D.int .i64 n))), (.int .i64 (k : Int))] [.any, .any] (.int .i64 (iheldR xs k)) := by
 refine Sp_intro (lend := true) Tryz.func77 rfl rfl rfl (fun _ => rfl) (fun c hc hX => ?_)
 refine Ts hc (Ch.s (dI 0) pa (Ch.nil (Tq (Ts hc (Ch.s (dI 0) pa ?_)))))
 refine Ch.nil (Tb ?_)
 refine T_loop (ι := Nat) (fun m => { n := 21, sl := [(0, (.d (.slice false 1 (xs.map (fun n : Int => D.int .i64 n))))), (1, (dI ((k + m : Nat) : Int))), (5, (dI (m : Int)))], hp := [], pin := [] }) (fun m => m ≤ xs.length ∧ ∀ j, j < m → decide (xs.getD j default = ((k + j : Nat) : Int)) = true) (fun m => xs.length - m) ⟨0, ⟨by omega, fun j hj => by omega⟩, (Wk.of rfl rfl (ar (ai (vI a87) (ai (vI a87) trivial))) trivial)⟩ (fun m hp0 => ?_)
 refine Tq (Ts hc (Ch.s (dI (m : Int)) pm (Ch.s (.d (.slice false 1 (xs.map (fun n : Int => D.int .i64 n)))) pm (Ch.s (dI (xs.length : Int)) (.pure (.len _ _ 3 rfl Tryz.underlying62 (.sh _ _) (by simp))) (Ch.s (dB (decide ((m : Int) < (xs.length : Int)))) (iX rfl rfl rfl) (Ch.nil ?_))))))
 refine T_condD (p := ((m : Int) < (xs.length : Int))) rfl (fun h1 => ?_) (fun h1 => ?_)
 ·
  refine Tk (Tq (Tb (Tq (Ts hc (Ch.s (.d (.slice false 1 (xs.map (fun n : Int => D.int .i64 n)))) pm (Ch.s (dI (m : Int)) pm ?_))))))
  refine Ch.s (.d (.ref (.int .i64 (xs.getD m default)))) (.pure (.idx _ _ _ 3 (m) rfl Tryz.underlying62 sz3 rfl rfl rfl get_mapA)) (Ch.s (dI (xs.getD m default)) (rF ag3 rfl rfl) (Ch.s (dI ((k + m : Nat) : Int)) pm (Ch.s (dB (!(decide ((xs.getD m default) = ((k + m : Nat) : Int))))) (iX rfl rfl rfl) (Ch.nil ?_))))
  refine T_condN (b := (decide ((xs.getD m default) = ((k + m : Nat) : Int)))) rfl (fun h2 => ?_) (fun h2 => ?_)
  ·
   replace h2 := odf h2
   refine Ts hc (Ch.s (dI (-1)) pa (Ch.nil (T_ret ?_)))
   exact eR [(dI (-1))] [] [] (.cons (.tmp 4 rfl) .nil) eB (Exp.of (congrArg (D.int .i64) a28) (.d _))
  ·
   replace h2 := odt h2
   refine Tk (Tz hc (Ch.s (dI ((k + m : Nat) : Int)) pm (Ch.s (dI (((k + m : Nat) : Int) + 1)) (iX rfl rfl intV_addA) (Ch.s (dI (((k + m : Nat) : Int) + 1)) pa (Ch.nil (Tz hc (Ch.s (dI (m : Int)) pm ?_)))))))
   refine Ch.s (dI ((m : Int) + 1)) (iX rfl rfl intV_addA) (Ch.s (dI ((m : Int) + 1)) pa (Ch.nil ?_))
   exact nx (m + 1) ⟨by omega, upto_succ hp0.2 (by simp_all)⟩ (Wk.of rfl rfl (ar (ai (vI a87) (ai (vI a87) trivial))) trivial)
 ·
  refine T_exit (Ts hc (Ch.s (dI ((k + m : Nat) : Int)) pm (Ch.s (dI ((k + m : Nat) : Int)) pa (Ch.nil (T_ret ?_)))))
  exact eR [(dI ((k + m : Nat) : Int))] [] [] (.cons (.tmp 4 rfl) .nil) eB (Exp.of (congrArg (D.int .i64) a28) (.d _))

theorem sp_laws_eqIntS (xs ys : List Int) (hn : xs.length ≤ 1048576) : Sp Tryz.prog 92 [(.slice false 1 (xs.map (fun n : Int => D.int .i64 n))), (.slice false 1 (ys.map (fun n : Int => D.int .i64 n)))] [.any, .any] (.bool (decide (xs = ys))) := by
 refine Sp_intro (lend := true) Tryz.func92 rfl rfl rfl (fun _ => rfl) (fun c hc hX => ?_)
 refine Ts hc (Ch.s (dB false) pa (Ch.nil (Tq (Ts hc (Ch.s (.d (.slice false 1 (xs.map (fun n : Int => D.int .i64 n)))) pm ?_)))))
 refine Ch.s (dI (xs.length : Int)) (.pure (.len _ _ 3 rfl Tryz.underlying62 (.sh _ _) (by simp))) (Ch.s (.d (.slice false 1 (ys.map (fun n : Int => D.int .i64 n)))) pm (Ch.s (dI (ys.length : Int)) (.pure (.len _ _ 3 rfl Tryz.underlying62 (.sh _ _) (by simp))) (Ch.s (dB (!(decide ((xs.length : Int) = (ys.length : Int))))) (iX rfl rfl rfl) (Ch.nil ?_))))
 refine T_condN (b := (decide ((xs.length : Int) = (ys.length : Int)))) rfl (fun h1 => ?_) (fun h1 => ?_)
 ·
  replace h1 := odf h1
  refine Ts hc (Ch.s (dB false) pa (Ch.nil (T_ret ?_)))
  exact eR [(dB false)] [] [] (.cons (.tmp 4 rfl) .nil) eB (Exp.of (congrArg D.bool (by exact eqL_len (by omega))) (.d _))
 ·
  replace h1 := odt h1
  refine Tk (Tq (Ts hc (Ch.s (dI 0) pa (Ch.nil (Tb ?_)))))
  refine T_loop (ι := Nat) (fun k => { n := 26, sl := [(0, (.d (.slice false 1 (xs.map (fun n : Int => D.int .i64 n))))), (1, (.d (.slice false 1 (ys.map (fun n : Int => D.int .i64 n))))), (5, (dI (k : Int)))], hp := [], pin := [] }) (fun k => k ≤ xs.length ∧ ∀ j, j < k → xs.getD j default = ys.getD j default) (fun k => xs.length - k) ⟨0, ⟨by omega, fun j hj => by omega⟩, (Wk.of rfl rfl (ar (ar (ai (vI a87) trivial))) trivial)⟩ (fun k hp0 => ?_)
  refine Tq (Ts hc (Ch.s (dI (k : Int)) pm (Ch.s (.d (.slice false 1 (xs.map (fun n : Int => D.int .i64 n)))) pm (Ch.s (dI (xs.length : Int)) (.pure (.len _ _ 3 rfl Tryz.underlying62 (.sh _ _) (by simp))) (Ch.s (dB (decide ((k : Int) < (xs.length : Int)))) (iX rfl rfl rfl) (Ch.nil ?_))))))
  refine T_condD (p := ((k : Int) < (xs.length : Int))) rfl (fun h2 => ?_) (fun h2 => ?_)
  ·
   refine Tk (Tq (Tb (Tq ?_)))
   refine T_regionD hc (by kernel_rfl) ?_
   refine ChD.s (.d (.slice false 1 (xs.map (fun n : Int => D.int .i64 n)))) [] pm (ChD.s (dI (k : Int)) [] pm (ChD.s (.d (.ref (.int .i64 (xs.getD k default)))) [] (.pure (.idx _ _ _ 3 (k) rfl Tryz.underlying62 sz3 rfl rfl rfl get_mapA)) (ChD.s (dI (xs.getD k default)) [] (rF ag3 rfl rfl) (ChD.s (.d (.slice false 1 (ys.map (fun n : Int => D.int .i64 n)))) [] pm (ChD.s (dI (k : Int)) [] pm (ChD.s (.d (.ref (.int .i64 (ys.getD k default)))) [] (.pure (.idx _ _ _ 3 (k) rfl Tryz.underlying62 sz3 rfl rfl rfl get_mapA)) (ChD.s (dI (ys.getD k default)) [] (rF ag3 rfl rfl) ?_)))))))
   refine ChD.s (dB (!(decide ((xs.getD k default) = (ys.getD k default))))) [] (iX rfl rfl rfl) ?_
   refine ChD.nil (And.intro ?_ (by kernel_rfl))
   refine T_condN (b := (decide ((xs.getD k default) = (ys.getD k default)))) rfl (fun h3 => ?_) (fun h3 => ?_)
   ·
    replace h3 := odf h3
    refine Ts hc (Ch.s (dB false) pa (Ch.nil (T_ret ?_)))
    exact eR [(dB false)] [] [] (.cons (.tmp 4 rfl) .nil) eB (Exp.of (congrArg D.bool a92) (.d _))
   ·
    replace h3 := odt h3
    refine Tk (Tz hc (Ch.s (dI (k : Int)) pm (Ch.s (dI ((k : Int) + 1)) (iX rfl rfl intV_addA) (Ch.s (dI ((k : Int) + 1)) pa (Ch.nil ?_)))))
    exact nx (k + 1) ⟨by omega, upto_succ hp0.2 (by assumption)⟩ (Wk.of rfl rfl (ar (ar (ai (vI a87) trivial))) trivial)
  ·
   refine T_exit (Ts hc (Ch.s (dB true) pa (Ch.nil (T_ret ?_))))
   exact eR [(dB true)] [] [] (.cons (.tmp 4 rfl) .nil) eB (Exp.of (congrArg D.bool a74) (.d _))

theorem fld77_0 : FieldIs Tryz.prog 77 0 0 1 false := FieldIs.mk Tryz.underlying77 rfl rfl sz9 ag9 rfl

theorem fld77_1 : FieldIs Tryz.prog 77 1 1 1 false := FieldIs.mk Tryz.underlying77 rfl rfl sz3 ag3 rfl

theorem sz77 : SizeIs Tryz.prog 77 2 := by unfold SizeIs; kernel_rfl

theorem ag77 : AggIs Tryz.prog 77 true := by unfold AggIs; kernel_rfl

theorem en50 : Enters Tryz.prog 50 := ⟨_, Tryz.func50, by kernel_rfl, rfl⟩

theorem froz_c {x y : D} {xs ys : List D} (h : x.froz = y) (h2 : frozs xs = ys) : frozs (x :: xs) = y :: ys := by rw [frozs, h, h2]

theorem slice_froz {u : Bool} {sz : Nat} {xs ys : List D} (h : frozs xs = ys) : (D.slice u sz xs).froz = D.slice false sz ys := by rw [D.froz, h]

theorem frozs_to {τ : Type} {f g : τ → D} (h : ∀ x, (f x).froz = g x) (l : List τ) : frozs (l.map f) = l.map g := by
 rw [frozs_eq, List.map_map]; congr 1; funext x; exact h x

def bulkF {τ : Type} (f : τ → Nat) (xs : List τ) : Nat := xs.length + (xs.map f).sum

theorem le_sumL {x : Nat} : ∀ {l : List Nat}, x ∈ l → x ≤ l.sum
  | y :: l, h => by
    rw [List.sum_cons]
    rcases List.mem_cons.1 h with rfl | h
    · omega
    · have := le_sumL h; omega

theorem sum_zero {τ : Type} {f : τ → Nat} (h : ∀ x, f x = 0) : ∀ xs : List τ, (xs.map f).sum = 0
 | [] => rfl
 | x :: xs => by rw [List.map_cons, List.sum_cons, h x, sum_zero h xs]

theorem bulkF_len {τ : Type} {f : τ → Nat} {xs : List τ} {n : Nat} (h : bulkF f xs ≤ n) : xs.length ≤ n := by unfold bulkF at h; omega

theorem bulkF_mem {τ : Type} {f : τ → Nat} {xs : List τ} {n : Nat} (h : bulkF f xs ≤ n) : ∀ x ∈ xs, f x ≤ n := by
 intro x hx
 have : f x ≤ (xs.map f).sum := le_sumL (List.mem_map.2 ⟨x, hx, rfl⟩)
 unfold bulkF at h; omega

theorem get_set {τ : Type} {l : List τ} {j : Nat} {y : τ} (h : j < l.length) : (l.set j y)[j]? = some y := by simp [h]

structure Sgn where
 name : List UInt8
 kind : Int
 deriving DecidableEq, Inhabited

def Sgn.d (x : Sgn) : D := (.agg [(.str x.name), (.int .i64 x.kind)])

def Sgn.bulk (x : Sgn) : Nat := x.name.length

theorem Sgn.parts {x : Sgn} {n : Nat} (h : x.bulk ≤ n) : (x.name.length ≤ n) := by unfold Sgn.bulk at h; omega

structure Lab where
 sig : Int
 up : Bool
 deriving DecidableEq, Inhabited

def Lab.d (x : Lab) : D := (.agg [(.int .i64 x.sig), (.bool (x.up))])

def Lab.bulk (x : Lab) : Nat := 0

theorem Lab.eqv (x y : Lab) : ((decide (x.sig = y.sig) && (decide (x.up = y.up) && true))) = decide (x = y) := by cases x; cases y; simp

theorem sp_laws_eqSignal (x y : Sgn) (hb : x.bulk ≤ 1048576) : Sp Tryz.prog 50 [(.agg [(.str x.name), (.int .i64 x.kind)]), (.agg [(.str y.name), (.int .i64 y.kind)])] [.any, .any] (.bool (decide (x = y))) := by
 refine Sp_intro (lend := true) Tryz.func50 rfl rfl rfl (fun _ => rfl) (fun c hc hX => ?_)
 have hp0 := Sgn.parts hb
 refine Ts hc (Ch.s (.ptr 2000 0) (.box 2000 _ _ rfl (.aggD _)) (Ch.s (.ptr 3000 0) (.box 3000 _ _ rfl (.aggD _)) (Ch.s (dB false) pa (Ch.nil (Tq (Tq ?_))))))
 refine Tz hc (Ch.s (.ptr 2000 0) (fP fld77_0 rfl) (Ch.s (dS x.name) (lP ag9 rfl rfl rfl) (Ch.s (.ptr 3000 0) (fP fld77_0 rfl) (Ch.s (dS y.name) (lP ag9 rfl rfl rfl) (Ch.s (dB (!(decide (x.name = y.name)))) (.pure (.str _ _ _ _ _ rfl rfl rfl rfl)) (Ch.nil ?_))))))
 refine T_condN (b := (decide (x.name = y.name))) rfl (fun h1 => ?_) (fun h1 => ?_)
 ·
  replace h1 := odf h1
  refine Ts hc (Ch.s (dB false) pa (Ch.nil (T_ret ?_)))
  exact eR [(dB false)] [] [] (.cons (.tmp 4 rfl) .nil) eB (Exp.of (congrArg D.bool a93) (.d _))
 ·
  replace h1 := odt h1
  refine Tk (Tq (Ts hc (Ch.s (.ptr 2000 1) (fP fld77_1 rfl) (Ch.s (dI x.kind) (lP ag3 rfl rfl rfl) (Ch.s (.ptr 3000 1) (fP fld77_1 rfl) (Ch.s (dI y.kind) (lP ag3 rfl rfl rfl) ?_))))))
  refine Ch.s (dB (!(decide (x.kind = y.kind)))) (iX rfl rfl rfl) (Ch.nil ?_)
  refine T_condN (b := (decide (x.kind = y.kind))) rfl (fun h2 => ?_) (fun h2 => ?_)
  ·
   replace h2 := odf h2
   refine Ts hc (Ch.s (dB false) pa (Ch.nil (T_ret ?_)))
   exact eR [(dB false)] [] [] (.cons (.tmp 4 rfl) .nil) eB (Exp.of (congrArg D.bool a93) (.d _))
  ·
   replace h2 := odt h2
   refine Tk (Ts hc (Ch.s (dB true) pa (Ch.nil (T_ret ?_))))
   exact eR [(dB true)] [] [] (.cons (.tmp 4 rfl) .nil) eB (Exp.of (congrArg D.bool a93) (.d _))

theorem sp_laws_eqSignalS (xs ys : List (Sgn)) (hb : bulkF Sgn.bulk xs ≤ 1048576) : Sp Tryz.prog 20 [(.slice false 2 (xs.map Sgn.d)), (.slice false 2 (ys.map Sgn.d))] [.any, .any] (.bool (decide (xs = ys))) := by
 refine Sp_intro (lend := true) Tryz.func20 rfl rfl rfl (fun _ => rfl) (fun c hc hX => ?_)
 have hn := bulkF_len hb
 refine Ts hc (Ch.s (dB false) pa (Ch.nil (Tq (Ts hc (Ch.s (.d (.slice false 2 (xs.map Sgn.d))) pm ?_)))))
 refine Ch.s (dI (xs.length : Int)) (.pure (.len _ _ 77 rfl Tryz.underlying25 (.sh _ _) (by simp))) (Ch.s (.d (.slice false 2 (ys.map Sgn.d))) pm (Ch.s (dI (ys.length : Int)) (.pure (.len _ _ 77 rfl Tryz.underlying25 (.sh _ _) (by simp))) (Ch.s (dB (!(decide ((xs.length : Int) = (ys.length : Int))))) (iX rfl rfl rfl) (Ch.nil ?_))))
 refine T_condN (b := (decide ((xs.length : Int) = (ys.length : Int)))) rfl (fun h1 => ?_) (fun h1 => ?_)
 ·
  replace h1 := odf h1
  refine Ts hc (Ch.s (dB false) pa (Ch.nil (T_ret ?_)))
  exact eR [(dB false)] [] [] (.cons (.tmp 4 rfl) .nil) eB (Exp.of (congrArg D.bool (by exact eqL_len (by omega))) (.d _))
 ·
  replace h1 := odt h1
  refine Tk (Tq (Ts hc (Ch.s (dI 0) pa (Ch.nil (Tb ?_)))))
  refine T_loop (ι := Nat) (fun k => { n := 27, sl := [(0, (.d (.slice false 2 (xs.map Sgn.d)))), (1, (.d (.slice false 2 (ys.map Sgn.d)))), (5, (dI (k : Int)))], hp := [], pin := [] }) (fun k => k ≤ xs.length ∧ ∀ j, j < k → xs.getD j default = ys.getD j default) (fun k => xs.length - k) ⟨0, ⟨by omega, fun j hj => by omega⟩, (Wk.of rfl rfl (ar (ar (ai (vI a87) trivial))) trivial)⟩ (fun k hp0 => ?_)
  refine Tq (Ts hc (Ch.s (dI (k : Int)) pm (Ch.s (.d (.slice false 2 (xs.map Sgn.d))) pm (Ch.s (dI (xs.length : Int)) (.pure (.len _ _ 77 rfl Tryz.underlying25 (.sh _ _) (by simp))) (Ch.s (dB (decide ((k : Int) < (xs.length : Int)))) (iX rfl rfl rfl) (Ch.nil ?_))))))
  refine T_condD (p := ((k : Int) < (xs.length : Int))) rfl (fun h2 => ?_) (fun h2 => ?_)
  ·
   try have hk := bulkF_mem hb _ (getD_mem (l := xs) (j := k) (d := default) (by omega))
   refine Tk (Tq (Tb (Tq ?_)))
   refine T_regionD hc (by kernel_rfl) ?_
   refine ChD.s (.d (.slice false 2 (xs.map Sgn.d))) [] pm (ChD.s (dI (k : Int)) [] pm (ChD.s (.d (.ref (.agg [(.str ((xs.getD k default).name)), (.int .i64 ((xs.getD k default).kind))]))) [] (.pure (.idx _ _ _ 77 (k) rfl Tryz.underlying25 sz77 rfl rfl rfl get_mapA)) (ChD.s (.d (.agg [(.str ((xs.getD k default).name)), (.int .i64 ((xs.getD k default).kind))])) [] (.pure (.loadRefA _ _ rfl ag77 sz77 rfl)) (ChD.s (.d (.slice false 2 (ys.map Sgn.d))) [] pm (ChD.s (dI (k : Int)) [] pm (ChD.s (.d (.ref (.agg [(.str ((ys.getD k default).name)), (.int .i64 ((ys.getD k default).kind))]))) [] (.pure (.idx _ _ _ 77 (k) rfl Tryz.underlying25 sz77 rfl rfl rfl get_mapA)) (ChD.s (.d (.agg [(.str ((ys.getD k default).name)), (.int .i64 ((ys.getD k default).kind))])) [] (.pure (.loadRefA _ _ rfl ag77 sz77 rfl)) ?_)))))))
   refine ChD.s (dB (decide ((xs.getD k default) = (ys.getD k default)))) [] (.call 25000 50 _ _ _ en50 rfl (.inl rfl) (.cons (.d _) (.cons (.d _) .nil)) rfl rfl (sp_laws_eqSignal (xs.getD k default) (ys.getD k default) a23) (.skip _ _ (.skip _ _ .nil)) rfl) (ChD.s (dB (!(decide ((xs.getD k default) = (ys.getD k default))))) [] (nT rfl) ?_)
   refine ChD.nil (And.intro ?_ (by kernel_rfl))
   refine T_condN (b := (decide ((xs.getD k default) = (ys.getD k default)))) rfl (fun h3 => ?_) (fun h3 => ?_)
   ·
    replace h3 := odf h3
    refine Ts hc (Ch.s (dB false) pa (Ch.nil (T_ret ?_)))
    exact eR [(dB false)] [] [] (.cons (.tmp 4 rfl) .nil) eB (Exp.of (congrArg D.bool a92) (.d _))
   ·
    replace h3 := odt h3
    refine Tk (Tz hc (Ch.s (dI (k : Int)) pm (Ch.s (dI ((k : Int) + 1)) (iX rfl rfl intV_addA) (Ch.s (dI ((k : Int) + 1)) pa (Ch.nil ?_)))))
    exact nx (k + 1) ⟨by omega, upto_succ hp0.2 (by assumption)⟩ (Wk.of rfl rfl (ar (ar (ai (vI a87) trivial))) trivial)
  ·
   try have hk := bulkF_mem hb _ (getD_mem (l := xs) (j := k) (d := default) (by omega))
   refine T_exit (Ts hc (Ch.s (dB true) pa (Ch.nil (T_ret ?_))))
   exact eR [(dB true)] [] [] (.cons (.tmp 4 rfl) .nil) eB (Exp.of (congrArg D.bool a74) (.d _))

theorem en42 : Enters Tryz.prog 42 := ⟨_, Tryz.func42, by kernel_rfl, rfl⟩

theorem en29 : Enters Tryz.prog 29 := ⟨_, Tryz.func29, by kernel_rfl, rfl⟩

theorem en98 : Enters Tryz.prog 98 := ⟨_, Tryz.func98, by kernel_rfl, rfl⟩

theorem sz67 : SizeIs Tryz.prog 67 2 := by unfold SizeIs; kernel_rfl

theorem ag67 : AggIs Tryz.prog 67 true := by unfold AggIs; kernel_rfl

theorem en105 : Enters Tryz.prog 105 := ⟨_, Tryz.func105, by kernel_rfl, rfl⟩

theorem zr77 : (Tryz.prog.info? 77).bind (·.zero) = some (.agg #[.string .empty, .int .i64 0]) := by kernel_rfl

theorem zer77 : ∃ i z, Tryz.prog.info? 77 = some i ∧ i.zero = some z ∧ z.cells = List.toArray [.string .empty, .int .i64 0] := zero_mk zr77 rfl

theorem en102 : Enters Tryz.prog 102 := ⟨_, Tryz.func102, by kernel_rfl, rfl⟩

theorem en104 : Enters Tryz.prog 104 := ⟨_, Tryz.func104, by kernel_rfl, rfl⟩

theorem en103 : Enters Tryz.prog 103 := ⟨_, Tryz.func103, by kernel_rfl, rfl⟩

theorem en58 : Enters Tryz.prog 58 := ⟨_, Tryz.func58, by kernel_rfl, rfl⟩

def letB (x : UInt8) : Bool := decide ((97 : UInt8) ≤ x) && decide (x ≤ 122)

def digB (x : UInt8) : Bool := decide ((48 : UInt8) ≤ x) && decide (x ≤ 57)

def nameCh (x : UInt8) (j : Nat) : Bool := letB x || (digB x && !decide ((j : Int) = 0))

def nameB (u : List UInt8) : Bool := allB u.length (fun j => nameCh (u.getD j 0) j) && withinB u.length 1 6

def sigOk (xs : List Sgn) (j : Nat) : Bool := nameB (xs.getD j default).name && (withinB (xs.getD j default).kind 1 3 && !(xs.take j).any fun y => decide (y.name = (xs.getD j default).name))

def sigsB (xs : List Sgn) : Bool := allB xs.length (sigOk xs) && withinB xs.length 1 8

theorem digB_n (x : UInt8) : digB x = (!decide (x < 48) && !decide (57 < x)) := by
 unfold digB; rw [← decide_not, ← decide_not]; simp only [UInt8.not_lt]

theorem sp_impl_isName (u : List UInt8) (hu : u.length ≤ 1048576) : Sp Tryz.prog 102 [(.str u)] [.any] (.bool (nameB u)) := by
 refine Sp_intro (lend := true) Tryz.func102 rfl rfl rfl (fun _ => rfl) (fun c hc hX => ?_)
 refine Ts hc (Ch.s (dB false) pa (Ch.nil (Tq (Ts hc (Ch.s (dI 0) pa ?_)))))
 refine Ch.nil (Tb ?_)
 refine T_loop (ι := Nat) (fun k => { n := 45, sl := [(0, (dS u)), (3, (dI (k : Int)))], hp := [], pin := [] }) (fun k => k ≤ u.length ∧ ∀ j, j < k → nameCh (u.getD j 0) j = true) (fun k => u.length - k) ⟨0, ⟨by omega, fun j hj => by omega⟩, (Wk.of rfl rfl (ar (ai (vI a87) trivial)) trivial)⟩ (fun k hp0 => ?_)
 refine Tq (Ts hc (Ch.s (dI (k : Int)) pm (Ch.s (dS u) pm (Ch.s (dI (u.length : Int)) (.pure (.lenStr _ _ rfl Tryz.underlying9 rfl)) (Ch.s (dB (decide ((k : Int) < (u.length : Int)))) (iX rfl rfl rfl) (Ch.nil ?_))))))
 refine T_condD (p := ((k : Int) < (u.length : Int))) rfl (fun h1 => ?_) (fun h1 => ?_)
 ·
  refine Tk (Tq (Tb (Tq ?_)))
  refine T_regionD hc (by kernel_rfl) ?_
  refine ChD.s (dS u) [] pm (ChD.s (dI (k : Int)) [] pm (ChD.s (.d (.int .u8 ((u.getD k 0).toNat : Int))) [] (.pure (.idxStr _ _ _ (k) rfl Tryz.underlying9 rfl rfl rfl get_strA)) (ChD.s (dB (decide (97 ≤ ((u.getD k 0) : UInt8)))) [] (iX rfl rfl (u8_geq ((u.getD k 0) : UInt8) 97 rfl rfl)) (ChD.s (dB (decide (97 ≤ ((u.getD k 0) : UInt8)))) [] pm ?_))))
  cases h2 : (decide (97 ≤ ((u.getD k 0) : UInt8))) with
  | true =>
   replace h2 := odt h2
   refine ChD.s (dS u) [] pm (ChD.s (dI (k : Int)) [] pm (ChD.s (.d (.int .u8 ((u.getD k 0).toNat : Int))) [] (.pure (.idxStr _ _ _ (k) rfl Tryz.underlying9 rfl rfl rfl get_strA)) (ChD.s (dB (decide (((u.getD k 0) : UInt8) ≤ 122))) [] (iX rfl rfl (u8_leq ((u.getD k 0) : UInt8) 122 rfl rfl)) (ChD.s (dB (decide (((u.getD k 0) : UInt8) ≤ 122))) [] (pT rfl) (ChD.s (dS u) [] pm (ChD.s (dI (k : Int)) [] pm (ChD.s (.d (.int .u8 ((u.getD k 0).toNat : Int))) [] (.pure (.idxStr _ _ _ (k) rfl Tryz.underlying9 rfl rfl rfl get_strA)) ?_)))))))
   refine ChD.s (dB (decide (48 ≤ ((u.getD k 0) : UInt8)))) [] (iX rfl rfl (u8_geq ((u.getD k 0) : UInt8) 48 rfl rfl)) (ChD.s (dB (decide (48 ≤ ((u.getD k 0) : UInt8)))) [] pm ?_)
   cases h3 : (decide (48 ≤ ((u.getD k 0) : UInt8))) with
   | true =>
    replace h3 := odt h3
    refine ChD.s (dS u) [] pm (ChD.s (dI (k : Int)) [] pm (ChD.s (.d (.int .u8 ((u.getD k 0).toNat : Int))) [] (.pure (.idxStr _ _ _ (k) rfl Tryz.underlying9 rfl rfl rfl get_strA)) (ChD.s (dB (decide (((u.getD k 0) : UInt8) ≤ 57))) [] (iX rfl rfl (u8_leq ((u.getD k 0) : UInt8) 57 rfl rfl)) (ChD.s (dB (decide (((u.getD k 0) : UInt8) ≤ 57))) [] (pT rfl) (ChD.s (dB (decide (((u.getD k 0) : UInt8) ≤ 122))) [] pa (ChD.s (dB (decide (((u.getD k 0) : UInt8) ≤ 57))) [] pa ?_))))))
    refine ChD.nil (And.intro ?_ (by kernel_rfl))
    refine Ts hc (Ch.s (dB (decide (((u.getD k 0) : UInt8) ≤ 122))) pm (Ch.s (dB (!(decide (((u.getD k 0) : UInt8) ≤ 122)))) (nT rfl) (Ch.s (dB (!(decide (((u.getD k 0) : UInt8) ≤ 122)))) pm ?_)))
    cases h4 : (decide (((u.getD k 0) : UInt8) ≤ 122)) with
    | true =>
     replace h4 := odt h4
     refine Ck (Ck (Ck (Ck (Ck (Ck (Ch.s (dB false) (pF rfl) (Ch.nil ?_)))))))
     refine T_cond (b := false) rfl (fun h => nomatch h) (fun _ => ?_)
     refine Tk (Tz hc (Ch.s (dI (k : Int)) pm (Ch.s (dI ((k : Int) + 1)) (iX rfl rfl intV_addA) (Ch.s (dI ((k : Int) + 1)) pa (Ch.nil ?_)))))
     exact nx (k + 1) ⟨by omega, upto_succ hp0.2 a4⟩ (Wk.of rfl rfl (ar (ai (vI a87) trivial)) trivial)
    | false =>
     replace h4 := odf h4
     refine Ch.s (dB (decide (((u.getD k 0) : UInt8) ≤ 57))) pm (Ch.s (dB (!(decide (((u.getD k 0) : UInt8) ≤ 57)))) (nT rfl) (Ch.s (dB (!(decide (((u.getD k 0) : UInt8) ≤ 57)))) pm ?_))
     cases h5 : (decide (((u.getD k 0) : UInt8) ≤ 57)) with
     | true =>
      replace h5 := odt h5
      refine Ch.s (dI (k : Int)) pm (Ch.s (dB (decide ((k : Int) = 0))) (iX rfl rfl rfl) (Ch.s (dB (decide ((k : Int) = 0))) (pF rfl) (Ch.s (dB (decide ((k : Int) = 0))) (pT rfl) (Ch.nil ?_))))
      refine T_condD (p := ((k : Int) = 0)) rfl (fun h6 => ?_) (fun h6 => ?_)
      ·
       refine Ts hc (Ch.s (dB false) pa (Ch.nil (T_ret ?_)))
       exact eR [(dB false)] [] [] (.cons (.tmp 2 rfl) .nil) eA (Exp.of (congrArg D.bool a3) (.d _))
      ·
       refine Tk (Tz hc (Ch.s (dI (k : Int)) pm (Ch.s (dI ((k : Int) + 1)) (iX rfl rfl intV_addA) (Ch.s (dI ((k : Int) + 1)) pa (Ch.nil ?_)))))
       exact nx (k + 1) ⟨by omega, upto_succ hp0.2 a4⟩ (Wk.of rfl rfl (ar (ai (vI a87) trivial)) trivial)
     | false =>
      replace h5 := odf h5
      refine Ck (Ck (Ch.s (dB true) (pT rfl) (Ch.s (dB true) (pT rfl) (Ch.nil ?_))))
      refine T_cond (b := true) rfl (fun _ => ?_) (fun h => nomatch h)
      refine Ts hc (Ch.s (dB false) pa (Ch.nil (T_ret ?_)))
      exact eR [(dB false)] [] [] (.cons (.tmp 2 rfl) .nil) eA (Exp.of (congrArg D.bool a3) (.d _))
   | false =>
    replace h3 := odf h3
    refine ChD.skip rfl rfl (ChD.skip rfl rfl (ChD.skip rfl rfl (ChD.skip rfl rfl (ChD.s (dB false) [] (pF rfl) (ChD.s (dB (decide (((u.getD k 0) : UInt8) ≤ 122))) [] pa (ChD.s (dB false) [] pa ?_))))))
    refine ChD.nil (And.intro ?_ (by kernel_rfl))
    refine Ts hc (Ch.s (dB (decide (((u.getD k 0) : UInt8) ≤ 122))) pm (Ch.s (dB (!(decide (((u.getD k 0) : UInt8) ≤ 122)))) (nT rfl) (Ch.s (dB (!(decide (((u.getD k 0) : UInt8) ≤ 122)))) pm ?_)))
    cases h7 : (decide (((u.getD k 0) : UInt8) ≤ 122)) with
    | true =>
     replace h7 := odt h7
     refine Ck (Ck (Ck (Ck (Ck (Ck (Ch.s (dB false) (pF rfl) (Ch.nil ?_)))))))
     refine T_cond (b := false) rfl (fun h => nomatch h) (fun _ => ?_)
     refine Tk (Tz hc (Ch.s (dI (k : Int)) pm (Ch.s (dI ((k : Int) + 1)) (iX rfl rfl intV_addA) (Ch.s (dI ((k : Int) + 1)) pa (Ch.nil ?_)))))
     exact nx (k + 1) ⟨by omega, upto_succ hp0.2 a4⟩ (Wk.of rfl rfl (ar (ai (vI a87) trivial)) trivial)
    | false =>
     replace h7 := odf h7
     refine Ch.s (dB false) pm (Ch.s (dB true) (.pure (.not (b := false) _ _ rfl rfl)) (Ch.s (dB true) pm (Ck (Ck (Ch.s (dB true) (pT rfl) (Ch.s (dB true) (pT rfl) (Ch.nil ?_)))))))
     refine T_cond (b := true) rfl (fun _ => ?_) (fun h => nomatch h)
     refine Ts hc (Ch.s (dB false) pa (Ch.nil (T_ret ?_)))
     exact eR [(dB false)] [] [] (.cons (.tmp 2 rfl) .nil) eA (Exp.of (congrArg D.bool a3) (.d _))
  | false =>
   replace h2 := odf h2
   refine ChD.skip rfl rfl (ChD.skip rfl rfl (ChD.skip rfl rfl (ChD.skip rfl rfl (ChD.s (dB false) [] (pF rfl) (ChD.s (dS u) [] pm (ChD.s (dI (k : Int)) [] pm (ChD.s (.d (.int .u8 ((u.getD k 0).toNat : Int))) [] (.pure (.idxStr _ _ _ (k) rfl Tryz.underlying9 rfl rfl rfl get_strA)) ?_)))))))
   refine ChD.s (dB (decide (48 ≤ ((u.getD k 0) : UInt8)))) [] (iX rfl rfl (u8_geq ((u.getD k 0) : UInt8) 48 rfl rfl)) (ChD.s (dB (decide (48 ≤ ((u.getD k 0) : UInt8)))) [] pm ?_)
   cases h8 : (decide (48 ≤ ((u.getD k 0) : UInt8))) with
   | true =>
    replace h8 := odt h8
    refine ChD.s (dS u) [] pm (ChD.s (dI (k : Int)) [] pm (ChD.s (.d (.int .u8 ((u.getD k 0).toNat : Int))) [] (.pure (.idxStr _ _ _ (k) rfl Tryz.underlying9 rfl rfl rfl get_strA)) (ChD.s (dB (decide (((u.getD k 0) : UInt8) ≤ 57))) [] (iX rfl rfl (u8_leq ((u.getD k 0) : UInt8) 57 rfl rfl)) (ChD.s (dB (decide (((u.getD k 0) : UInt8) ≤ 57))) [] (pT rfl) (ChD.s (dB false) [] pa (ChD.s (dB (decide (((u.getD k 0) : UInt8) ≤ 57))) [] pa ?_))))))
    refine ChD.nil (And.intro ?_ (by kernel_rfl))
    refine Ts hc (Ch.s (dB false) pm (Ch.s (dB true) (.pure (.not (b := false) _ _ rfl rfl)) (Ch.s (dB true) pm (Ch.s (dB (decide (((u.getD k 0) : UInt8) ≤ 57))) pm (Ch.s (dB (!(decide (((u.getD k 0) : UInt8) ≤ 57)))) (nT rfl) (Ch.s (dB (!(decide (((u.getD k 0) : UInt8) ≤ 57)))) pm ?_))))))
    cases h9 : (decide (((u.getD k 0) : UInt8) ≤ 57)) with
    | true =>
     replace h9 := odt h9
     refine Ch.s (dI (k : Int)) pm (Ch.s (dB (decide ((k : Int) = 0))) (iX rfl rfl rfl) (Ch.s (dB (decide ((k : Int) = 0))) (pF rfl) (Ch.s (dB (decide ((k : Int) = 0))) (pT rfl) (Ch.nil ?_))))
     refine T_condD (p := ((k : Int) = 0)) rfl (fun h10 => ?_) (fun h10 => ?_)
     ·
      refine Ts hc (Ch.s (dB false) pa (Ch.nil (T_ret ?_)))
      exact eR [(dB false)] [] [] (.cons (.tmp 2 rfl) .nil) eA (Exp.of (congrArg D.bool a3) (.d _))
     ·
      refine Tk (Tz hc (Ch.s (dI (k : Int)) pm (Ch.s (dI ((k : Int) + 1)) (iX rfl rfl intV_addA) (Ch.s (dI ((k : Int) + 1)) pa (Ch.nil ?_)))))
      exact nx (k + 1) ⟨by omega, upto_succ hp0.2 a4⟩ (Wk.of rfl rfl (ar (ai (vI a87) trivial)) trivial)
    | false =>
     replace h9 := odf h9
     refine Ck (Ck (Ch.s (dB true) (pT rfl) (Ch.s (dB true) (pT rfl) (Ch.nil ?_))))
     refine T_cond (b := true) rfl (fun _ => ?_) (fun h => nomatch h)
     refine Ts hc (Ch.s (dB false) pa (Ch.nil (T_ret ?_)))
     exact eR [(dB false)] [] [] (.cons (.tmp 2 rfl) .nil) eA (Exp.of (congrArg D.bool a3) (.d _))
   | false =>
    replace h8 := odf h8
    refine ChD.skip rfl rfl (ChD.skip rfl rfl (ChD.skip rfl rfl (ChD.skip rfl rfl (ChD.s (dB false) [] (pF rfl) (ChD.s (dB false) [] pa (ChD.s (dB false) [] pa ?_))))))
    refine ChD.nil (And.intro ?_ (by kernel_rfl))
    refine Ts hc (Ch.s (dB false) pm (Ch.s (dB true) (.pure (.not (b := false) _ _ rfl rfl)) (Ch.s (dB true) pm (Ch.s (dB false) pm (Ch.s (dB true) (.pure (.not (b := false) _ _ rfl rfl)) (Ch.s (dB true) pm ?_))))))
    refine Ck (Ck (Ch.s (dB true) (pT rfl) (Ch.s (dB true) (pT rfl) (Ch.nil ?_))))
    refine T_cond (b := true) rfl (fun _ => ?_) (fun h => nomatch h)
    refine Ts hc (Ch.s (dB false) pa (Ch.nil (T_ret ?_)))
    exact eR [(dB false)] [] [] (.cons (.tmp 2 rfl) .nil) eA (Exp.of (congrArg D.bool a3) (.d _))
 ·
  refine T_exit (Ts hc (Ch.s (dS u) pm (Ch.s (dI (u.length : Int)) (.pure (.lenStr _ _ rfl Tryz.underlying9 rfl)) (Ch.s (dB (withinB (u.length : Int) 1 6)) (.call 44000 42 _ _ _ en42 rfl (.inl rfl) (.cons (.d _) (.cons (.d _) (.cons (.d _) .nil))) rfl rfl (sp_impl_within (u.length : Int) 1 6) (.skip _ _ (.skip _ _ (.skip _ _ .nil))) rfl) (Ch.s (dB (withinB (u.length : Int) 1 6)) pa (Ch.nil ?_))))))
  refine T_ret ?_
  exact eR [(dB (withinB (u.length : Int) 1 6))] [] [] (.cons (.tmp 2 rfl) .nil) eA (Exp.of (congrArg D.bool a3) (.d _))

theorem sp_spec_l2Name (u : List UInt8) (hu : u.length ≤ 1048576) : Sp Tryz.prog 58 [(.str u)] [.any] (.bool (nameB u)) := by
 refine Sp_intro (lend := true) Tryz.func58 rfl rfl rfl (fun _ => rfl) (fun c hc hX => ?_)
 refine Ts hc (Ch.s (dB false) pa (Ch.nil (Tq (Ts hc (Ch.s (dI 0) pa ?_)))))
 refine Ch.nil (Tb ?_)
 refine T_loop (ι := Nat) (fun k => { n := 42, sl := [(0, (dS u)), (3, (dI (k : Int)))], hp := [], pin := [] }) (fun k => k ≤ u.length ∧ ∀ j, j < k → nameCh (u.getD j 0) j = true) (fun k => u.length - k) ⟨0, ⟨by omega, fun j hj => by omega⟩, (Wk.of rfl rfl (ar (ai (vI a87) trivial)) trivial)⟩ (fun k hp0 => ?_)
 refine Tq (Ts hc (Ch.s (dI (k : Int)) pm (Ch.s (dS u) pm (Ch.s (dI (u.length : Int)) (.pure (.lenStr _ _ rfl Tryz.underlying9 rfl)) (Ch.s (dB (decide ((k : Int) < (u.length : Int)))) (iX rfl rfl rfl) (Ch.nil ?_))))))
 refine T_condD (p := ((k : Int) < (u.length : Int))) rfl (fun h1 => ?_) (fun h1 => ?_)
 ·
  refine Tk (Tq (Tb (Ts hc (Ch.s (dS u) pm (Ch.s (dI (k : Int)) pm (Ch.s (.d (.int .u8 ((u.getD k 0).toNat : Int))) (.pure (.idxStr _ _ _ (k) rfl Tryz.underlying9 rfl rfl rfl get_strA)) ?_))))))
  refine Ch.s (dB (decide (97 ≤ ((u.getD k 0) : UInt8)))) (iX rfl rfl (u8_geq ((u.getD k 0) : UInt8) 97 rfl rfl)) (Ch.s (dB (decide (97 ≤ ((u.getD k 0) : UInt8)))) pm ?_)
  cases h2 : (decide (97 ≤ ((u.getD k 0) : UInt8))) with
  | true =>
   replace h2 := odt h2
   refine Ch.s (dS u) pm (Ch.s (dI (k : Int)) pm (Ch.s (.d (.int .u8 ((u.getD k 0).toNat : Int))) (.pure (.idxStr _ _ _ (k) rfl Tryz.underlying9 rfl rfl rfl get_strA)) (Ch.s (dB (decide (((u.getD k 0) : UInt8) ≤ 122))) (iX rfl rfl (u8_leq ((u.getD k 0) : UInt8) 122 rfl rfl)) (Ch.s (dB (decide (((u.getD k 0) : UInt8) ≤ 122))) (pT rfl) (Ch.s (dB (decide (((u.getD k 0) : UInt8) ≤ 122))) pa (Ch.nil (Tq ?_)))))))
   refine Tz hc (Ch.s (dB (decide (((u.getD k 0) : UInt8) ≤ 122))) pm (Ch.s (dB (!(decide (((u.getD k 0) : UInt8) ≤ 122)))) (nT rfl) (Ch.s (dB (!(decide (((u.getD k 0) : UInt8) ≤ 122)))) pm ?_)))
   cases h3 : (decide (((u.getD k 0) : UInt8) ≤ 122)) with
   | true =>
    replace h3 := odt h3
    refine Ck (Ck (Ck (Ck (Ck (Ck (Ck (Ch.skip rfl rfl ?_)))))))
    refine Ck (Ck (Ck (Ck (Ck (Ck (Ch.s (dB false) (pF rfl) (Ch.nil ?_)))))))
    refine T_cond (b := false) rfl (fun h => nomatch h) (fun _ => ?_)
    refine Tk (Tz hc (Ch.s (dI (k : Int)) pm (Ch.s (dI ((k : Int) + 1)) (iX rfl rfl intV_addA) (Ch.s (dI ((k : Int) + 1)) pa (Ch.nil ?_)))))
    exact nx (k + 1) ⟨by omega, upto_succ hp0.2 a4⟩ (Wk.of rfl rfl (ar (ai (vI a87) trivial)) trivial)
   | false =>
    replace h3 := odf h3
    refine Ch.s (dI (k : Int)) pm (Ch.s (dB (decide ((k : Int) = 0))) (iX rfl rfl rfl) (Ch.s (dB (decide ((k : Int) = 0))) pm ?_))
    cases h4 : (decide ((k : Int) = 0)) with
    | true =>
     replace h4 := odt h4
     refine Ck (Ck (Ck (Ck (Ch.s (dB true) (pT rfl) (Ch.s (dB true) pm (Ck (Ch.skip rfl rfl ?_)))))))
     refine Ck (Ck (Ch.s (dB true) (pT rfl) (Ch.s (dB true) (pT rfl) (Ch.nil ?_))))
     refine T_cond (b := true) rfl (fun _ => ?_) (fun h => nomatch h)
     refine Ts hc (Ch.s (dB false) pa (Ch.nil (T_ret ?_)))
     exact eR [(dB false)] [] [] (.cons (.tmp 2 rfl) .nil) eA (Exp.of (congrArg D.bool a3) (.d _))
    | false =>
     replace h4 := odf h4
     refine Ch.s (dS u) pm (Ch.s (dI (k : Int)) pm (Ch.s (.d (.int .u8 ((u.getD k 0).toNat : Int))) (.pure (.idxStr _ _ _ (k) rfl Tryz.underlying9 rfl rfl rfl get_strA)) (Ch.s (dB (decide (((u.getD k 0) : UInt8) < 48))) (iX rfl rfl (u8_lss ((u.getD k 0) : UInt8) 48 rfl rfl)) (Ch.s (dB (decide (((u.getD k 0) : UInt8) < 48))) (pF rfl) (Ch.s (dB (decide (((u.getD k 0) : UInt8) < 48))) pm ?_)))))
     cases h5 : (decide (((u.getD k 0) : UInt8) < 48)) with
     | true =>
      replace h5 := odt h5
      refine Ck (Ck (Ck (Ck (Ch.s (dB true) (pT rfl) (Ch.s (dB true) (pT rfl) (Ch.nil ?_))))))
      refine T_cond (b := true) rfl (fun _ => ?_) (fun h => nomatch h)
      refine Ts hc (Ch.s (dB false) pa (Ch.nil (T_ret ?_)))
      exact eR [(dB false)] [] [] (.cons (.tmp 2 rfl) .nil) eA (Exp.of (congrArg D.bool a3) (.d _))
     | false =>
      replace h5 := odf h5
      refine Ch.s (dS u) pm (Ch.s (dI (k : Int)) pm (Ch.s (.d (.int .u8 ((u.getD k 0).toNat : Int))) (.pure (.idxStr _ _ _ (k) rfl Tryz.underlying9 rfl rfl rfl get_strA)) (Ch.s (dB (decide (57 < ((u.getD k 0) : UInt8)))) (iX rfl rfl (u8_gtr ((u.getD k 0) : UInt8) 57 rfl rfl)) (Ch.s (dB (decide (57 < ((u.getD k 0) : UInt8)))) (pF rfl) (Ch.s (dB (decide (57 < ((u.getD k 0) : UInt8)))) (pT rfl) (Ch.nil ?_))))))
      refine T_condD (p := (57 < ((u.getD k 0) : UInt8))) rfl (fun h6 => ?_) (fun h6 => ?_)
      ·
       refine Ts hc (Ch.s (dB false) pa (Ch.nil (T_ret ?_)))
       exact eR [(dB false)] [] [] (.cons (.tmp 2 rfl) .nil) eA (Exp.of (congrArg D.bool a3) (.d _))
      ·
       refine Tk (Tz hc (Ch.s (dI (k : Int)) pm (Ch.s (dI ((k : Int) + 1)) (iX rfl rfl intV_addA) (Ch.s (dI ((k : Int) + 1)) pa (Ch.nil ?_)))))
       exact nx (k + 1) ⟨by omega, upto_succ hp0.2 a4⟩ (Wk.of rfl rfl (ar (ai (vI a87) trivial)) trivial)
  | false =>
   replace h2 := odf h2
   refine Ck (Ck (Ck (Ck (Ch.s (dB false) (pF rfl) (Ch.s (dB false) pa (Ch.nil (Tq ?_)))))))
   refine Tz hc (Ch.s (dB false) pm (Ch.s (dB true) (.pure (.not (b := false) _ _ rfl rfl)) (Ch.s (dB true) pm (Ch.s (dI (k : Int)) pm (Ch.s (dB (decide ((k : Int) = 0))) (iX rfl rfl rfl) (Ch.s (dB (decide ((k : Int) = 0))) pm ?_))))))
   cases h7 : (decide ((k : Int) = 0)) with
   | true =>
    replace h7 := odt h7
    refine Ck (Ck (Ck (Ck (Ch.s (dB true) (pT rfl) (Ch.s (dB true) pm (Ck (Ch.skip rfl rfl ?_)))))))
    refine Ck (Ck (Ch.s (dB true) (pT rfl) (Ch.s (dB true) (pT rfl) (Ch.nil ?_))))
    refine T_cond (b := true) rfl (fun _ => ?_) (fun h => nomatch h)
    refine Ts hc (Ch.s (dB false) pa (Ch.nil (T_ret ?_)))
    exact eR [(dB false)] [] [] (.cons (.tmp 2 rfl) .nil) eA (Exp.of (congrArg D.bool a3) (.d _))
   | false =>
    replace h7 := odf h7
    refine Ch.s (dS u) pm (Ch.s (dI (k : Int)) pm (Ch.s (.d (.int .u8 ((u.getD k 0).toNat : Int))) (.pure (.idxStr _ _ _ (k) rfl Tryz.underlying9 rfl rfl rfl get_strA)) (Ch.s (dB (decide (((u.getD k 0) : UInt8) < 48))) (iX rfl rfl (u8_lss ((u.getD k 0) : UInt8) 48 rfl rfl)) (Ch.s (dB (decide (((u.getD k 0) : UInt8) < 48))) (pF rfl) (Ch.s (dB (decide (((u.getD k 0) : UInt8) < 48))) pm ?_)))))
    cases h8 : (decide (((u.getD k 0) : UInt8) < 48)) with
    | true =>
     replace h8 := odt h8
     refine Ck (Ck (Ck (Ck (Ch.s (dB true) (pT rfl) (Ch.s (dB true) (pT rfl) (Ch.nil ?_))))))
     refine T_cond (b := true) rfl (fun _ => ?_) (fun h => nomatch h)
     refine Ts hc (Ch.s (dB false) pa (Ch.nil (T_ret ?_)))
     exact eR [(dB false)] [] [] (.cons (.tmp 2 rfl) .nil) eA (Exp.of (congrArg D.bool a3) (.d _))
    | false =>
     replace h8 := odf h8
     refine Ch.s (dS u) pm (Ch.s (dI (k : Int)) pm (Ch.s (.d (.int .u8 ((u.getD k 0).toNat : Int))) (.pure (.idxStr _ _ _ (k) rfl Tryz.underlying9 rfl rfl rfl get_strA)) (Ch.s (dB (decide (57 < ((u.getD k 0) : UInt8)))) (iX rfl rfl (u8_gtr ((u.getD k 0) : UInt8) 57 rfl rfl)) (Ch.s (dB (decide (57 < ((u.getD k 0) : UInt8)))) (pF rfl) (Ch.s (dB (decide (57 < ((u.getD k 0) : UInt8)))) (pT rfl) (Ch.nil ?_))))))
     refine T_condD (p := (57 < ((u.getD k 0) : UInt8))) rfl (fun h9 => ?_) (fun h9 => ?_)
     ·
      refine Ts hc (Ch.s (dB false) pa (Ch.nil (T_ret ?_)))
      exact eR [(dB false)] [] [] (.cons (.tmp 2 rfl) .nil) eA (Exp.of (congrArg D.bool a3) (.d _))
     ·
      refine Tk (Tz hc (Ch.s (dI (k : Int)) pm (Ch.s (dI ((k : Int) + 1)) (iX rfl rfl intV_addA) (Ch.s (dI ((k : Int) + 1)) pa (Ch.nil ?_)))))
      exact nx (k + 1) ⟨by omega, upto_succ hp0.2 a4⟩ (Wk.of rfl rfl (ar (ai (vI a87) trivial)) trivial)
 ·
  refine T_exit (Ts hc (Ch.s (dS u) pm (Ch.s (dI (u.length : Int)) (.pure (.lenStr _ _ rfl Tryz.underlying9 rfl)) (Ch.s (dB (withinB (u.length : Int) 1 6)) (.call 41000 29 _ _ _ en29 rfl (.inl rfl) (.cons (.d _) (.cons (.d _) (.cons (.d _) .nil))) rfl rfl (sp_spec_l1In (u.length : Int) 1 6) (.skip _ _ (.skip _ _ (.skip _ _ .nil))) rfl) (Ch.s (dB (withinB (u.length : Int) 1 6)) pa (Ch.nil ?_))))))
  refine T_ret ?_
  exact eR [(dB (withinB (u.length : Int) 1 6))] [] [] (.cons (.tmp 2 rfl) .nil) eA (Exp.of (congrArg D.bool a3) (.d _))

theorem sp_IndexFunc_sgn (xs : List Sgn) (f : FuncId) (caps : List D) (p : Sgn → Bool) (hf : Enters Tryz.prog f) (hp : ∀ x ∈ xs, Sp Tryz.prog f (Sgn.d x :: caps) (.any :: anys caps) (.bool (p x))) (hn : xs.length ≤ 1048576) : Sp Tryz.prog 98 [(.slice false 2 (xs.map Sgn.d)), (.fn f caps)] [.any, .any] (.int .i64 (ixF p xs)) := by
 refine Sp_intro (lend := true) Tryz.func98 rfl rfl rfl (fun _ => rfl) (fun c hc hX => ?_)
 refine Ts hc (Ch.s (dI 0) pa (Ch.nil (Tq (Ts hc (Ch.s (.d (.slice false 2 (xs.map Sgn.d))) pm ?_)))))
 refine Ch.s (dI (xs.length : Int)) (.pure (.len _ _ 77 rfl Tryz.underlying25 (.sh _ _) (by simp))) (Ch.s (dI 0) pm (Ch.nil (Tb ?_)))
 refine T_loop (ι := Nat) (fun k => { n := 19, sl := [(0, (.d (.slice false 2 (xs.map Sgn.d)))), (1, (.d (.fn f caps))), (7, (dI (xs.length : Int))), (8, (dI (k : Int)))], hp := [], pin := [] }) (fun k => k ≤ xs.length ∧ ∀ j, j < k → p (xs.getD j default) = false) (fun k => xs.length - k) ⟨0, ⟨by omega, fun j hj => by omega⟩, (Wk.of rfl rfl (ar (ar (ar (ai (vI a87) trivial)))) trivial)⟩ (fun k hp0 => ?_)
 refine Ts hc (Ch.s (dB (decide ((k : Int) < (xs.length : Int)))) (iX rfl rfl rfl) (Ch.nil (Tq ?_)))
 refine T_condD (p := ((k : Int) < (xs.length : Int))) rfl (fun h1 => ?_) (fun h1 => ?_)
 ·
  refine Tk (Tq (Tb (Ts hc (Ch.s (dI (k : Int)) pm (Ch.s (dI (k : Int)) pa (Ch.nil ?_))))))
  refine Ts hc (Ch.s (.d (.fn f caps)) pm (Ch.s (.d (.slice false 2 (xs.map Sgn.d))) pm (Ch.s (dI (k : Int)) pm (Ch.s (.d (.ref (.agg [(.str ((xs.getD k default).name)), (.int .i64 ((xs.getD k default).kind))]))) (.pure (.idx _ _ _ 77 (k) rfl Tryz.underlying25 sz77 rfl rfl rfl get_mapA)) (Ch.s (.d (.agg [(.str ((xs.getD k default).name)), (.int .i64 ((xs.getD k default).kind))])) (.pure (.loadRefA _ _ rfl ag77 sz77 rfl)) ?_)))))
  refine Ch.step (v := (dB (p (xs.getD k default)))) rfl (.callS 16000 f _ #[.tmp 15] _ hf rfl (.inr ⟨caps, rfl, rfl⟩) (.cons (.d _) (exps_ds caps)) rfl (hp _ (getD_mem (by omega))) (.skip _ _ (back_anys caps)) rfl) rfl rfl ?_
  refine Ch.nil ?_
  refine T_cond (b := (p (xs.getD k default))) rfl (fun h2 => ?_) (fun h2 => ?_)
  ·
   refine Ts hc (Ch.s (dI (k : Int)) pm (Ch.s (dI (k : Int)) pa (Ch.nil (T_ret ?_))))
   exact eR [(dI (k : Int))] [] [] (.cons (.tmp 4 rfl) .nil) eB (Exp.of (congrArg (D.int .i64) a69) (.d _))
  ·
   refine Tk (Tz hc (Ch.s (dI ((k : Int) + 1)) (iX rfl rfl intV_addA) (Ch.s (dI ((k : Int) + 1)) pm (Ch.nil ?_))))
   exact nx (k + 1) ⟨by omega, upto_succ hp0.2 (by assumption)⟩ (Wk.of rfl rfl (ar (ar (ar (ai (vI a87) trivial)))) trivial)
 ·
  refine T_exit (Ts hc (Ch.s (dI (-1)) pa (Ch.nil (T_ret ?_))))
  exact eR [(dI (-1))] [] [] (.cons (.tmp 4 rfl) .nil) eB (Exp.of (congrArg (D.int .i64) a68) (.d _))

theorem sp_ContainsFunc_sgn (xs : List Sgn) (f : FuncId) (caps : List D) (p : Sgn → Bool) (hf : Enters Tryz.prog f) (hp : ∀ x ∈ xs, Sp Tryz.prog f (Sgn.d x :: caps) (.any :: anys caps) (.bool (p x))) (hn : xs.length ≤ 1048576) : Sp Tryz.prog 103 [(.slice false 2 (xs.map Sgn.d)), (.fn f caps)] [.any, .any] (.bool (xs.any p)) := by
 refine Sp_intro (lend := true) Tryz.func103 rfl rfl rfl (fun _ => rfl) (fun c hc hX => ?_)
 refine Ts hc (Ch.s (dB false) pa (Ch.nil (Ts hc (Ch.s (.d (.slice false 2 (xs.map Sgn.d))) pm (Ch.s (.d (.fn f caps)) pm ?_)))))
 refine Ch.s (dI (ixF p xs)) (.call 7000 98 _ _ _ en98 rfl (.inl rfl) (.cons (.d _) (.cons (.d _) .nil)) rfl rfl (sp_IndexFunc_sgn xs f caps p hf hp a7) (.skip _ _ (.skip _ _ .nil)) rfl) (Ch.s (dB (decide (0 ≤ (ixF p xs)))) (iX rfl rfl rfl) (Ch.s (dB (decide (0 ≤ (ixF p xs)))) pa (Ch.nil (T_ret ?_))))
 exact eR [(dB (decide (0 ≤ (ixF p xs))))] [] [] (.cons (.tmp 4 rfl) .nil) eB (Exp.of (congrArg D.bool (by exact ixF_nonneg p xs)) (.d _))

theorem sp_IndexFunc_lab (xs : List Lab) (f : FuncId) (caps : List D) (p : Lab → Bool) (hf : Enters Tryz.prog f) (hp : ∀ x ∈ xs, Sp Tryz.prog f (Lab.d x :: caps) (.any :: anys caps) (.bool (p x))) (hn : xs.length ≤ 1048576) : Sp Tryz.prog 105 [(.slice false 2 (xs.map Lab.d)), (.fn f caps)] [.any, .any] (.int .i64 (ixF p xs)) := by
 refine Sp_intro (lend := true) Tryz.func105 rfl rfl rfl (fun _ => rfl) (fun c hc hX => ?_)
 refine Ts hc (Ch.s (dI 0) pa (Ch.nil (Tq (Ts hc (Ch.s (.d (.slice false 2 (xs.map Lab.d))) pm ?_)))))
 refine Ch.s (dI (xs.length : Int)) (.pure (.len _ _ 67 rfl Tryz.underlying26 (.sh _ _) (by simp))) (Ch.s (dI 0) pm (Ch.nil (Tb ?_)))
 refine T_loop (ι := Nat) (fun k => { n := 19, sl := [(0, (.d (.slice false 2 (xs.map Lab.d)))), (1, (.d (.fn f caps))), (7, (dI (xs.length : Int))), (8, (dI (k : Int)))], hp := [], pin := [] }) (fun k => k ≤ xs.length ∧ ∀ j, j < k → p (xs.getD j default) = false) (fun k => xs.length - k) ⟨0, ⟨by omega, fun j hj => by omega⟩, (Wk.of rfl rfl (ar (ar (ar (ai (vI a87) trivial)))) trivial)⟩ (fun k hp0 => ?_)
 refine Ts hc (Ch.s (dB (decide ((k : Int) < (xs.length : Int)))) (iX rfl rfl rfl) (Ch.nil (Tq ?_)))
 refine T_condD (p := ((k : Int) < (xs.length : Int))) rfl (fun h1 => ?_) (fun h1 => ?_)
 ·
  refine Tk (Tq (Tb (Ts hc (Ch.s (dI (k : Int)) pm (Ch.s (dI (k : Int)) pa (Ch.nil ?_))))))
  refine Ts hc (Ch.s (.d (.fn f caps)) pm (Ch.s (.d (.slice false 2 (xs.map Lab.d))) pm (Ch.s (dI (k : Int)) pm (Ch.s (.d (.ref (.agg [(.int .i64 ((xs.getD k default).sig)), (.bool ((xs.getD k default).up))]))) (.pure (.idx _ _ _ 67 (k) rfl Tryz.underlying26 sz67 rfl rfl rfl get_mapA)) (Ch.s (.d (.agg [(.int .i64 ((xs.getD k default).sig)), (.bool ((xs.getD k default).up))])) (.pure (.loadRefA _ _ rfl ag67 sz67 rfl)) ?_)))))
  refine Ch.step (v := (dB (p (xs.getD k default)))) rfl (.callS 16000 f _ #[.tmp 15] _ hf rfl (.inr ⟨caps, rfl, rfl⟩) (.cons (.d _) (exps_ds caps)) rfl (hp _ (getD_mem (by omega))) (.skip _ _ (back_anys caps)) rfl) rfl rfl ?_
  refine Ch.nil ?_
  refine T_cond (b := (p (xs.getD k default))) rfl (fun h2 => ?_) (fun h2 => ?_)
  ·
   refine Ts hc (Ch.s (dI (k : Int)) pm (Ch.s (dI (k : Int)) pa (Ch.nil (T_ret ?_))))
   exact eR [(dI (k : Int))] [] [] (.cons (.tmp 4 rfl) .nil) eB (Exp.of (congrArg (D.int .i64) a69) (.d _))
  ·
   refine Tk (Tz hc (Ch.s (dI ((k : Int) + 1)) (iX rfl rfl intV_addA) (Ch.s (dI ((k : Int) + 1)) pm (Ch.nil ?_))))
   exact nx (k + 1) ⟨by omega, upto_succ hp0.2 (by assumption)⟩ (Wk.of rfl rfl (ar (ar (ar (ai (vI a87) trivial)))) trivial)
 ·
  refine T_exit (Ts hc (Ch.s (dI (-1)) pa (Ch.nil (T_ret ?_))))
  exact eR [(dI (-1))] [] [] (.cons (.tmp 4 rfl) .nil) eB (Exp.of (congrArg (D.int .i64) a68) (.d _))

theorem sp_ContainsFunc_lab (xs : List Lab) (f : FuncId) (caps : List D) (p : Lab → Bool) (hf : Enters Tryz.prog f) (hp : ∀ x ∈ xs, Sp Tryz.prog f (Lab.d x :: caps) (.any :: anys caps) (.bool (p x))) (hn : xs.length ≤ 1048576) : Sp Tryz.prog 88 [(.slice false 2 (xs.map Lab.d)), (.fn f caps)] [.any, .any] (.bool (xs.any p)) := by
 refine Sp_intro (lend := true) Tryz.func88 rfl rfl rfl (fun _ => rfl) (fun c hc hX => ?_)
 refine Ts hc (Ch.s (dB false) pa (Ch.nil (Ts hc (Ch.s (.d (.slice false 2 (xs.map Lab.d))) pm (Ch.s (.d (.fn f caps)) pm ?_)))))
 refine Ch.s (dI (ixF p xs)) (.call 7000 105 _ _ _ en105 rfl (.inl rfl) (.cons (.d _) (.cons (.d _) .nil)) rfl rfl (sp_IndexFunc_lab xs f caps p hf hp a7) (.skip _ _ (.skip _ _ .nil)) rfl) (Ch.s (dB (decide (0 ≤ (ixF p xs)))) (iX rfl rfl rfl) (Ch.s (dB (decide (0 ≤ (ixF p xs)))) pa (Ch.nil (T_ret ?_))))
 exact eR [(dB (decide (0 ≤ (ixF p xs))))] [] [] (.cons (.tmp 4 rfl) .nil) eB (Exp.of (congrArg D.bool (by exact ixF_nonneg p xs)) (.d _))

theorem sp_impl_areSignals_1 (y x : Sgn) : Sp Tryz.prog 104 [(.agg [(.str y.name), (.int .i64 y.kind)]), (.ref (.agg [(.str x.name), (.int .i64 x.kind)]))] [.any, .any] (.bool (decide (y.name = x.name))) := by
 refine Sp_intro (lend := true) Tryz.func104 rfl rfl rfl (fun _ => rfl) (fun c hc hX => ?_)
 refine Ts hc (Ch.s (.ptr 2000 0) (.box 2000 _ _ rfl (.aggD _)) (Ch.s (dB false) pa (Ch.nil (Ts hc (Ch.s (.ptr 2000 0) (fP fld77_0 rfl) ?_)))))
 refine Ch.s (dS y.name) (lP ag9 rfl rfl rfl) (Ch.s (.d (.ref (.str x.name))) (.pure (.fldRef _ _ _ rfl fld77_0 rfl rfl rfl)) (Ch.s (dS x.name) (rF ag9 rfl rfl) (Ch.s (dB (decide (y.name = x.name))) (.pure (.str _ _ _ _ _ rfl rfl rfl rfl)) (Ch.s (dB (decide (y.name = x.name))) pa (Ch.nil (T_ret ?_))))))
 exact eR [(dB (decide (y.name = x.name)))] [] [] (.cons (.tmp 3 rfl) .nil) eB (.d _)

theorem any_take {xs : List Sgn} {k m : Nat} (hk : k ≤ xs.length) (hm : (xs.take k).length ≤ m) (h : ∀ j, j < m → decide (((xs.take k).getD j default).name = (xs.getD k default).name) = false) : ((xs.take k).any fun y => decide (y.name = (xs.getD k default).name)) = false :=
 (any_no default fun j hj => h j (by omega)).symm

theorem en63 : Enters Tryz.prog 63 := ⟨_, Tryz.func63, by kernel_rfl, rfl⟩

theorem zr9 : (Tryz.prog.info? 9).bind (·.zero) = some (.string .empty) := by kernel_rfl

theorem sty37 : SlotTy Tryz.prog 37 9 1 16 := slotTy_mk (by kernel_rfl)

theorem en64 : Enters Tryz.prog 64 := ⟨_, Tryz.func64, by kernel_rfl, rfl⟩

theorem en41 : Enters Tryz.prog 41 := ⟨_, Tryz.func41, by kernel_rfl, rfl⟩

theorem en79 : Enters Tryz.prog 79 := ⟨_, Tryz.func79, by kernel_rfl, rfl⟩

theorem en61 : Enters Tryz.prog 61 := ⟨_, Tryz.func61, by kernel_rfl, rfl⟩

theorem en39 : Enters Tryz.prog 39 := ⟨_, Tryz.func39, by kernel_rfl, rfl⟩

theorem en84 : Enters Tryz.prog 84 := ⟨_, Tryz.func84, by kernel_rfl, rfl⟩

theorem en112 : Enters Tryz.prog 112 := ⟨_, Tryz.func112, by kernel_rfl, rfl⟩

theorem en106 : Enters Tryz.prog 106 := ⟨_, Tryz.func106, by kernel_rfl, rfl⟩

theorem en91 : Enters Tryz.prog 91 := ⟨_, Tryz.func91, by kernel_rfl, rfl⟩

theorem en31 : Enters Tryz.prog 31 := ⟨_, Tryz.func31, by kernel_rfl, rfl⟩

def splB : List UInt8 → UInt8 → List (List UInt8)
 | [], _ => [[]]
 | x :: u, b => if x = b then [] :: splB u b else (x :: (splB u b).headD []) :: (splB u b).tail

theorem splB_ne (u : List UInt8) (b : UInt8) : splB u b ≠ [] := by
  cases u with
  | nil => simp [splB]
  | cons x u => rw [splB]; split <;> simp

theorem splB_len (u : List UInt8) (b : UInt8) : (splB u b).length = u.count b + 1 := by
  induction u with
  | nil => rfl
  | cons x u ih =>
    rw [splB]
    split
    · rename_i h; subst h; simp [ih]
    · rename_i h
      have : (x :: u).count b = u.count b := List.count_cons_of_ne h
      rw [this, List.length_cons, List.length_tail, ih]; omega

theorem splB_yes {u : List UInt8} {b : UInt8} (h : ¬ Lib.indexByte u b < 0) : (Lib.indexByte u b).toNat < u.length ∧ splB u b = u.take (Lib.indexByte u b).toNat :: splB (u.drop ((Lib.indexByte u b).toNat + 1)) b ∧ u.count b = (u.drop ((Lib.indexByte u b).toNat + 1)).count b + 1 := by
  induction u with
  | nil => exact absurd (show (-1 : Int) < 0 by decide) h
  | cons x u ih =>
    rw [Lib.indexByte] at h ⊢
    by_cases hx : x = b
    · subst hx
      simp only [beq_self_eq_true, if_true]
      refine ⟨by simp, by simp [splB], by simp⟩
    · have e1 : (x == b) = false := by simpa using hx
      rw [e1] at h ⊢
      have hge := Lib.indexByte_ge u b
      by_cases h2 : Lib.indexByte u b = -1
      · rw [h2] at h; exact absurd (by decide) h
      · have e2 : (Lib.indexByte u b == -1) = false := by simpa using h2
        simp only [e2, Bool.false_eq_true, if_false] at h ⊢
        have h3 : ¬ Lib.indexByte u b < 0 := by generalize Lib.indexByte u b = z at *; omega
        obtain ⟨h4, h5, h6⟩ := ih h3
        have e3 : (Lib.indexByte u b + 1).toNat = (Lib.indexByte u b).toNat + 1 := by generalize Lib.indexByte u b = z at *; omega
        rw [e3]
        refine ⟨by simpa using h4, ?_, ?_⟩
        · rw [splB, if_neg hx, h5]; simp
        · rw [List.count_cons_of_ne hx, h6]; simp

theorem splB_no {u : List UInt8} {b : UInt8} (h : Lib.indexByte u b < 0) : splB u b = [u] ∧ u.count b = 0 := by
  induction u with
  | nil => exact ⟨rfl, rfl⟩
  | cons x u ih =>
    rw [Lib.indexByte] at h
    by_cases hx : x = b
    · subst hx; simp only [beq_self_eq_true, if_true] at h; exact absurd h (by decide)
    · have e1 : (x == b) = false := by simpa using hx
      rw [e1] at h
      have hge := Lib.indexByte_ge u b
      by_cases h2 : Lib.indexByte u b = -1
      · obtain ⟨h3, h4⟩ := ih (by rw [h2]; decide)
        exact ⟨by rw [splB, if_neg hx, h3]; rfl, by rw [List.count_cons_of_ne hx, h4]⟩
      · have e2 : (Lib.indexByte u b == -1) = false := by simpa using h2
        simp only [e2, Bool.false_eq_true, if_false] at h
        generalize Lib.indexByte u b = z at *; omega

theorem count0_spl {u : List UInt8} {b : UInt8} (h : u.count b = 0) : splB u b = [u] := by
  by_cases h2 : Lib.indexByte u b < 0
  · exact (splB_no h2).1
  · obtain ⟨_, _, h3⟩ := splB_yes h2; omega

theorem indexByte_le (u : List UInt8) (b : UInt8) : Lib.indexByte u b ≤ u.length := by
  by_cases h : Lib.indexByte u b < 0
  · omega
  · have := (splB_yes h).1; omega

def padS (l : List (List UInt8)) (n : Nat) : List (List UInt8) := l ++ List.replicate (n - l.length) []

theorem padS_len {l : List (List UInt8)} {n : Nat} (h : l.length ≤ n) : (padS l n).length = n := by simp [padS]; omega

theorem padS_nil (n : Nat) : (padS [] n).map D.str = List.replicate n (D.str []) := by simp [padS]

theorem padS_set {l : List (List UInt8)} {n : Nat} (x : List UInt8) (h : l.length < n) : ((padS l n).map D.str).set l.length (D.str x) = (padS (l ++ [x]) n).map D.str := by
 rw [← List.map_set]
 congr 1
 unfold padS
 obtain ⟨d, rfl⟩ : ∃ d, n = l.length + (d + 1) := ⟨n - l.length - 1, by omega⟩
 rw [show l.length + (d + 1) - l.length = d + 1 by omega, show l.length + (d + 1) - (l ++ [x]).length = d by simp; omega, List.replicate_succ, List.append_assoc]
 rw [List.set_append_right _ _ (Nat.le_refl _)]
 simp

def SplI (u : List UInt8) (b : UInt8) (q : List (List UInt8) × List UInt8) : Prop := splB u b = q.1 ++ splB q.2 b ∧ q.1.length + q.2.count b = u.count b ∧ q.2.length ≤ u.length

theorem SplI.step {u : List UInt8} {b : UInt8} {q : List (List UInt8) × List UInt8} (h : SplI u b q) (hi : ¬ Lib.indexByte q.2 b < 0) : SplI u b (q.1 ++ [q.2.take (Lib.indexByte q.2 b + 0).toNat], q.2.drop (Lib.indexByte q.2 b + 1).toNat) := by
  obtain ⟨h1, h2, h3⟩ := h
  obtain ⟨g1, g2, g3⟩ := splB_yes hi
  have e1 : (Lib.indexByte q.2 b + 0).toNat = (Lib.indexByte q.2 b).toNat := by omega
  have e2 : (Lib.indexByte q.2 b + 1).toNat = (Lib.indexByte q.2 b).toNat + 1 := by omega
  refine ⟨?_, ?_, ?_⟩
  · dsimp only; rw [e1, e2, h1, g2]; simp
  · dsimp only; rw [e2, List.length_append]; simp only [List.length_cons, List.length_nil]; omega
  · dsimp only; rw [List.length_drop]; omega

theorem SplI.end {u : List UInt8} {b : UInt8} {q : List (List UInt8) × List UInt8} (h : SplI u b q) (he : Lib.indexByte q.2 b < 0 ∨ ¬ q.1.length < u.count b) : (((padS q.1 (u.count b + 1)).map D.str).set q.1.length (D.str q.2)).take (q.1.length + 1) = (splB u b).map D.str := by
  obtain ⟨h1, h2, h3⟩ := h
  have hc : q.2.count b = 0 := by
    rcases he with he | he
    · exact (splB_no he).2
    · omega
  have hn : u.count b + 1 = q.1.length + 1 := by omega
  rw [h1, count0_spl hc, hn, padS_set _ (by omega)]
  simp [padS]
  rw [List.take_of_length_le (by simp)]

theorem splB_at {v : List UInt8} {b : UInt8} : ∀ {m : Nat}, m < v.length → v.getD m 0 = b → (∀ j, j < m → v.getD j 0 ≠ b) → splB v b = v.take m :: splB (v.drop (m + 1)) b := by
 induction v with
 | nil => intro m h; exact absurd h (by simp)
 | cons x v ih =>
  intro m h h1 h2
  cases m with
  | zero =>
   have : x = b := by simpa using h1
   rw [splB, if_pos this]; simp
  | succ m =>
   have hx : x ≠ b := by simpa using h2 0 (by omega)
   have := ih (m := m) (by simpa using h) (by simpa using h1) (fun j hj => by simpa using h2 (j + 1) (by omega))
   rw [splB, if_neg hx, this]; simp

theorem splB_end {v : List UInt8} {b : UInt8} (h : ∀ j, j < v.length → v.getD j 0 ≠ b) : splB v b = [v] := by
 apply count0_spl
 rw [List.count_eq_zero]
 intro hm
 obtain ⟨j, hj, e⟩ := List.mem_iff_getElem.1 hm
 exact h j hj (by simp [hj, e])

def SplL (u : List UInt8) (b : UInt8) (q : List (List UInt8) × Nat) (k : Nat) : Prop := q.2 ≤ k ∧ k ≤ u.length ∧ (∀ j, q.2 ≤ j → j < k → u.getD j 0 ≠ b) ∧ splB u b = q.1 ++ splB (u.drop q.2) b ∧ q.1.length ≤ q.2

theorem SplL.init (u : List UInt8) (b : UInt8) : SplL u b ([], 0) 0 := ⟨Nat.le_refl _, Nat.zero_le _, fun j _ h => absurd h (Nat.not_lt_zero _), rfl, Nat.le_refl _⟩

theorem SplL.skip {u : List UInt8} {b : UInt8} {q : List (List UInt8) × Nat} {k : Nat} (h : SplL u b q k) (hk : k < u.length) (hb : ¬ u.getD k 0 = b) : SplL u b q (k + 1) := by
  obtain ⟨h1, h2, h3, h4, h5⟩ := h
  refine ⟨by omega, by omega, fun j hj hj2 => ?_, h4, h5⟩
  by_cases e : j = k
  · subst e; exact hb
  · exact h3 j hj (by omega)

theorem SplL.cut {u : List UInt8} {b : UInt8} {q : List (List UInt8) × Nat} {k : Nat} (h : SplL u b q k) (hk : k < u.length) (hb : u.getD k 0 = b) : SplL u b (q.1 ++ [(u.take k).drop q.2], k + 1) (k + 1) := by
 obtain ⟨h1, h2, h3, h4, h5⟩ := h
 have g : ∀ j, (u.drop q.2).getD j 0 = u.getD (q.2 + j) 0 := fun j => by simp [List.getD_eq_getElem?_getD]
 have := splB_at (v := u.drop q.2) (b := b) (m := k - q.2) (by rw [List.length_drop]; omega) (by rw [g, show q.2 + (k - q.2) = k by omega]; exact hb) (fun j hj => by rw [g]; exact h3 _ (by omega) (by omega))
 refine ⟨Nat.le_refl _, by omega, fun j hj hj2 => by omega, ?_, by simp; omega⟩
 dsimp only
 rw [h4, this, List.drop_drop, List.drop_take, show q.2 + (k - q.2 + 1) = k + 1 by omega]
 simp

theorem SplL.last {u : List UInt8} {b : UInt8} {q : List (List UInt8) × Nat} {k : Nat} (h : SplL u b q k) (hk : ¬ k < u.length) : q.1 ++ [u.drop q.2] = splB u b := by
 obtain ⟨h1, h2, h3, h4, h5⟩ := h
 have g : ∀ j, (u.drop q.2).getD j 0 = u.getD (q.2 + j) 0 := fun j => by simp [List.getD_eq_getElem?_getD]
 rw [h4, splB_end (v := u.drop q.2) (fun j hj => by rw [List.length_drop] at hj; rw [g]; exact h3 _ (by omega) (by omega))]

def preB (u p : List UInt8) : Bool := decide (u.take p.length = p)

def cutP (u p : List UInt8) : List UInt8 := if preB u p then u.drop p.length else u

theorem preB_len {u p : List UInt8} (h : preB u p = true) : p.length ≤ u.length := by
 unfold preB at h
 have := congrArg List.length (of_decide_eq_true h)
 rw [List.length_take] at this; omega

theorem preB_short {u p : List UInt8} (h : u.length < p.length) : preB u p = false := by
  cases hb : preB u p
  · rfl
  · have := preB_len hb; omega

def endL (u : List UInt8) : Bool := decide (1 ≤ u.length) && decide (u.drop (u.length - 1) = [10])

def cutS (u : List UInt8) (b : UInt8) : List UInt8 := (splB u b).headD []

theorem cutS_yes {u : List UInt8} {b : UInt8} (h : ¬ Lib.indexByte u b < 0) : cutS u b = u.take (Lib.indexByte u b).toNat := by
 unfold cutS; rw [(splB_yes h).2.1]; rfl

theorem cutS_no {u : List UInt8} {b : UInt8} (h : Lib.indexByte u b < 0) : cutS u b = u := by
 unfold cutS; rw [(splB_no h).1]; rfl

def numS (n : Nat) : List UInt8 := if n < 10 then [UInt8.ofNat (48 + n)] else [UInt8.ofNat (48 + n / 10), UInt8.ofNat (48 + n % 10)]

theorem cutP_yes {u p : List UInt8} (h : preB u p = true) : u.drop p.length = cutP u p := by rw [cutP, if_pos h]

theorem cutP_no {u p : List UInt8} (h : preB u p = false) : u = cutP u p := by rw [cutP, h]; rfl

theorem preB_eq {u p : List UInt8} {x : Bool} (h : u.take p.length = p ↔ x = true) : x = preB u p := by
 unfold preB; rw [Bool.eq_iff_iff, decide_eq_true_iff]; exact h.symm

def smL : List UInt8 := [48, 48, 48, 49, 48, 50, 48, 51, 48, 52, 48, 53, 48, 54, 48, 55, 48, 56, 48, 57, 49, 48, 49, 49, 49, 50, 49, 51, 49, 52, 49, 53, 49, 54, 49, 55, 49, 56, 49, 57, 50, 48, 50, 49, 50, 50, 50, 51, 50, 52, 50, 53, 50, 54, 50, 55, 50, 56, 50, 57, 51, 48, 51, 49, 51, 50, 51, 51, 51, 52, 51, 53, 51, 54, 51, 55, 51, 56, 51, 57, 52, 48, 52, 49, 52, 50, 52, 51, 52, 52, 52, 53, 52, 54, 52, 55, 52, 56, 52, 57, 53, 48, 53, 49, 53, 50, 53, 51, 53, 52, 53, 53, 53, 54, 53, 55, 53, 56, 53, 57, 54, 48, 54, 49, 54, 50, 54, 51, 54, 52, 54, 53, 54, 54, 54, 55, 54, 56, 54, 57, 55, 48, 55, 49, 55, 50, 55, 51, 55, 52, 55, 53, 55, 54, 55, 55, 55, 56, 55, 57, 56, 48, 56, 49, 56, 50, 56, 51, 56, 52, 56, 53, 56, 54, 56, 55, 56, 56, 56, 57, 57, 48, 57, 49, 57, 50, 57, 51, 57, 52, 57, 53, 57, 54, 57, 55, 57, 56, 57, 57]

def dgL : List UInt8 := [48, 49, 50, 51, 52, 53, 54, 55, 56, 57, 97, 98, 99, 100, 101, 102, 103, 104, 105, 106, 107, 108, 109, 110, 111, 112, 113, 114, 115, 116, 117, 118, 119, 120, 121, 122]

theorem sm_len : smL.length = 200 := by decide +kernel

theorem sm_le {r : Nat} (h : r ≤ 200) : r ≤ smL.length := by rw [sm_len]; exact h

theorem dg_le {r : Nat} (h : r ≤ 36) : r ≤ dgL.length := h

theorem dg_lt {r : Nat} (h : r < 36) : r < dgL.length := h

theorem small1 (n : Nat) (h : n < 10) : [dgL.getD n 0] = numS n := by
 have : ∀ n, n < 10 → [dgL.getD n 0] = numS n := by decide +kernel
 exact this n h

theorem small2 (n : Nat) (h : ¬ n < 10) (h2 : n < 100) : (smL.take (n * 2 + 2)).drop (n * 2) = numS n := by
 have : ∀ n, n < 100 → ¬ n < 10 → (smL.take (n * 2 + 2)).drop (n * 2) = numS n := by decide +kernel
 exact this n h2 h

theorem numS_lo {n : Nat} (h : n < 10) : numS n = [UInt8.ofNat (48 + n)] := if_pos h

theorem numS_hi {n : Nat} (h : ¬ n < 10) (h2 : n < 100) : numS n = numS (n / 10) ++ [UInt8.ofNat (48 + n % 10)] := by
 rw [numS_lo (n := n / 10) (by omega), numS, if_neg h]; rfl

theorem numS_len (n : Nat) : (numS n).length ≤ 2 := by unfold numS; split <;> simp

theorem cutS_len (u : List UInt8) (b : UInt8) : (cutS u b).length ≤ u.length := by
  by_cases h : Lib.indexByte u b < 0
  · rw [cutS_no h]; exact Nat.le_refl _
  · rw [cutS_yes h, List.length_take]; omega

theorem sp_strings_Count (u : List UInt8) (b : UInt8) : Sp Tryz.prog 63 [(.str u), (.str ([b]))] [.any, .any] (.int .i64 (u.count b : Int)) := by
 refine Sp_intro (lend := true) Tryz.func63 rfl rfl rfl (fun _ => rfl) (fun c hc hX => ?_)
 refine Ts hc (Ch.s (dI 0) pa (Ch.nil (Tq (Ts hc (Ch.s (dS ([b])) pm ?_)))))
 refine Ch.s (dI 1) (.pure (.lenStr (s := ([b])) _ _ rfl Tryz.underlying9 rfl)) (Ch.s (dB false) (iX rfl rfl rfl) (Ch.nil ?_))
 refine T_cond (b := false) rfl (fun h => nomatch h) (fun _ => ?_)
 refine Tk (Tq (Ts hc (Ch.s (dS ([b])) pm (Ch.s (dI 1) (.pure (.lenStr (s := ([b])) _ _ rfl Tryz.underlying9 rfl)) (Ch.s (dB true) (iX rfl rfl rfl) (Ch.nil ?_))))))
 refine T_cond (b := true) rfl (fun _ => ?_) (fun h => nomatch h)
 refine Ts hc (Ch.s (dS u) pm (Ch.s (dS ([b])) pm (Ch.s (.d (.int .u8 ((b : UInt8).toNat : Int))) (.pure (.idxStr _ _ _ (0) rfl Tryz.underlying9 rfl rfl rfl rfl)) ?_)))
 refine Ch.step (v := (dI ((u.count (b : UInt8) : Nat) : Int))) rfl (.pure (.ext 82 _ _ _ (ext_countString Tryz.func82 (by kernel_rfl) rfl (by kernel_rfl) (by kernel_rfl) u (b : UInt8)) rfl rfl rfl)) rfl rfl ?_
 refine Ch.s (dI ((u.count (b : UInt8) : Nat) : Int)) pa (Ch.nil (T_ret ?_))
 exact eR [(dI ((u.count (b : UInt8) : Nat) : Int))] [] [] (.cons (.tmp 4 rfl) .nil) eB (Exp.of (congrArg (D.int .i64) (by rfl)) (.d _))

theorem sp_idx1 (u : List UInt8) (b : UInt8) : Sp Tryz.prog 83 [(.str u), (.str ([b]))] [.any, .any] (.int .i64 (Lib.indexByte u b)) := by
 refine Sp_intro (lend := true) Tryz.func83 rfl rfl rfl (fun _ => rfl) (fun c hc hX => ?_)
 refine Ts hc (Ch.s (dI 0) pa (Ch.nil (Ts hc (Ch.s (dS ([b])) pm (Ch.s (dI 1) (.pure (.lenStr (s := ([b])) _ _ rfl Tryz.underlying9 rfl)) ?_)))))
 refine Ch.s (dI 1) pa (Ch.nil (Tq (Tb (Ts hc (Ch.s (dI 1) pm (Ch.s (dB false) (iX rfl rfl rfl) ?_))))))
 refine Ch.s (dB false) pm (Ch.s (dS ([b])) pm (Ch.s (dS u) pm (Ch.s (dB (decide (([b]) = u))) (.pure (.str _ _ _ _ _ rfl rfl rfl rfl)) (Ch.s (dB (decide (([b]) = u))) (pF rfl) (Ch.s (dB (decide (([b]) = u))) pa (Ch.nil ?_))))))
 refine T_condD (p := (([b]) = u)) rfl (fun h1 => ?_) (fun h1 => ?_)
 ·
  refine Ts hc (Ch.s (dI 0) pa (Ch.nil (T_ret ?_)))
  exact eR [(dI 0)] [] [] (.cons (.tmp 4 rfl) .nil) eB (Exp.of (congrArg (D.int .i64) a83) (.d _))
 ·
  refine Ts hc (Ch.s (dI 1) pm (Ch.s (dB true) (iX rfl rfl rfl) (Ch.s (dB true) pa (Ch.nil ?_))))
  refine T_cond (b := true) rfl (fun _ => ?_) (fun h => nomatch h)
  refine Ts hc (Ch.s (dS u) pm (Ch.s (dS ([b])) pm (Ch.s (.d (.int .u8 ((b : UInt8).toNat : Int))) (.pure (.idxStr _ _ _ (0) rfl Tryz.underlying9 rfl rfl rfl rfl)) (Ch.s (dI (Lib.indexByte u ((b : UInt8) : UInt8))) (.call 30000 94 _ _ _ en94 rfl (.inl rfl) (.cons (.d _) (.cons (.d _) .nil)) rfl rfl (sp_stringslite_IndexByte u ((b : UInt8) : UInt8)) (.skip _ _ (.skip _ _ .nil)) rfl) (Ch.s (dI (Lib.indexByte u ((b : UInt8) : UInt8))) pa (Ch.nil ?_))))))
  refine T_ret ?_
  exact eR [(dI (Lib.indexByte u ((b : UInt8) : UInt8)))] [] [] (.cons (.tmp 4 rfl) .nil) eB (Exp.of (congrArg (D.int .i64) a83) (.d _))

theorem sp_idx2 (u : List UInt8) (b : UInt8) : Sp Tryz.prog 64 [(.str u), (.str ([b]))] [.any, .any] (.int .i64 (Lib.indexByte u b)) := by
 refine Sp_intro (lend := true) Tryz.func64 rfl rfl rfl (fun _ => rfl) (fun c hc hX => ?_)
 refine Ts hc (Ch.s (dI 0) pa (Ch.nil (Ts hc (Ch.s (dS u) pm (Ch.s (dS ([b])) pm ?_)))))
 refine Ch.s (dI (Lib.indexByte u b)) (.call 7000 83 _ _ _ en83 rfl (.inl rfl) (.cons (.d _) (.cons (.d _) .nil)) rfl rfl (sp_idx1 u b) (.skip _ _ (.skip _ _ .nil)) rfl) (Ch.s (dI (Lib.indexByte u b)) pa (Ch.nil (T_ret ?_)))
 exact eR [(dI (Lib.indexByte u b))] [] [] (.cons (.tmp 4 rfl) .nil) eB (.d _)

theorem sp_strings_genSplit (u : List UInt8) (b : UInt8) (hu : u.length ≤ 1048576) : Sp Tryz.prog 41 [(.str u), (.str ([b])), (.int .i64 0), (.int .i64 (-1))] [.any, .any, .any, .any] (.slice true 1 ((splB u b).map D.str)) := by
 refine Sp_intro (lend := true) Tryz.func41 rfl rfl rfl (fun _ => rfl) (fun c hc hX => ?_)
 have hcl := List.count_le_length (a := b) (l := u)
 refine Ts hc (Ch.s (.c (.slice none 0 0)) pa (Ch.nil (Tq (Ts hc (Ch.s (dI (-1)) pm ?_)))))
 refine Ch.s (dB false) (iX rfl rfl rfl) (Ch.nil ?_)
 refine T_cond (b := false) rfl (fun h => nomatch h) (fun _ => ?_)
 refine Tk (Tq (Ts hc (Ch.s (dS ([b])) pm (Ch.s (dB false) (.pure (.str _ _ _ _ _ rfl rfl rfl rfl)) (Ch.nil ?_)))))
 refine T_cond (b := false) rfl (fun h => nomatch h) (fun _ => ?_)
 refine Tk (Tq (Ts hc (Ch.s (dI (-1)) pm (Ch.s (dB true) (iX rfl rfl rfl) (Ch.nil ?_)))))
 refine T_cond (b := true) rfl (fun _ => ?_) (fun h => nomatch h)
 refine Tz hc (Ch.s (dS u) pm (Ch.s (dS ([b])) pm (Ch.s (dI (u.count b : Int)) (.call 23000 63 _ _ _ en63 rfl (.inl rfl) (.cons (.d _) (.cons (.d _) .nil)) rfl rfl (sp_strings_Count u b) (.skip _ _ (.skip _ _ .nil)) rfl) (Ch.s (dI ((u.count b : Int) + 1)) (iX rfl rfl intV_addA) (Ch.s (dI ((u.count b : Int) + 1)) pa (Ch.nil (Tq ?_)))))))
 refine Tz hc (Ch.s (dI ((u.count b : Int) + 1)) pm (Ch.s (dS u) pm (Ch.s (dI (u.length : Int)) (.pure (.lenStr _ _ rfl Tryz.underlying9 rfl)) (Ch.s (dI ((u.length : Int) + 1)) (iX rfl rfl intV_addA) (Ch.s (dI ((u.count b : Int) + 1)) (.pure (.min2 _ _ _ rfl rfl rfl (if_neg a26))) (Ch.s (dI ((u.count b : Int) + 1)) pa (Ch.nil ?_)))))))
 refine Ts hc (Ch.s (dI ((u.count b : Int) + 1)) pm ?_)
 refine Ch.step (v := (.row 31000)) rfl (.make 31000 _ 9 _ _ ((u.count b + 1)) ((u.count b + 1)) rfl sty37 rfl (by omega) rfl (by omega) a26 a26 a26 (zeroD_mk (zd := (.str [])) zr9 (by intro S w; rw [DR]; exact ⟨rfl, rfl⟩) rfl)) rfl rfl ?_
 refine Ch.s (.row 31000) pa (Ch.nil (Ts hc (Ch.s (dI ((u.count b : Int) + 1)) pm (Ch.s (dI (((u.count b : Int) + 1) - 1)) (iX rfl rfl intV_subA) (Ch.s (dI (((u.count b : Int) + 1) - 1)) pa (Ch.nil ?_))))))
 refine Ts hc (Ch.s (dI 0) pa (Ch.nil (Tq (Tb ?_))))
 refine T_loop (ι := List (List UInt8) × List UInt8) (fun q => { n := 66, sl := [(0, (dS q.2)), (1, (dS ([b]))), (2, (dI 0)), (3, (dI (((u.count b : Int) + 1) - 1))), (9, (.row 9)), (10, (dI (q.1.length : Int)))], hp := [(9, (some (.row 1 ((padS q.1 (u.count b + 1)).map D.str))))], pin := [] }) (fun q => SplI u b q ∧ q.1.length ≤ u.count b) (fun q => u.count b - q.1.length) ⟨([], u), ⟨⟨rfl, by simp, Nat.le_refl _⟩, Nat.zero_le _⟩, (Wk.ren [(9, 31000)] rfl rfl rfl rfl (ai (vS (by rfl)) (ar (ar (ar (ar (ai (vI (by first | rfl | (simp; done))) trivial)))))) (ai (oR a48) trivial))⟩ (fun q hp0 => ?_)
 have hpl := padS_len (l := q.1) (n := u.count b + 1) (by omega); have hpq := hp0.1.2.2; have hsz := indexByte_le q.2 b
 refine Tq (Ts hc (Ch.s (dI (q.1.length : Int)) pm (Ch.s (dI (((u.count b : Int) + 1) - 1)) pm (Ch.s (dB (decide ((q.1.length : Int) < (((u.count b : Int) + 1) - 1)))) (iX rfl rfl rfl) (Ch.nil ?_)))))
 refine T_condD (p := ((q.1.length : Int) < (((u.count b : Int) + 1) - 1))) rfl (fun h1 => ?_) (fun h1 => ?_)
 ·
  refine Tk (Tb (Ts hc (Ch.s (dS q.2) pm (Ch.s (dS ([b])) pm (Ch.s (dI (Lib.indexByte q.2 b)) (.call 39000 64 _ _ _ en64 rfl (.inl rfl) (.cons (.d _) (.cons (.d _) .nil)) rfl rfl (sp_idx2 q.2 b) (.skip _ _ (.skip _ _ .nil)) rfl) (Ch.s (dI (Lib.indexByte q.2 b)) pa ?_))))))
  refine Ch.nil (Tq (Ts hc (Ch.s (dI (Lib.indexByte q.2 b)) pm (Ch.s (dB (decide ((Lib.indexByte q.2 b) < 0))) (iX rfl rfl rfl) (Ch.nil ?_)))))
  refine T_condD (p := ((Lib.indexByte q.2 b) < 0)) rfl (fun h2 => ?_) (fun h2 => ?_)
  ·
   try have hy := splB_yes h2
   refine T_exit (Ts hc (Ch.s (.row 9) pm (Ch.s (dI (q.1.length : Int)) pm (Ch.s (dS q.2) pm (Ch.s (.el 9 1 q.1.length 0) (.pure (.idxRow _ _ _ 9 (q.1.length) rfl Tryz.underlying37 sz9 rfl rfl rfl rfl a52)) (Ch.s .junk (.storeEl (y' := (.str q.2)) _ _ _ rfl rfl rfl (.d _) rfl sz9 rfl get_mapA rfl rfl) ?_))))))
   refine Ch.nil (Ts hc (Ch.s (.row 9) pm (Ch.s (dI (q.1.length : Int)) pm (Ch.s (dI ((q.1.length : Int) + 1)) (iX rfl rfl intV_addA) (Ch.s (.row 65000) (.cut 65000 _ _ _ 9 ((q.1.length + 1)) rfl Tryz.underlying37 sz9 rfl rfl (bndS rfl (by omega)) a26 rfl) (Ch.s (.row 65000) pa ?_))))))
   refine Ch.nil (T_ret ?_)
   exact eR [(.row 65000)] [] [65000] (.cons (.tmp 8 rfl) .nil) (.cons (.any _) eC) (Exp.of (congrArg (D.slice true 1) a51) (.row rfl))
  ·
   try have hy := splB_yes h2
   refine Tk (Ts hc (Ch.s (.row 9) pm (Ch.s (dI (q.1.length : Int)) pm (Ch.s (dS q.2) pm (Ch.s (dI (Lib.indexByte q.2 b)) pm (Ch.s (dI 0) pm ?_))))))
   refine Ch.s (dI ((Lib.indexByte q.2 b) + 0)) (iX rfl rfl intV_addA) (Ch.s (dS (q.2.take ((((Lib.indexByte q.2 b) + 0)).toNat))) (.pure (.sliceStr _ _ _ _ (0) ((((Lib.indexByte q.2 b) + 0)).toNat) rfl Tryz.underlying9 rfl (bndN rfl) (bndS rfl (by omega)) a26 a26 (by simp))) (Ch.s (.el 9 1 q.1.length 0) (.pure (.idxRow _ _ _ 9 (q.1.length) rfl Tryz.underlying37 sz9 rfl rfl rfl rfl a52)) (Ch.s .junk (.storeEl (y' := (.str (q.2.take ((((Lib.indexByte q.2 b) + 0)).toNat)))) _ _ _ rfl rfl rfl (.d _) rfl sz9 rfl get_mapA rfl rfl) (Ch.nil (Ts hc (Ch.s (dS q.2) pm ?_))))))
   refine Ch.s (dI (Lib.indexByte q.2 b)) pm (Ch.s (dS ([b])) pm (Ch.s (dI 1) (.pure (.lenStr (s := ([b])) _ _ rfl Tryz.underlying9 rfl)) (Ch.s (dI ((Lib.indexByte q.2 b) + 1)) (iX rfl rfl intV_addA) (Ch.s (dS (q.2.drop ((((Lib.indexByte q.2 b) + 1)).toNat))) (.pure (.sliceStr _ _ _ _ ((((Lib.indexByte q.2 b) + 1)).toNat) (q.2.length) rfl Tryz.underlying9 rfl (bndS rfl (by omega)) (bndN rfl) a26 a26 (by simp))) (Ch.s (dS (q.2.drop ((((Lib.indexByte q.2 b) + 1)).toNat))) pa (Ch.nil (Tz hc ?_)))))))
   refine Ch.s (dI (q.1.length : Int)) pm (Ch.s (dI ((q.1.length : Int) + 1)) (iX rfl rfl intV_addA) (Ch.s (dI ((q.1.length : Int) + 1)) pa (Ch.nil ?_)))
   refine Exists.intro ((q.1 ++ [q.2.take (Lib.indexByte q.2 b + 0).toNat], q.2.drop (Lib.indexByte q.2 b + 1).toNat)) (And.intro ⟨hp0.1.step (by assumption), by dsimp only; rw [List.length_append]; simp only [List.length_cons, List.length_nil]; omega⟩ (And.intro (by dsimp only; rw [List.length_append]; simp only [List.length_cons, List.length_nil]; omega) (Wk.of rfl rfl (ai (vS (by rfl)) (ar (ar (ar (ar (ai (vI (by first | rfl | (simp; done))) trivial)))))) (ai (oR a48) trivial))))
 ·
  refine T_exit (Ts hc (Ch.s (.row 9) pm (Ch.s (dI (q.1.length : Int)) pm (Ch.s (dS q.2) pm (Ch.s (.el 9 1 q.1.length 0) (.pure (.idxRow _ _ _ 9 (q.1.length) rfl Tryz.underlying37 sz9 rfl rfl rfl rfl a52)) (Ch.s .junk (.storeEl (y' := (.str q.2)) _ _ _ rfl rfl rfl (.d _) rfl sz9 rfl get_mapA rfl rfl) ?_))))))
  refine Ch.nil (Ts hc (Ch.s (.row 9) pm (Ch.s (dI (q.1.length : Int)) pm (Ch.s (dI ((q.1.length : Int) + 1)) (iX rfl rfl intV_addA) (Ch.s (.row 65000) (.cut 65000 _ _ _ 9 ((q.1.length + 1)) rfl Tryz.underlying37 sz9 rfl rfl (bndS rfl (by omega)) a26 rfl) (Ch.s (.row 65000) pa ?_))))))
  refine Ch.nil (T_ret ?_)
  exact eR [(.row 65000)] [] [65000] (.cons (.tmp 8 rfl) .nil) (.cons (.any _) eC) (Exp.of (congrArg (D.slice true 1) a51) (.row rfl))

theorem sp_strings_Split (u : List UInt8) (b : UInt8) (hu : u.length ≤ 1048576) : Sp Tryz.prog 16 [(.str u), (.str ([b]))] [.any, .any] (.slice true 1 ((splB u b).map D.str)) := by
 refine Sp_intro (lend := true) Tryz.func16 rfl rfl rfl (fun _ => rfl) (fun c hc hX => ?_)
 refine Ts hc (Ch.s (.c (.slice none 0 0)) pa (Ch.nil (Ts hc (Ch.s (dS u) pm (Ch.s (dS ([b])) pm ?_)))))
 refine Ch.step (v := (.row 7000)) rfl (.call 7000 41 _ _ _ en41 rfl (.inl rfl) (.cons (.d _) (.cons (.d _) (.cons (.d _) (.cons (.d _) .nil)))) rfl (sol (solid_row (fun _ => rfl) _) rfl) (sp_strings_genSplit u b a7) (.skip _ _ (.skip _ _ (.skip _ _ (.skip _ _ .nil)))) rfl) rfl rfl ?_
 refine Ch.s (.row 7000) pa (Ch.nil (T_ret ?_))
 exact eR [(.row 7000)] [] [7000] (.cons (.tmp 4 rfl) .nil) eB (.row rfl)

theorem sp_spec_l1Split (u : List UInt8) (b : UInt8) (hu : u.length ≤ 1048576) : Sp Tryz.prog 9 [(.str u), (.int .u8 (b.toNat : Int))] [.any, .any] (.slice true 1 ((splB u b).map D.str)) := by
 refine Sp_intro (lend := true) Tryz.func9 rfl rfl rfl (fun _ => rfl) (fun c hc hX => ?_)
 refine Ts hc (Ch.s (.c (.slice none 0 0)) pa (Ch.nil (Ts hc (Ch.s (.c (.slice none 0 0)) pa (Ch.nil ?_)))))
 refine Ts hc (Ch.s (dI 0) pa (Ch.nil (Tq (Ts hc (Ch.s (dI 0) pa ?_)))))
 refine Ch.nil (Tb ?_)
 refine T_loop (ι := (List (List UInt8) × Nat) × Nat) (fun q => { n := 34, sl := [(0, (dS u)), (1, (.d (.int .u8 (b.toNat : Int)))), (5, (.row 5)), (6, (dI (q.1.2 : Int))), (7, (dI (q.2 : Int)))], hp := [(5, (some (.row 1 (q.1.1.map D.str))))], pin := [] }) (fun q => SplL u b q.1 q.2) (fun q => u.length - q.2) ⟨(([], 0), 0), (SplL.init u b), (Wk.trans (Wk.nilrow 5 900005 1 rfl rfl rfl) (Wk.ren [(5, 900005)] rfl rfl rfl rfl (ar (ar (ar (ai (vI a87) (ai (vI a87) trivial))))) (ai (oR a87) trivial)))⟩ (fun q hp0 => ?_)
 have hq1 := hp0.1; have hq2 := hp0.2.1; have hq5 := hp0.2.2.2.2
 refine Tq (Ts hc (Ch.s (dI (q.2 : Int)) pm (Ch.s (dS u) pm (Ch.s (dI (u.length : Int)) (.pure (.lenStr _ _ rfl Tryz.underlying9 rfl)) (Ch.s (dB (decide ((q.2 : Int) < (u.length : Int)))) (iX rfl rfl rfl) (Ch.nil ?_))))))
 refine T_condD (p := ((q.2 : Int) < (u.length : Int))) rfl (fun h1 => ?_) (fun h1 => ?_)
 ·
  refine Tk (Tq (Tb (Ts hc (Ch.s (dS u) pm (Ch.s (dI (q.2 : Int)) pm (Ch.s (.d (.int .u8 ((u.getD q.2 0).toNat : Int))) (.pure (.idxStr _ _ _ (q.2) rfl Tryz.underlying9 rfl rfl rfl get_strA)) ?_))))))
  refine Ch.s (.d (.int .u8 (b.toNat : Int))) pm (Ch.s (dB (decide (((u.getD q.2 0) : UInt8) = b))) (iX rfl rfl (u8_eql ((u.getD q.2 0) : UInt8) b rfl rfl)) (Ch.nil ?_))
  refine T_condD (p := (((u.getD q.2 0) : UInt8) = b)) rfl (fun h2 => ?_) (fun h2 => ?_)
  ·
   refine Ts hc (Ch.s (.row 5) pm (Ch.s (dS u) pm (Ch.s (dI (q.1.2 : Int)) pm (Ch.s (dI (q.2 : Int)) pm (Ch.s (dS ((u.take q.2).drop q.1.2)) (.pure (.sliceStr _ _ _ _ (q.1.2) (q.2) rfl Tryz.underlying9 rfl (bndS rfl rfl) (bndS rfl rfl) a26 a26 rfl)) (Ch.s (.row 24000) (.slice 24000 _ 9 _ rfl sty37 (xs := [.tmp 23]) rfl rfl (.cons (.d _) .nil) rfl rfl (by decide)) ?_))))))
   refine Ch.step (v := (.row 25000)) rfl (.append 25000 _ _ _ 9 rfl sty37 (by decide) (.rowK rfl) (.inr ⟨_, rfl, rfl⟩) (.row rfl rfl) rfl a30) rfl rfl ?_
   refine Ch.s (.row 25000) pa (Ch.nil (Tz hc (Ch.s (dI (q.2 : Int)) pm (Ch.s (dI ((q.2 : Int) + 1)) (iX rfl rfl intV_addA) (Ch.s (dI ((q.2 : Int) + 1)) pa (Ch.nil (Tz hc ?_)))))))
   refine Ch.s (dI (q.2 : Int)) pm (Ch.s (dI ((q.2 : Int) + 1)) (iX rfl rfl intV_addA) (Ch.s (dI ((q.2 : Int) + 1)) pa (Ch.nil ?_)))
   refine Exists.intro (((q.1.1 ++ [(u.take q.2).drop q.1.2], q.2 + 1), q.2 + 1)) (And.intro a47 (And.intro (by dsimp only; omega) (Wk.ren [(5, 25000)] rfl rfl rfl rfl (ar (ar (ar (ai (vI a87) (ai (vI a87) trivial))))) (ai (oR a87) trivial))))
  ·
   refine Tk (Tz hc (Ch.s (dI (q.2 : Int)) pm (Ch.s (dI ((q.2 : Int) + 1)) (iX rfl rfl intV_addA) (Ch.s (dI ((q.2 : Int) + 1)) pa (Ch.nil ?_)))))
   refine Exists.intro ((q.1, q.2 + 1)) (And.intro a47 (And.intro (by dsimp only; omega) (Wk.of rfl rfl (ar (ar (ar (ai (vI a87) (ai (vI a87) trivial))))) (ai (oR a87) trivial))))
 ·
  refine T_exit (Ts hc (Ch.s (.row 5) pm (Ch.s (dS u) pm (Ch.s (dI (q.1.2 : Int)) pm (Ch.s (dS (u.drop q.1.2)) (.pure (.sliceStr _ _ _ _ (q.1.2) (u.length) rfl Tryz.underlying9 rfl (bndS rfl rfl) (bndN rfl) a26 a26 (by simp))) (Ch.s (.row 32000) (.slice 32000 _ 9 _ rfl sty37 (xs := [.tmp 31]) rfl rfl (.cons (.d _) .nil) rfl rfl (by decide)) ?_))))))
  refine Ch.step (v := (.row 33000)) rfl (.append 33000 _ _ _ 9 rfl sty37 (by decide) (.rowK rfl) (.inr ⟨_, rfl, rfl⟩) (.row rfl rfl) rfl a30) rfl rfl ?_
  refine Ch.s (.row 33000) pa (Ch.nil (T_ret ?_))
  exact eR [(.row 33000)] [] [33000] (.cons (.tmp 4 rfl) .nil) eB (Exp.of (congrArg (D.slice true 1) (by first | (exact congrArg (List.map D.str) (hp0.last (by omega))) | (rw [← hp0.last (by omega), List.map_append]; rfl))) (.row rfl))

theorem sp_stringslite_HasPrefix (u p : List UInt8) (hu : u.length ≤ 1048576) (hp : p.length ≤ 1048576) : Sp Tryz.prog 79 [(.str u), (.str p)] [.any, .any] (.bool (preB u p)) := by
 refine Sp_intro (lend := true) Tryz.func79 rfl rfl rfl (fun _ => rfl) (fun c hc hX => ?_)
 refine Ts hc (Ch.s (dB false) pa (Ch.nil (Ts hc (Ch.s (dS u) pm (Ch.s (dI (u.length : Int)) (.pure (.lenStr _ _ rfl Tryz.underlying9 rfl)) ?_)))))
 refine Ch.s (dS p) pm (Ch.s (dI (p.length : Int)) (.pure (.lenStr _ _ rfl Tryz.underlying9 rfl)) (Ch.s (dB (decide ((p.length : Int) ≤ (u.length : Int)))) (iX rfl rfl rfl) (Ch.s (dB (decide ((p.length : Int) ≤ (u.length : Int)))) pm ?_)))
 cases h1 : (decide ((p.length : Int) ≤ (u.length : Int))) with
 | true =>
  replace h1 := odt h1
  refine Ch.s (dS u) pm (Ch.s (dS p) pm (Ch.s (dI (p.length : Int)) (.pure (.lenStr _ _ rfl Tryz.underlying9 rfl)) (Ch.s (dS (u.take p.length)) (.pure (.sliceStr _ _ _ _ (0) (p.length) rfl Tryz.underlying9 rfl (bndN rfl) (bndS rfl rfl) a26 a26 (by simp))) (Ch.s (dS p) pm (Ch.s (dB (decide ((u.take p.length) = p))) (.pure (.str _ _ _ _ _ rfl rfl rfl rfl)) (Ch.s (dB (decide ((u.take p.length) = p))) (pT rfl) (Ch.s (dB (decide ((u.take p.length) = p))) pa ?_)))))))
  refine Ch.nil (T_ret ?_)
  exact eR [(dB (decide ((u.take p.length) = p)))] [] [] (.cons (.tmp 4 rfl) .nil) eB (Exp.of (congrArg D.bool a36) (.d _))
 | false =>
  replace h1 := odf h1
  refine Ck (Ck (Ck (Ck (Ck (Ck (Ch.s (dB false) (pF rfl) (Ch.s (dB false) pa ?_)))))))
  refine Ch.nil (T_ret ?_)
  exact eR [(dB false)] [] [] (.cons (.tmp 4 rfl) .nil) eB (Exp.of (congrArg D.bool a36) (.d _))

theorem sp_cutP1 (u p : List UInt8) (hu : u.length ≤ 1048576) (hp : p.length ≤ 1048576) : Sp Tryz.prog 61 [(.str u), (.str p)] [.any, .any] (.tup [(.str (cutP u p)), (.bool (preB u p))]) := by
 refine Sp_intro (lend := true) Tryz.func61 rfl rfl rfl (fun _ => rfl) (fun c hc hX => ?_)
 refine Ts hc (Ch.s (dS []) pa (Ch.s (dB false) pa (Ch.nil (Tq (Tq (Tz hc ?_))))))
 refine Ch.s (dS u) pm (Ch.s (dS p) pm (Ch.s (dB (preB u p)) (.call 8000 79 _ _ _ en79 rfl (.inl rfl) (.cons (.d _) (.cons (.d _) .nil)) rfl rfl (sp_stringslite_HasPrefix u p a7 a7) (.skip _ _ (.skip _ _ .nil)) rfl) (Ch.s (dB (!(preB u p))) (nT rfl) (Ch.nil ?_))))
 refine T_condN (b := (preB u p)) rfl (fun h1 => ?_) (fun h1 => ?_)
 ·
  try have hpl := preB_len h1
  refine Ts hc (Ch.s (dS u) pm (Ch.s (dS u) pa (Ch.s (dB false) pa (Ch.nil (T_ret ?_)))))
  exact eR [(dS u), (dB false)] [] [] (.cons (.tmp 4 rfl) (.cons (.tmp 5 rfl) .nil)) eB (.tup (.cons (Exp.of (congrArg D.str a45) (.d _)) (.cons (Exp.of (congrArg D.bool a45) (.d _)) .nil)))
 ·
  try have hpl := preB_len h1
  refine Tk (Ts hc (Ch.s (dS u) pm (Ch.s (dS p) pm (Ch.s (dI (p.length : Int)) (.pure (.lenStr _ _ rfl Tryz.underlying9 rfl)) (Ch.s (dS (u.drop p.length)) (.pure (.sliceStr _ _ _ _ (p.length) (u.length) rfl Tryz.underlying9 rfl (bndS rfl rfl) (bndN rfl) a26 a26 (by simp))) (Ch.s (dS (u.drop p.length)) pa ?_))))))
  refine Ch.s (dB true) pa (Ch.nil (T_ret ?_))
  exact eR [(dS (u.drop p.length)), (dB true)] [] [] (.cons (.tmp 4 rfl) (.cons (.tmp 5 rfl) .nil)) eB (.tup (.cons (Exp.of (congrArg D.str a45) (.d _)) (.cons (Exp.of (congrArg D.bool a45) (.d _)) .nil)))

theorem sp_cutP2 (u p : List UInt8) (hu : u.length ≤ 1048576) (hp : p.length ≤ 1048576) : Sp Tryz.prog 40 [(.str u), (.str p)] [.any, .any] (.tup [(.str (cutP u p)), (.bool (preB u p))]) := by
 refine Sp_intro (lend := true) Tryz.func40 rfl rfl rfl (fun _ => rfl) (fun c hc hX => ?_)
 refine Ts hc (Ch.s (dS []) pa (Ch.s (dB false) pa (Ch.nil (Ts hc (Ch.s (dS u) pm ?_)))))
 refine Ch.s (dS p) pm (Ch.s (.tup [(dS (cutP u p)), (dB (preB u p))]) (.call 8000 61 _ _ _ en61 rfl (.inl rfl) (.cons (.d _) (.cons (.d _) .nil)) rfl rfl (sp_cutP1 u p a7 a7) (.skip _ _ (.skip _ _ .nil)) rfl) (Ch.s (dS (cutP u p)) (xT rfl rfl) (Ch.s (dB (preB u p)) (xT rfl rfl) (Ch.s (dS (cutP u p)) pa (Ch.s (dB (preB u p)) pa (Ch.nil (T_ret ?_)))))))
 exact eR [(dS (cutP u p)), (dB (preB u p))] [] [] (.cons (.tmp 4 rfl) (.cons (.tmp 5 rfl) .nil)) eB (.tup (.cons (.d _) (.cons (.d _) .nil)))

theorem sp_sfx1 (u : List UInt8) (hu : u.length ≤ 1048576) : Sp Tryz.prog 39 [(.str u), (.str ([10]))] [.any, .any] (.bool (endL u)) := by
 refine Sp_intro (lend := true) Tryz.func39 rfl rfl rfl (fun _ => rfl) (fun c hc hX => ?_)
 refine Ts hc (Ch.s (dB false) pa (Ch.nil (Ts hc (Ch.s (dS u) pm (Ch.s (dI (u.length : Int)) (.pure (.lenStr _ _ rfl Tryz.underlying9 rfl)) ?_)))))
 refine Ch.s (dS ([10])) pm (Ch.s (dI 1) (.pure (.lenStr (s := ([10])) _ _ rfl Tryz.underlying9 rfl)) (Ch.s (dB (decide (1 ≤ (u.length : Int)))) (iX rfl rfl rfl) (Ch.s (dB (decide (1 ≤ (u.length : Int)))) pm ?_)))
 cases h1 : (decide (1 ≤ (u.length : Int))) with
 | true =>
  replace h1 := odt h1
  refine Ch.s (dS u) pm (Ch.s (dS u) pm (Ch.s (dI (u.length : Int)) (.pure (.lenStr _ _ rfl Tryz.underlying9 rfl)) (Ch.s (dS ([10])) pm (Ch.s (dI 1) (.pure (.lenStr (s := ([10])) _ _ rfl Tryz.underlying9 rfl)) (Ch.s (dI ((u.length : Int) - 1)) (iX rfl rfl intV_subA) (Ch.s (dS (u.drop (u.length - 1))) (.pure (.sliceStr _ _ _ _ ((u.length - 1)) (u.length) rfl Tryz.underlying9 rfl (bndS rfl (by omega)) (bndN rfl) a26 a26 (by simp))) (Ch.s (dS ([10])) pm ?_)))))))
  refine Ch.s (dB (decide ((u.drop (u.length - 1)) = ([10])))) (.pure (.str _ _ _ _ _ rfl rfl rfl rfl)) (Ch.s (dB (decide ((u.drop (u.length - 1)) = ([10])))) (pT rfl) (Ch.s (dB (decide ((u.drop (u.length - 1)) = ([10])))) pa (Ch.nil (T_ret ?_))))
  exact eR [(dB (decide ((u.drop (u.length - 1)) = ([10]))))] [] [] (.cons (.tmp 4 rfl) .nil) eB (Exp.of (congrArg D.bool a64) (.d _))
 | false =>
  replace h1 := odf h1
  refine Ck (Ck (Ck (Ck (Ck (Ck (Ck (Ch.skip rfl rfl ?_)))))))
  refine Ck (Ch.s (dB false) (pF rfl) (Ch.s (dB false) pa (Ch.nil (T_ret ?_))))
  exact eR [(dB false)] [] [] (.cons (.tmp 4 rfl) .nil) eB (Exp.of (congrArg D.bool a64) (.d _))

theorem sp_sfx2 (u : List UInt8) (hu : u.length ≤ 1048576) : Sp Tryz.prog 14 [(.str u), (.str ([10]))] [.any, .any] (.bool (endL u)) := by
 refine Sp_intro (lend := true) Tryz.func14 rfl rfl rfl (fun _ => rfl) (fun c hc hX => ?_)
 refine Ts hc (Ch.s (dB false) pa (Ch.nil (Ts hc (Ch.s (dS u) pm (Ch.s (dS ([10])) pm ?_)))))
 refine Ch.s (dB (endL u)) (.call 7000 39 _ _ _ en39 rfl (.inl rfl) (.cons (.d _) (.cons (.d _) .nil)) rfl rfl (sp_sfx1 u a7) (.skip _ _ (.skip _ _ .nil)) rfl) (Ch.s (dB (endL u)) pa (Ch.nil (T_ret ?_)))
 exact eR [(dB (endL u))] [] [] (.cons (.tmp 4 rfl) .nil) eB (.d _)

theorem sp_cut1 (u : List UInt8) (b : UInt8) (hu : u.length ≤ 1048576) : Sp Tryz.prog 84 [(.str u), (.str ([b]))] [.any, .any] (.tup [(.str (cutS u b)), .any, .any]) := by
 refine Sp_intro (lend := true) Tryz.func84 rfl rfl rfl (fun _ => rfl) (fun c hc hX => ?_)
 have hsz := indexByte_le u b
 refine Ts hc (Ch.s (dS []) pa (Ch.s (dS []) pa (Ch.s (dB false) pa (Ch.nil (Tq (Tq ?_))))))
 refine Tz hc (Ch.s (dS u) pm (Ch.s (dS ([b])) pm (Ch.s (dI (Lib.indexByte u b)) (.call 10000 83 _ _ _ en83 rfl (.inl rfl) (.cons (.d _) (.cons (.d _) .nil)) rfl rfl (sp_idx1 u b) (.skip _ _ (.skip _ _ .nil)) rfl) (Ch.s (dI (Lib.indexByte u b)) pa (Ch.nil (Tq (Tz hc ?_)))))))
 refine Ch.s (dI (Lib.indexByte u b)) pm (Ch.s (dB (decide (0 ≤ (Lib.indexByte u b)))) (iX rfl rfl rfl) (Ch.nil ?_))
 refine T_condD (p := (0 ≤ (Lib.indexByte u b))) rfl (fun h1 => ?_) (fun h1 => ?_)
 ·
  try have hy := splB_yes (u := u) (b := b) (by omega)
  refine Tq ?_
  refine T_regionD hc (by kernel_rfl) ?_
  refine ChD.s (dS u) [] pm (ChD.s (dI (Lib.indexByte u b)) [] pm (ChD.s (dS (u.take (((Lib.indexByte u b)).toNat))) [] (.pure (.sliceStr _ _ _ _ (0) (((Lib.indexByte u b)).toNat) rfl Tryz.underlying9 rfl (bndN rfl) (bndS rfl (by omega)) a26 a26 (by simp))) (ChD.s (dS u) [] pm (ChD.s (dI (Lib.indexByte u b)) [] pm (ChD.s (dS ([b])) [] pm (ChD.s (dI 1) [] (.pure (.lenStr (s := ([b])) _ _ rfl Tryz.underlying9 rfl)) (ChD.s (dI ((Lib.indexByte u b) + 1)) [] (iX rfl rfl intV_addA) ?_)))))))
  refine ChD.s (dS (u.drop ((((Lib.indexByte u b) + 1)).toNat))) [] (.pure (.sliceStr _ _ _ _ ((((Lib.indexByte u b) + 1)).toNat) (u.length) rfl Tryz.underlying9 rfl (bndS rfl (by omega)) (bndN rfl) a26 a26 (by simp))) (ChD.s (dS (u.take (((Lib.indexByte u b)).toNat))) [] pa (ChD.s (dS (u.drop ((((Lib.indexByte u b) + 1)).toNat))) [] pa (ChD.s (dB true) [] pa ?_)))
  refine ChD.nil (And.intro ?_ (by kernel_rfl))
  refine T_ret ?_
  exact eR [(dS (u.take (((Lib.indexByte u b)).toNat))), (dS (u.drop ((((Lib.indexByte u b) + 1)).toNat))), (dB true)] [] [] (.cons (.tmp 4 rfl) (.cons (.tmp 5 rfl) (.cons (.tmp 6 rfl) .nil))) eB (.tup (.cons (Exp.of (congrArg D.str a57) (.d _)) eB))
 ·
  try have hy := splB_yes (u := u) (b := b) (by omega)
  refine Tk (Ts hc (Ch.s (dS u) pm (Ch.s (dS u) pa (Ch.s (dS []) pa (Ch.s (dB false) pa (Ch.nil ?_))))))
  refine T_ret ?_
  exact eR [(dS u), (dS []), (dB false)] [] [] (.cons (.tmp 4 rfl) (.cons (.tmp 5 rfl) (.cons (.tmp 6 rfl) .nil))) eB (.tup (.cons (Exp.of (congrArg D.str a57) (.d _)) eB))

theorem sp_cut2 (u : List UInt8) (b : UInt8) (hu : u.length ≤ 1048576) : Sp Tryz.prog 66 [(.str u), (.str ([b]))] [.any, .any] (.tup [(.str (cutS u b)), .any, .any]) := by
 refine Sp_intro (lend := true) Tryz.func66 rfl rfl rfl (fun _ => rfl) (fun c hc hX => ?_)
 refine Ts hc (Ch.s (dS []) pa (Ch.s (dS []) pa (Ch.s (dB false) pa (Ch.nil (Tq (Tz hc ?_))))))
 refine Ch.s (dS u) pm (Ch.s (dS ([b])) pm (Ch.s (.tup [(dS (cutS u b)), .junk, .junk]) (.call 9000 84 _ _ _ en84 rfl (.inl rfl) (.cons (.d _) (.cons (.d _) .nil)) rfl rfl (sp_cut1 u b a7) (.skip _ _ (.skip _ _ .nil)) rfl) (Ch.s (dS (cutS u b)) (xT rfl rfl) (Ch.s .junk (xT rfl rfl) (Ch.s .junk (xT rfl rfl) (Ch.s (dS (cutS u b)) pa (Ch.s .junk pa ?_)))))))
 refine Ch.s .junk pa (Ch.nil (T_ret ?_))
 exact eR [(dS (cutS u b)), .junk, .junk] [] [] (.cons (.tmp 4 rfl) (.cons (.tmp 5 rfl) (.cons (.tmp 6 rfl) .nil))) eB (.tup (.cons (.d _) eB))

theorem sp_strconv_small (n : Nat) (hn : n < 100) : Sp Tryz.prog 112 [(.int .i64 (n : Int))] [.any] (.str (numS n)) := by
 refine Sp_intro (lend := true) Tryz.func112 rfl rfl rfl (fun _ => rfl) (fun c hc hX => ?_)
 refine Ts hc (Ch.s (dS []) pa (Ch.nil (Tq (Ts hc (Ch.s (dI (n : Int)) pm ?_)))))
 refine Ch.s (dB (decide ((n : Int) < 10))) (iX rfl rfl rfl) (Ch.nil ?_)
 refine T_condD (p := ((n : Int) < 10)) rfl (fun h1 => ?_) (fun h1 => ?_)
 ·
  refine Ts hc (Ch.s (dI (n : Int)) pm (Ch.s (dI (n : Int)) pm (Ch.s (dI ((n : Int) + 1)) (iX rfl rfl (intV_add a43 a43)) (Ch.s (dS [[48, 49, 50, 51, 52, 53, 54, 55, 56, 57, 97, 98, 99, 100, 101, 102, 103, 104, 105, 106, 107, 108, 109, 110, 111, 112, 113, 114, 115, 116, 117, 118, 119, 120, 121, 122].getD n 0]) (.pure (.sliceStr _ _ _ _ (n) ((n + 1)) rfl Tryz.underlying9 rfl (bndS rfl rfl) (bndS rfl (by omega)) a43 a43 (slice_one a43))) (Ch.s (dS [[48, 49, 50, 51, 52, 53, 54, 55, 56, 57, 97, 98, 99, 100, 101, 102, 103, 104, 105, 106, 107, 108, 109, 110, 111, 112, 113, 114, 115, 116, 117, 118, 119, 120, 121, 122].getD n 0]) pa (Ch.nil ?_))))))
  refine T_ret ?_
  exact eR [(dS [[48, 49, 50, 51, 52, 53, 54, 55, 56, 57, 97, 98, 99, 100, 101, 102, 103, 104, 105, 106, 107, 108, 109, 110, 111, 112, 113, 114, 115, 116, 117, 118, 119, 120, 121, 122].getD n 0])] [] [] (.cons (.tmp 2 rfl) .nil) eA (Exp.of (congrArg D.str a70) (.d _))
 ·
  refine Tk (Ts hc (Ch.s (dI (n : Int)) pm (Ch.s (dI ((n : Int) * 2)) (iX rfl rfl (intV_mul a43 a43)) (Ch.s (dI (n : Int)) pm (Ch.s (dI ((n : Int) * 2)) (iX rfl rfl (intV_mul a43 a43)) (Ch.s (dI (((n : Int) * 2) + 2)) (iX rfl rfl (intV_add a43 a43)) ?_))))))
  refine Ch.s (dS (([48, 48, 48, 49, 48, 50, 48, 51, 48, 52, 48, 53, 48, 54, 48, 55, 48, 56, 48, 57, 49, 48, 49, 49, 49, 50, 49, 51, 49, 52, 49, 53, 49, 54, 49, 55, 49, 56, 49, 57, 50, 48, 50, 49, 50, 50, 50, 51, 50, 52, 50, 53, 50, 54, 50, 55, 50, 56, 50, 57, 51, 48, 51, 49, 51, 50, 51, 51, 51, 52, 51, 53, 51, 54, 51, 55, 51, 56, 51, 57, 52, 48, 52, 49, 52, 50, 52, 51, 52, 52, 52, 53, 52, 54, 52, 55, 52, 56, 52, 57, 53, 48, 53, 49, 53, 50, 53, 51, 53, 52, 53, 53, 53, 54, 53, 55, 53, 56, 53, 57, 54, 48, 54, 49, 54, 50, 54, 51, 54, 52, 54, 53, 54, 54, 54, 55, 54, 56, 54, 57, 55, 48, 55, 49, 55, 50, 55, 51, 55, 52, 55, 53, 55, 54, 55, 55, 55, 56, 55, 57, 56, 48, 56, 49, 56, 50, 56, 51, 56, 52, 56, 53, 56, 54, 56, 55, 56, 56, 56, 57, 57, 48, 57, 49, 57, 50, 57, 51, 57, 52, 57, 53, 57, 54, 57, 55, 57, 56, 57, 57].take (((((n : Int) * 2) + 2)).toNat)).drop ((((n : Int) * 2)).toNat))) (.pure (.sliceStr _ _ _ _ ((((n : Int) * 2)).toNat) (((((n : Int) * 2) + 2)).toNat) rfl Tryz.underlying9 rfl (bndS rfl (by omega)) (bndS rfl (by omega)) a43 a43 rfl)) (Ch.s (dS (([48, 48, 48, 49, 48, 50, 48, 51, 48, 52, 48, 53, 48, 54, 48, 55, 48, 56, 48, 57, 49, 48, 49, 49, 49, 50, 49, 51, 49, 52, 49, 53, 49, 54, 49, 55, 49, 56, 49, 57, 50, 48, 50, 49, 50, 50, 50, 51, 50, 52, 50, 53, 50, 54, 50, 55, 50, 56, 50, 57, 51, 48, 51, 49, 51, 50, 51, 51, 51, 52, 51, 53, 51, 54, 51, 55, 51, 56, 51, 57, 52, 48, 52, 49, 52, 50, 52, 51, 52, 52, 52, 53, 52, 54, 52, 55, 52, 56, 52, 57, 53, 48, 53, 49, 53, 50, 53, 51, 53, 52, 53, 53, 53, 54, 53, 55, 53, 56, 53, 57, 54, 48, 54, 49, 54, 50, 54, 51, 54, 52, 54, 53, 54, 54, 54, 55, 54, 56, 54, 57, 55, 48, 55, 49, 55, 50, 55, 51, 55, 52, 55, 53, 55, 54, 55, 55, 55, 56, 55, 57, 56, 48, 56, 49, 56, 50, 56, 51, 56, 52, 56, 53, 56, 54, 56, 55, 56, 56, 56, 57, 57, 48, 57, 49, 57, 50, 57, 51, 57, 52, 57, 53, 57, 54, 57, 55, 57, 56, 57, 57].take (((((n : Int) * 2) + 2)).toNat)).drop ((((n : Int) * 2)).toNat))) pa (Ch.nil (T_ret ?_)))
  exact eR [(dS (([48, 48, 48, 49, 48, 50, 48, 51, 48, 52, 48, 53, 48, 54, 48, 55, 48, 56, 48, 57, 49, 48, 49, 49, 49, 50, 49, 51, 49, 52, 49, 53, 49, 54, 49, 55, 49, 56, 49, 57, 50, 48, 50, 49, 50, 50, 50, 51, 50, 52, 50, 53, 50, 54, 50, 55, 50, 56, 50, 57, 51, 48, 51, 49, 51, 50, 51, 51, 51, 52, 51, 53, 51, 54, 51, 55, 51, 56, 51, 57, 52, 48, 52, 49, 52, 50, 52, 51, 52, 52, 52, 53, 52, 54, 52, 55, 52, 56, 52, 57, 53, 48, 53, 49, 53, 50, 53, 51, 53, 52, 53, 53, 53, 54, 53, 55, 53, 56, 53, 57, 54, 48, 54, 49, 54, 50, 54, 51, 54, 52, 54, 53, 54, 54, 54, 55, 54, 56, 54, 57, 55, 48, 55, 49, 55, 50, 55, 51, 55, 52, 55, 53, 55, 54, 55, 55, 55, 56, 55, 57, 56, 48, 56, 49, 56, 50, 56, 51, 56, 52, 56, 53, 56, 54, 56, 55, 56, 56, 56, 57, 57, 48, 57, 49, 57, 50, 57, 51, 57, 52, 57, 53, 57, 54, 57, 55, 57, 56, 57, 57].take (((((n : Int) * 2) + 2)).toNat)).drop ((((n : Int) * 2)).toNat)))] [] [] (.cons (.tmp 2 rfl) .nil) eA (Exp.of (congrArg D.str a70) (.d _))

theorem sp_strconv_FormatInt (n : Nat) (hn : n < 100) : Sp Tryz.prog 106 [(.int .i64 (n : Int)), (.int .i64 10)] [.any, .any] (.str (numS n)) := by
 refine Sp_intro (lend := true) Tryz.func106 rfl rfl rfl (fun _ => rfl) (fun c hc hX => ?_)
 refine Ts hc (Ch.s (dS []) pa (Ch.nil (Tq (Ts hc (Ch.s (dI 10) pm ?_)))))
 refine Ch.s (dB true) (iX rfl rfl rfl) (Ch.nil ?_)
 refine T_cond (b := true) rfl (fun _ => ?_) (fun h => nomatch h)
 refine Tq (Ts hc (Ch.s (dI (n : Int)) pm (Ch.s (dB (decide (0 ≤ (n : Int)))) (iX rfl rfl rfl) (Ch.s (dB (decide (0 ≤ (n : Int)))) pm ?_))))
 cases h1 : (decide (0 ≤ (n : Int))) with
 | true =>
  replace h1 := odt h1
  refine Ch.s (dI (n : Int)) pm (Ch.s (dB (decide ((n : Int) < 100))) (iX rfl rfl rfl) (Ch.s (dB (decide ((n : Int) < 100))) (pT rfl) (Ch.nil ?_)))
  refine T_condD (p := ((n : Int) < 100)) rfl (fun h2 => ?_) (fun h2 => ?_)
  ·
   refine Ts hc (Ch.s (dI (n : Int)) pm (Ch.s (dS (numS n)) (.call 19000 112 _ _ _ en112 rfl (.inl rfl) (.cons (.d _) .nil) rfl rfl (sp_strconv_small n a7) (.skip _ _ .nil) rfl) (Ch.s (dS (numS n)) pa (Ch.nil (T_ret ?_)))))
   exact eR [(dS (numS n))] [] [] (.cons (.tmp 4 rfl) .nil) eB (.d _)
  ·
   refine Tk (Tq ?_)
   exfalso; omega
 | false =>
  replace h1 := odf h1
  refine Ck (Ck (Ch.s (dB false) (pF rfl) (Ch.nil ?_)))
  refine T_cond (b := false) rfl (fun h => nomatch h) (fun _ => ?_)
  refine Tk (Tq ?_)
  exfalso; omega

theorem sp_itoa1 (n : Nat) (hn : n < 100) : Sp Tryz.prog 91 [(.int .i64 (n : Int))] [.any] (.str (numS n)) := by
 refine Sp_intro (lend := true) Tryz.func91 rfl rfl rfl (fun _ => rfl) (fun c hc hX => ?_)
 refine Ts hc (Ch.s (dS []) pa (Ch.nil (Ts hc (Ch.s (dI (n : Int)) pm (Ch.s (dS (numS n)) (.call 4000 106 _ _ _ en106 rfl (.inl rfl) (.cons (.d _) (.cons (.d _) .nil)) rfl rfl (sp_strconv_FormatInt n a7) (.skip _ _ (.skip _ _ .nil)) rfl) ?_)))))
 refine Ch.s (dS (numS n)) pa (Ch.nil (T_ret ?_))
 exact eR [(dS (numS n))] [] [] (.cons (.tmp 2 rfl) .nil) eA (.d _)

theorem sp_itoa2 (n : Nat) (hn : n < 100) : Sp Tryz.prog 73 [(.int .i64 (n : Int))] [.any] (.str (numS n)) := by
 refine Sp_intro (lend := true) Tryz.func73 rfl rfl rfl (fun _ => rfl) (fun c hc hX => ?_)
 refine Ts hc (Ch.s (dS []) pa (Ch.nil (Ts hc (Ch.s (dI (n : Int)) pm (Ch.s (dS (numS n)) (.call 4000 91 _ _ _ en91 rfl (.inl rfl) (.cons (.d _) .nil) rfl rfl (sp_itoa1 n a7) (.skip _ _ .nil) rfl) ?_)))))
 refine Ch.s (dS (numS n)) pa (Ch.nil (T_ret ?_))
 exact eR [(dS (numS n))] [] [] (.cons (.tmp 2 rfl) .nil) eA (.d _)

theorem sp_num1 (n : Nat) (hn : n < 10) : Sp Tryz.prog 31 [(.int .i64 (n : Int))] [.any] (.str (numS n)) := by
 refine Sp_intro (lend := true) Tryz.func31 rfl rfl rfl (fun _ => rfl) (fun c hc hX => ?_)
 refine Ts hc (Ch.s (dS []) pa (Ch.nil (Tq (Ts hc (Ch.s (dI (n : Int)) pm ?_)))))
 refine Ch.s (dB (decide ((n : Int) < 10))) (iX rfl rfl rfl) (Ch.nil ?_)
 refine T_condD (p := ((n : Int) < 10)) rfl (fun h1 => ?_) (fun h1 => ?_)
 ·
  refine Ts hc (Ch.s (dI (n : Int)) pm (Ch.s (dI (48 + (n : Int))) (iX rfl rfl intV_addA) (Ch.s (.d (.int .u8 ((UInt8.ofNat (48 + n)).toNat : Int))) (.pure (EvP.of (convU8 (n := (48 + n)) (by omega) a26) (.convInt _ _ _ rfl (isSome_of Tryz.underlying3) Tryz.underlying5 rfl))) (Ch.s (.row 8000) (.slice 8000 _ 5 _ rfl sty81 (xs := [.tmp 7]) rfl rfl (.cons (.d _) .nil) rfl rfl (by decide)) (Ch.s (dS [(UInt8.ofNat (48 + n))]) (.string (l := [(UInt8.ofNat (48 + n))]) _ _ _ _ rfl Tryz.underlying81 Tryz.underlying5 Tryz.underlying9 a86) (Ch.s (dS [(UInt8.ofNat (48 + n))]) pa ?_))))))
  refine Ch.nil (T_ret ?_)
  exact eR [(dS [(UInt8.ofNat (48 + n))])] [] [] (.cons (.tmp 2 rfl) .nil) eA (Exp.of (congrArg D.str (by rw [numS_lo (by omega)])) (.d _))
 ·
  refine Tk (Tq ?_)
  exfalso; omega

theorem sp_num2 (n : Nat) (hn : n < 100) : Sp Tryz.prog 31 [(.int .i64 (n : Int))] [.any] (.str (numS n)) := by
 refine Sp_intro (lend := true) Tryz.func31 rfl rfl rfl (fun _ => rfl) (fun c hc hX => ?_)
 have hnl := numS_len (n / 10)
 refine Ts hc (Ch.s (dS []) pa (Ch.nil (Tq (Ts hc (Ch.s (dI (n : Int)) pm ?_)))))
 refine Ch.s (dB (decide ((n : Int) < 10))) (iX rfl rfl rfl) (Ch.nil ?_)
 refine T_condD (p := ((n : Int) < 10)) rfl (fun h1 => ?_) (fun h1 => ?_)
 ·
  refine Ts hc (Ch.s (dI (n : Int)) pm (Ch.s (dI (48 + (n : Int))) (iX rfl rfl intV_addA) (Ch.s (.d (.int .u8 ((UInt8.ofNat (48 + n)).toNat : Int))) (.pure (EvP.of (convU8 (n := (48 + n)) (by omega) a26) (.convInt _ _ _ rfl (isSome_of Tryz.underlying3) Tryz.underlying5 rfl))) (Ch.s (.row 8000) (.slice 8000 _ 5 _ rfl sty81 (xs := [.tmp 7]) rfl rfl (.cons (.d _) .nil) rfl rfl (by decide)) (Ch.s (dS [(UInt8.ofNat (48 + n))]) (.string (l := [(UInt8.ofNat (48 + n))]) _ _ _ _ rfl Tryz.underlying81 Tryz.underlying5 Tryz.underlying9 a86) (Ch.s (dS [(UInt8.ofNat (48 + n))]) pa ?_))))))
  refine Ch.nil (T_ret ?_)
  exact eR [(dS [(UInt8.ofNat (48 + n))])] [] [] (.cons (.tmp 2 rfl) .nil) eA (Exp.of (congrArg D.str a61) (.d _))
 ·
  refine Tk (Tq ?_)
  refine T_regionD hc (by kernel_rfl) ?_
  refine ChD.s (dI (n : Int)) [] pm (ChD.s (dI ((n / 10 : Nat) : Int)) [] (iX rfl rfl (quoN (n := n) (d := 10) rfl rfl (by decide) a26)) (ChD.s (dS (numS (n / 10))) [] (.call 12000 31 _ _ _ en31 rfl (.inl rfl) (.cons (.d _) .nil) rfl rfl (sp_num1 (n / 10) a7) (.skip _ _ .nil) rfl) (ChD.s (dI (n : Int)) [] pm (ChD.s (dI ((n % 10 : Nat) : Int)) [] (iX rfl rfl (remN (n := n) (d := 10) rfl rfl (by decide))) (ChD.s (dI (48 + ((n % 10 : Nat) : Int))) [] (iX rfl rfl intV_addA) (ChD.s (.d (.int .u8 ((UInt8.ofNat (48 + n % 10)).toNat : Int))) [] (.pure (EvP.of (convU8 (n := (48 + n % 10)) (by omega) a26) (.convInt _ _ _ rfl (isSome_of Tryz.underlying3) Tryz.underlying5 rfl))) (ChD.s (.row 17000) [] (.slice 17000 _ 5 _ rfl sty81 (xs := [.tmp 16]) rfl rfl (.cons (.d _) .nil) rfl rfl (by decide)) ?_)))))))
  refine ChD.s (dS [(UInt8.ofNat (48 + n % 10))]) [17000] (.string (l := [(UInt8.ofNat (48 + n % 10))]) _ _ _ _ rfl Tryz.underlying81 Tryz.underlying5 Tryz.underlying9 a86) (ChD.s (dS ((numS (n / 10)) ++ [(UInt8.ofNat (48 + n % 10))])) [] (.pure (.str _ _ _ _ _ rfl rfl rfl (strV_add a26))) (ChD.s (dS ((numS (n / 10)) ++ [(UInt8.ofNat (48 + n % 10))])) [] pa ?_))
  refine ChD.nil (And.intro ?_ (by kernel_rfl))
  refine T_ret ?_
  exact eR [(dS ((numS (n / 10)) ++ [(UInt8.ofNat (48 + n % 10))]))] [] [] (.cons (.tmp 2 rfl) .nil) eA (Exp.of (congrArg D.str a61) (.d _))

theorem en74 : Enters Tryz.prog 74 := ⟨_, Tryz.func74, by kernel_rfl, rfl⟩

theorem en78 : Enters Tryz.prog 78 := ⟨_, Tryz.func78, by kernel_rfl, rfl⟩

theorem sz62 : SizeIs Tryz.prog 62 1 := by unfold SizeIs; kernel_rfl

theorem ag62 : AggIs Tryz.prog 62 false := by unfold AggIs; kernel_rfl

theorem fld64_0 : FieldIs Tryz.prog 64 0 0 1 false := FieldIs.mk Tryz.underlying64 rfl rfl sz62 ag62 rfl

theorem fld24_0 : FieldIs Tryz.prog 24 0 0 1 false := FieldIs.mk Tryz.underlying24 rfl rfl sz3 ag3 rfl

theorem en111 : Enters Tryz.prog 111 := ⟨_, Tryz.func111, by kernel_rfl, rfl⟩

theorem fld64_1 : FieldIs Tryz.prog 64 1 1 1 false := FieldIs.mk Tryz.underlying64 rfl rfl sz62 ag62 rfl

theorem sz64 : SizeIs Tryz.prog 64 2 := by unfold SizeIs; kernel_rfl

theorem ag64 : AggIs Tryz.prog 64 true := by unfold AggIs; kernel_rfl

theorem en116 : Enters Tryz.prog 116 := ⟨_, Tryz.func116, by kernel_rfl, rfl⟩

theorem sz22 : SizeIs Tryz.prog 22 1 := by unfold SizeIs; kernel_rfl

theorem ag22 : AggIs Tryz.prog 22 false := by unfold AggIs; kernel_rfl

theorem fld24_1 : FieldIs Tryz.prog 24 1 1 1 false := FieldIs.mk Tryz.underlying24 rfl rfl sz22 ag22 rfl

theorem en110 : Enters Tryz.prog 110 := ⟨_, Tryz.func110, by kernel_rfl, rfl⟩

theorem en109 : Enters Tryz.prog 109 := ⟨_, Tryz.func109, by kernel_rfl, rfl⟩

theorem zr64 : (Tryz.prog.info? 64).bind (·.zero) = some (.agg #[.slice none 0 0, .slice none 0 0]) := by kernel_rfl

theorem zer64 : ∃ i z, Tryz.prog.info? 64 = some i ∧ i.zero = some z ∧ z.cells = List.toArray [.slice none 0 0, .slice none 0 0] := zero_mk zr64 rfl

theorem en57 : Enters Tryz.prog 57 := ⟨_, Tryz.func57, by kernel_rfl, rfl⟩

theorem ag24 : AggIs Tryz.prog 24 true := by unfold AggIs; kernel_rfl

theorem sz24 : SizeIs Tryz.prog 24 2 := by unfold SizeIs; kernel_rfl

theorem en100 : Enters Tryz.prog 100 := ⟨_, Tryz.func100, by kernel_rfl, rfl⟩

theorem en101 : Enters Tryz.prog 101 := ⟨_, Tryz.func101, by kernel_rfl, rfl⟩

theorem fld67_0 : FieldIs Tryz.prog 67 0 0 1 false := FieldIs.mk Tryz.underlying67 rfl rfl sz3 ag3 rfl

theorem stru67 : StructIs Tryz.prog 67 [.int .i64 0, .bool false] [(0, 1), (1, 1)] := structIs_mk (by kernel_rfl) Tryz.underlying67 (by kernel_rfl)

theorem eqa67 : ∀ (a0 : Int) (a1 : Bool) (b0 : Int) (b1 : Bool), EqA Tryz.prog 67 [.int .i64 a0, .bool a1] [.int .i64 b0, .bool b1] (decide (a0 = b0) && (decide (a1 = b1) && true)) := fun _ _ _ _ => ⟨_, Tryz.underlying67, Tryz.stoodInHeld67, Tryz.eqGuardType67, (.int (k2 := .i64) rfl Tryz.underlying3 rfl rfl rfl (.bool rfl Tryz.underlying4 rfl rfl .nil))⟩

theorem sz4 : SizeIs Tryz.prog 4 1 := by unfold SizeIs; kernel_rfl

theorem ag4 : AggIs Tryz.prog 4 false := by unfold AggIs; kernel_rfl

theorem fld67_1 : FieldIs Tryz.prog 67 1 1 1 false := FieldIs.mk Tryz.underlying67 rfl rfl sz4 ag4 rfl

theorem sz25 : SizeIs Tryz.prog 25 1 := by unfold SizeIs; kernel_rfl

theorem ag25 : AggIs Tryz.prog 25 false := by unfold AggIs; kernel_rfl

theorem fld28_1 : FieldIs Tryz.prog 28 1 2 1 false := FieldIs.mk Tryz.underlying28 rfl rfl sz25 ag25 rfl

theorem en90 : Enters Tryz.prog 90 := ⟨_, Tryz.func90, by kernel_rfl, rfl⟩

theorem fld28_0 : FieldIs Tryz.prog 28 0 0 2 true := FieldIs.mk Tryz.underlying28 rfl rfl sz24 ag24 rfl

theorem fld28_3 : FieldIs Tryz.prog 28 3 4 1 false := FieldIs.mk Tryz.underlying28 rfl rfl sz9 ag9 rfl

theorem en86 : Enters Tryz.prog 86 := ⟨_, Tryz.func86, by kernel_rfl, rfl⟩

theorem en87 : Enters Tryz.prog 87 := ⟨_, Tryz.func87, by kernel_rfl, rfl⟩

theorem sz26 : SizeIs Tryz.prog 26 1 := by unfold SizeIs; kernel_rfl

theorem ag26 : AggIs Tryz.prog 26 false := by unfold AggIs; kernel_rfl

theorem fld28_2 : FieldIs Tryz.prog 28 2 3 1 false := FieldIs.mk Tryz.underlying28 rfl rfl sz26 ag26 rfl

theorem en89 : Enters Tryz.prog 89 := ⟨_, Tryz.func89, by kernel_rfl, rfl⟩

theorem en88 : Enters Tryz.prog 88 := ⟨_, Tryz.func88, by kernel_rfl, rfl⟩

theorem zr67 : (Tryz.prog.info? 67).bind (·.zero) = some (.agg #[.int .i64 0, .bool false]) := by kernel_rfl

theorem zer67 : ∃ i z, Tryz.prog.info? 67 = some i ∧ i.zero = some z ∧ z.cells = List.toArray [.int .i64 0, .bool false] := zero_mk zr67 rfl

theorem en32 : Enters Tryz.prog 32 := ⟨_, Tryz.func32, by kernel_rfl, rfl⟩

theorem en33 : Enters Tryz.prog 33 := ⟨_, Tryz.func33, by kernel_rfl, rfl⟩

theorem en34 : Enters Tryz.prog 34 := ⟨_, Tryz.func34, by kernel_rfl, rfl⟩

theorem en35 : Enters Tryz.prog 35 := ⟨_, Tryz.func35, by kernel_rfl, rfl⟩

structure Tra where
 pre : List (Int)
 post : List (Int)
 deriving DecidableEq, Inhabited

def Tra.d (x : Tra) : D := (.agg [(.slice false 1 (x.pre.map (fun n : Int => D.int .i64 n))), (.slice false 1 (x.post.map (fun n : Int => D.int .i64 n)))])

def Tra.u (x : Tra) : D := (.agg [(.slice true 1 (x.pre.map (fun n : Int => D.int .i64 n))), (.slice true 1 (x.post.map (fun n : Int => D.int .i64 n)))])

theorem Tra.fz (x : Tra) : (Tra.u x).froz = Tra.d x := congrArg D.agg (froz_c (slice_froz (frozs_map (fun _ => rfl) _)) (froz_c (slice_froz (frozs_map (fun _ => rfl) _)) rfl))

theorem Tra.sol (x : Tra) : (Tra.u x).solid = true := by unfold Tra.u; rw [D.solid]; exact (solids_c (solid_row (fun _ => rfl) _) (solids_c (solid_row (fun _ => rfl) _) rfl))

def Tra.bulk (x : Tra) : Nat := bulkF (fun _ => 0) x.pre + bulkF (fun _ => 0) x.post

theorem Tra.parts {x : Tra} {n : Nat} (h : x.bulk ≤ n) : (bulkF (fun _ => 0) x.pre ≤ n) ∧ (bulkF (fun _ => 0) x.post ≤ n) := by unfold Tra.bulk at h; omega

structure Stg where
 places : Int
 trans : List (Tra)
 sigs : List (Sgn)
 labs : List (Lab)
 start : List UInt8
 deriving DecidableEq, Inhabited

def Stg.d (x : Stg) : D := (.agg [(.int .i64 x.places), (.slice false 2 (x.trans.map Tra.d)), (.slice false 2 (x.sigs.map Sgn.d)), (.slice false 2 (x.labs.map Lab.d)), (.str x.start)])

def Stg.u (x : Stg) : D := (.agg [(.int .i64 x.places), (.slice true 2 (x.trans.map Tra.u)), (.slice true 2 (x.sigs.map Sgn.d)), (.slice true 2 (x.labs.map Lab.d)), (.str x.start)])

theorem Stg.sol (x : Stg) : (Stg.u x).solid = true := by unfold Stg.u; rw [D.solid]; exact (solids_c rfl (solids_c (solid_row Tra.sol _) (solids_c (solid_row (fun _ => rfl) _) (solids_c (solid_row (fun _ => rfl) _) (solids_c rfl rfl)))))

def Stg.bulk (x : Stg) : Nat := bulkF Tra.bulk x.trans + bulkF Sgn.bulk x.sigs + bulkF Lab.bulk x.labs + x.start.length

def risAt (l : List Int) (lo hi : Int) (j : Nat) : Bool := withinB (l.getD j default) lo hi && !(decide ((0 : Int) < (j : Int)) && decide (l.getD j default ≤ l.getD (j - 1) default))

def risB (l : List Int) (lo hi : Int) : Bool := allB l.length (risAt l lo hi)

def traB (p : Int) (t : Tra) : Bool := !decide ((t.pre.length : Int) = 0) && (risB t.pre 0 (p - 1) && risB t.post 0 (p - 1))

def netB (p : Int) (ts : List Tra) : Bool := withinB p 1 30 && (decide ((ts.length : Int) ≤ 24) && !ts.any fun t => !traB p t)

def hasI (xs : List Int) (v : Int) : Bool := xs.any fun a => decide (a = v)

def edgeB (l : Lab) (n : Int) : Bool := withinB l.sig 0 (n - 1) || (decide (l.sig = -1) && !l.up)

theorem lab_eq (l : Lab) : decide (l = Lab.mk (-1) false) = (decide (l.sig = -1) && !l.up) := by
  cases l; rename_i a b; cases b <;> simp

def stgB (x : Stg) : Bool := netB x.places x.trans && (codeN x.start x.places && (sigsB x.sigs && (decide ((x.labs.length : Int) = (x.trans.length : Int)) && !x.labs.any fun l => !edgeB l x.sigs.length)))

def sgS (xs : List Sgn) : Prop := xs.length ≤ 1048576 ∧ ∀ y ∈ xs, y.name.length ≤ 1048576

def trS (xs : List Tra) : Prop := xs.length ≤ 1048576 ∧ ∀ y ∈ xs, y.pre.length ≤ 1048576 ∧ y.post.length ≤ 1048576

def Stg.sm (x : Stg) : Prop := (0 ≤ x.places ∧ x.places ≤ 1048576) ∧ trS x.trans ∧ sgS x.sigs ∧ x.labs.length ≤ 1048576 ∧ x.start.length ≤ 1048576

theorem any_of {τ : Type} [Inhabited τ] {l : List τ} {p : τ → Bool} (h : ∀ j, j < l.length → p (l.getD j default) = true) : (l.any fun x => !p x) = false := (any_no default fun j hj => by rw [h j hj]; rfl).symm

theorem any_at {τ : Type} [Inhabited τ] {l : List τ} {p : τ → Bool} (k : Nat) (hk : k < l.length) (h : p (l.getD k default) = false) : (l.any fun x => !p x) = true := (any_yes default k hk (by rw [h]; rfl)).symm

theorem net_no {p : Int} {ts : List Tra} (k : Nat) (hk : k < ts.length) (h : traB p (ts.getD k default) = false) : false = netB p ts := by
 unfold netB; rw [any_at k hk h]; simp

theorem net_yes {p : Int} {ts : List Tra} (h : ∀ j, j < ts.length → traB p (ts.getD j default) = true) {b : Bool} (hb : (withinB p 1 30 && decide ((ts.length : Int) ≤ 24)) = b) : b = netB p ts := by
 unfold netB; rw [any_of h, ← hb]; simp

theorem stg_no {x : Stg} (k : Nat) (hk : k < x.labs.length) (h : edgeB (x.labs.getD k default) x.sigs.length = false) : false = stgB x := by
 unfold stgB; rw [any_at (p := fun l => edgeB l x.sigs.length) k hk h]; simp

theorem stg_yes {x : Stg} (h : ∀ j, j < x.labs.length → edgeB (x.labs.getD j default) x.sigs.length = true) {b : Bool} (hb : (netB x.places x.trans && (sigsB x.sigs && (decide ((x.labs.length : Int) = (x.trans.length : Int)) && codeN x.start x.places))) = b) : b = stgB x := by
  unfold stgB; rw [any_of (p := fun l => edgeB l x.sigs.length) h, ← hb]
  cases netB x.places x.trans <;> cases sigsB x.sigs <;> cases codeN x.start x.places <;> simp

theorem sp_Index_int (xs : List Int) (v : Int) (hn : xs.length ≤ 1048576) : Sp Tryz.prog 74 [(.slice false 1 (xs.map (fun n : Int => D.int .i64 n))), (.int .i64 v)] [.any, .any] (.int .i64 (ixF (fun a => decide (a = v)) xs)) := by
 refine Sp_intro (lend := true) Tryz.func74 rfl rfl rfl (fun _ => rfl) (fun c hc hX => ?_)
 refine Ts hc (Ch.s (dI 0) pa (Ch.nil (Tq (Ts hc (Ch.s (.d (.slice false 1 (xs.map (fun n : Int => D.int .i64 n)))) pm ?_)))))
 refine Ch.s (dI (xs.length : Int)) (.pure (.len _ _ 3 rfl Tryz.underlying62 (.sh _ _) (by simp))) (Ch.s (dI 0) pm (Ch.nil (Tb ?_)))
 refine T_loop (ι := Nat) (fun k => { n := 19, sl := [(0, (.d (.slice false 1 (xs.map (fun n : Int => D.int .i64 n))))), (1, (dI v)), (7, (dI (xs.length : Int))), (8, (dI (k : Int)))], hp := [], pin := [] }) (fun k => k ≤ xs.length ∧ ∀ j, j < k → decide (xs.getD j default = v) = false) (fun k => xs.length - k) ⟨0, ⟨by omega, fun j hj => by omega⟩, (Wk.of rfl rfl (ar (ar (ar (ai (vI a87) trivial)))) trivial)⟩ (fun k hp0 => ?_)
 refine Ts hc (Ch.s (dB (decide ((k : Int) < (xs.length : Int)))) (iX rfl rfl rfl) (Ch.nil (Tq ?_)))
 refine T_condD (p := ((k : Int) < (xs.length : Int))) rfl (fun h1 => ?_) (fun h1 => ?_)
 ·
  refine Tk (Tq (Tb (Ts hc (Ch.s (dI (k : Int)) pm (Ch.s (dI (k : Int)) pa (Ch.nil ?_))))))
  refine Ts hc (Ch.s (dI v) pm (Ch.s (.d (.slice false 1 (xs.map (fun n : Int => D.int .i64 n)))) pm (Ch.s (dI (k : Int)) pm (Ch.s (.d (.ref (.int .i64 (xs.getD k default)))) (.pure (.idx _ _ _ 3 (k) rfl Tryz.underlying62 sz3 rfl rfl rfl get_mapA)) (Ch.s (dI (xs.getD k default)) (rF ag3 rfl rfl) (Ch.s (dB (decide (v = (xs.getD k default)))) (iX rfl rfl rfl) ?_))))))
  refine Ch.nil ?_
  refine T_condD (p := (v = (xs.getD k default))) rfl (fun h2 => ?_) (fun h2 => ?_)
  ·
   refine Ts hc (Ch.s (dI (k : Int)) pm (Ch.s (dI (k : Int)) pa (Ch.nil (T_ret ?_))))
   exact eR [(dI (k : Int))] [] [] (.cons (.tmp 4 rfl) .nil) eB (Exp.of (congrArg (D.int .i64) (by exact (ixF_some (d := default) (by omega) hp0.2 (by first | (exact decide_eq_true h2.symm) | (exact decide_eq_true h2))).symm)) (.d _))
  ·
   refine Tk (Tz hc (Ch.s (dI ((k : Int) + 1)) (iX rfl rfl intV_addA) (Ch.s (dI ((k : Int) + 1)) pm (Ch.nil ?_))))
   exact nx (k + 1) ⟨by omega, upto_succ hp0.2 (by first | (exact decide_eq_false (fun e => h2 e.symm)) | (exact decide_eq_false h2))⟩ (Wk.of rfl rfl (ar (ar (ar (ai (vI a87) trivial)))) trivial)
 ·
  refine T_exit (Ts hc (Ch.s (dI (-1)) pa (Ch.nil (T_ret ?_))))
  exact eR [(dI (-1))] [] [] (.cons (.tmp 4 rfl) .nil) eB (Exp.of (congrArg (D.int .i64) a68) (.d _))

theorem sp_Contains_int (xs : List Int) (v : Int) (hn : xs.length ≤ 1048576) : Sp Tryz.prog 71 [(.slice false 1 (xs.map (fun n : Int => D.int .i64 n))), (.int .i64 v)] [.any, .any] (.bool (hasI xs v)) := by
 refine Sp_intro (lend := true) Tryz.func71 rfl rfl rfl (fun _ => rfl) (fun c hc hX => ?_)
 refine Ts hc (Ch.s (dB false) pa (Ch.nil (Ts hc (Ch.s (.d (.slice false 1 (xs.map (fun n : Int => D.int .i64 n)))) pm (Ch.s (dI v) pm ?_)))))
 refine Ch.s (dI (ixF (fun a => decide (a = v)) xs)) (.call 7000 74 _ _ _ en74 rfl (.inl rfl) (.cons (.d _) (.cons (.d _) .nil)) rfl rfl (sp_Index_int xs v a23) (.skip _ _ (.skip _ _ .nil)) rfl) (Ch.s (dB (decide (0 ≤ (ixF (fun a => decide (a = v)) xs)))) (iX rfl rfl rfl) (Ch.s (dB (decide (0 ≤ (ixF (fun a => decide (a = v)) xs)))) pa (Ch.nil (T_ret ?_))))
 exact eR [(dB (decide (0 ≤ (ixF (fun a => decide (a = v)) xs))))] [] [] (.cons (.tmp 4 rfl) .nil) eB (Exp.of (congrArg D.bool (by exact ixF_nonneg _ xs)) (.d _))

theorem sp_spec_l1Has (xs : List Int) (v : Int) (hn : xs.length ≤ 1048576) : Sp Tryz.prog 59 [(.slice false 1 (xs.map (fun n : Int => D.int .i64 n))), (.int .i64 v)] [.any, .any] (.bool (hasI xs v)) := by
 refine Sp_intro (lend := true) Tryz.func59 rfl rfl rfl (fun _ => rfl) (fun c hc hX => ?_)
 refine Ts hc (Ch.s (dB false) pa (Ch.nil (Tq (Ts hc (Ch.s (.d (.slice false 1 (xs.map (fun n : Int => D.int .i64 n)))) pm ?_)))))
 refine Ch.s (dI (xs.length : Int)) (.pure (.len _ _ 3 rfl Tryz.underlying62 (.sh _ _) (by simp))) (Ch.s (dI 0) pm (Ch.nil (Tb ?_)))
 refine T_loop (ι := Nat) (fun k => { n := 17, sl := [(1, (dI v)), (7, (.d (.slice false 1 (xs.map (fun n : Int => D.int .i64 n))))), (8, (dI (xs.length : Int))), (9, (dI (k : Int)))], hp := [], pin := [] }) (fun k => k ≤ xs.length ∧ ∀ j, j < k → decide (xs.getD j default = v) = false) (fun k => xs.length - k) ⟨0, ⟨by omega, fun j hj => by omega⟩, (Wk.of rfl rfl (ar (ar (ar (ai (vI a87) trivial)))) trivial)⟩ (fun k hp0 => ?_)
 refine Ts hc (Ch.s (dB (decide ((k : Int) < (xs.length : Int)))) (iX rfl rfl rfl) (Ch.nil (Tq ?_)))
 refine T_condD (p := ((k : Int) < (xs.length : Int))) rfl (fun h1 => ?_) (fun h1 => ?_)
 ·
  refine Tk (Tq (Tb (Ts hc (Ch.s (.d (.ref (.int .i64 (xs.getD k default)))) (.pure (.idx _ _ _ 3 (k) rfl Tryz.underlying62 sz3 rfl rfl rfl get_mapA)) (Ch.s (dI (xs.getD k default)) (rF ag3 rfl rfl) (Ch.s (dI (xs.getD k default)) pa ?_))))))
  refine Ch.nil (Ts hc (Ch.s (dI (xs.getD k default)) pm (Ch.s (dI v) pm (Ch.s (dB (decide ((xs.getD k default) = v))) (iX rfl rfl rfl) (Ch.nil ?_)))))
  refine T_condD (p := ((xs.getD k default) = v)) rfl (fun h2 => ?_) (fun h2 => ?_)
  ·
   refine Ts hc (Ch.s (dB true) pa (Ch.nil (T_ret ?_)))
   exact eR [(dB true)] [] [] (.cons (.tmp 4 rfl) .nil) eB (Exp.of (congrArg D.bool (by exact any_yes default k (by omega) (decide_eq_true (by assumption)))) (.d _))
  ·
   refine Tk (Tz hc (Ch.s (dI ((k : Int) + 1)) (iX rfl rfl intV_addA) (Ch.s (dI ((k : Int) + 1)) pm (Ch.nil ?_))))
   exact nx (k + 1) ⟨by omega, upto_succ hp0.2 (decide_eq_false (by assumption))⟩ (Wk.of rfl rfl (ar (ar (ar (ai (vI a87) trivial)))) trivial)
 ·
  refine T_exit (Ts hc (Ch.s (dB false) pa (Ch.nil (T_ret ?_))))
  exact eR [(dB false)] [] [] (.cons (.tmp 4 rfl) .nil) eB (Exp.of (congrArg D.bool (by exact any_no default (fun j hj => hp0.2 j (by omega)))) (.d _))

theorem sp_impl_isBits (u : List UInt8) (n : Int) (hs : u.length ≤ 1048576) : Sp Tryz.prog 101 [(.str u), (.int .i64 n)] [.any, .any] (.bool (codeN u n)) := by
 refine Sp_intro (lend := true) Tryz.func101 rfl rfl rfl (fun _ => rfl) (fun c hc hX => ?_)
 refine Ts hc (Ch.s (dB false) pa (Ch.nil (Tq (Ts hc (Ch.s (dI 0) pa ?_)))))
 refine Ch.nil (Tb ?_)
 refine T_loop (ι := Nat) (fun k => { n := 26, sl := [(0, (dS u)), (1, (dI n)), (5, (dI (k : Int)))], hp := [], pin := [] }) (fun k => k ≤ u.length ∧ ∀ j, j < k → codeCh (u.getD j 0) = true) (fun k => u.length - k) ⟨0, ⟨by omega, fun j hj => by omega⟩, (Wk.of rfl rfl (ar (ar (ai (vI a87) trivial))) trivial)⟩ (fun k hp0 => ?_)
 refine Tq (Ts hc (Ch.s (dI (k : Int)) pm (Ch.s (dS u) pm (Ch.s (dI (u.length : Int)) (.pure (.lenStr _ _ rfl Tryz.underlying9 rfl)) (Ch.s (dB (decide ((k : Int) < (u.length : Int)))) (iX rfl rfl rfl) (Ch.nil ?_))))))
 refine T_condD (p := ((k : Int) < (u.length : Int))) rfl (fun h1 => ?_) (fun h1 => ?_)
 ·
  refine Tk (Tq (Tb (Ts hc (Ch.s (dS u) pm (Ch.s (dI (k : Int)) pm (Ch.s (.d (.int .u8 ((u.getD k 0).toNat : Int))) (.pure (.idxStr _ _ _ (k) rfl Tryz.underlying9 rfl rfl rfl get_strA)) ?_))))))
  refine Ch.s (dB (!(decide (((u.getD k 0) : UInt8) = 48)))) (iX rfl rfl (u8_neq ((u.getD k 0) : UInt8) 48 rfl rfl)) (Ch.s (dB (!(decide (((u.getD k 0) : UInt8) = 48)))) pm ?_)
  cases h2 : (decide (((u.getD k 0) : UInt8) = 48)) with
  | true =>
   replace h2 := odt h2
   refine Ck (Ck (Ck (Ck (Ch.s (dB false) (pF rfl) (Ch.nil ?_)))))
   refine T_cond (b := false) rfl (fun h => nomatch h) (fun _ => ?_)
   refine Tk (Tz hc (Ch.s (dI (k : Int)) pm (Ch.s (dI ((k : Int) + 1)) (iX rfl rfl intV_addA) (Ch.s (dI ((k : Int) + 1)) pa (Ch.nil ?_)))))
   exact nx (k + 1) ⟨by omega, upto_succ hp0.2 (by simp_all [codeCh])⟩ (Wk.of rfl rfl (ar (ar (ai (vI a87) trivial))) trivial)
  | false =>
   replace h2 := odf h2
   refine Ch.s (dS u) pm (Ch.s (dI (k : Int)) pm (Ch.s (.d (.int .u8 ((u.getD k 0).toNat : Int))) (.pure (.idxStr _ _ _ (k) rfl Tryz.underlying9 rfl rfl rfl get_strA)) (Ch.s (dB (!(decide (((u.getD k 0) : UInt8) = 49)))) (iX rfl rfl (u8_neq ((u.getD k 0) : UInt8) 49 rfl rfl)) (Ch.s (dB (!(decide (((u.getD k 0) : UInt8) = 49)))) (pT rfl) (Ch.nil ?_)))))
   refine T_condN (b := (decide (((u.getD k 0) : UInt8) = 49))) rfl (fun h3 => ?_) (fun h3 => ?_)
   ·
    replace h3 := odf h3
    refine Ts hc (Ch.s (dB false) pa (Ch.nil (T_ret ?_)))
    exact eR [(dB false)] [] [] (.cons (.tmp 4 rfl) .nil) eB (Exp.of (congrArg D.bool a29) (.d _))
   ·
    replace h3 := odt h3
    refine Tk (Tz hc (Ch.s (dI (k : Int)) pm (Ch.s (dI ((k : Int) + 1)) (iX rfl rfl intV_addA) (Ch.s (dI ((k : Int) + 1)) pa (Ch.nil ?_)))))
    exact nx (k + 1) ⟨by omega, upto_succ hp0.2 (by simp_all [codeCh])⟩ (Wk.of rfl rfl (ar (ar (ai (vI a87) trivial))) trivial)
 ·
  refine T_exit (Ts hc (Ch.s (dS u) pm (Ch.s (dI (u.length : Int)) (.pure (.lenStr _ _ rfl Tryz.underlying9 rfl)) (Ch.s (dI n) pm (Ch.s (dB (decide ((u.length : Int) = n))) (iX rfl rfl rfl) (Ch.s (dB (decide ((u.length : Int) = n))) pa ?_))))))
  refine Ch.nil (T_ret ?_)
  exact eR [(dB (decide ((u.length : Int) = n)))] [] [] (.cons (.tmp 4 rfl) .nil) eB (Exp.of (congrArg D.bool a29) (.d _))

theorem sp_impl_isIncreasing (l : List Int) (n : Int) (hn : l.length ≤ 1048576) (h0 : 0 ≤ n) (h0u : n ≤ 1048576) : Sp Tryz.prog 111 [(.slice false 1 (l.map (fun n : Int => D.int .i64 n))), (.int .i64 n)] [.any, .any] (.bool (risB l 0 (n - 1))) := by
 refine Sp_intro (lend := true) Tryz.func111 rfl rfl rfl (fun _ => rfl) (fun c hc hX => ?_)
 refine Ts hc (Ch.s (dB false) pa (Ch.nil (Tq (Ts hc (Ch.s (.d (.slice false 1 (l.map (fun n : Int => D.int .i64 n)))) pm ?_)))))
 refine Ch.s (dI (l.length : Int)) (.pure (.len _ _ 3 rfl Tryz.underlying62 (.sh _ _) (by simp))) (Ch.s (dI 0) pm (Ch.nil (Tb ?_)))
 refine T_loop (ι := Nat) (fun k => { n := 33, sl := [(0, (.d (.slice false 1 (l.map (fun n : Int => D.int .i64 n))))), (1, (dI n)), (7, (.d (.slice false 1 (l.map (fun n : Int => D.int .i64 n))))), (8, (dI (l.length : Int))), (9, (dI (k : Int)))], hp := [], pin := [] }) (fun k => k ≤ l.length ∧ ∀ j, j < k → risAt l 0 (n - 1) j = true) (fun k => l.length - k) ⟨0, ⟨by omega, fun j hj => by omega⟩, (Wk.of rfl rfl (ar (ar (ar (ar (ai (vI a87) trivial))))) trivial)⟩ (fun k hp0 => ?_)
 refine Ts hc (Ch.s (dB (decide ((k : Int) < (l.length : Int)))) (iX rfl rfl rfl) (Ch.nil (Tq ?_)))
 refine T_condD (p := ((k : Int) < (l.length : Int))) rfl (fun h1 => ?_) (fun h1 => ?_)
 ·
  refine Tk (Tq (Tb (Ts hc (Ch.s (dI (k : Int)) pm (Ch.s (.d (.ref (.int .i64 (l.getD k default)))) (.pure (.idx _ _ _ 3 (k) rfl Tryz.underlying62 sz3 rfl rfl rfl get_mapA)) (Ch.s (dI (l.getD k default)) (rF ag3 rfl rfl) ?_))))))
  refine Ch.s (dI (k : Int)) pa (Ch.s (dI (l.getD k default)) pa (Ch.nil (Ts hc (Ch.s (dI (l.getD k default)) pm (Ch.s (dI n) pm (Ch.s (dI (n - 1)) (iX rfl rfl intV_subA) ?_))))))
  refine Ch.s (dB (withinB (l.getD k default) 0 (n - 1))) (.call 17000 42 _ _ _ en42 rfl (.inl rfl) (.cons (.d _) (.cons (.d _) (.cons (.d _) .nil))) rfl rfl (sp_impl_within (l.getD k default) 0 (n - 1)) (.skip _ _ (.skip _ _ (.skip _ _ .nil))) rfl) (Ch.s (dB (!(withinB (l.getD k default) 0 (n - 1)))) (nT rfl) (Ch.s (dB (!(withinB (l.getD k default) 0 (n - 1)))) pm ?_))
  cases h2 : (withinB (l.getD k default) 0 (n - 1)) with
  | true =>
   refine Ch.s (dI (k : Int)) pm (Ch.s (dB (decide (0 < (k : Int)))) (iX rfl rfl rfl) (Ch.s (dB (decide (0 < (k : Int)))) pm ?_))
   cases h3 : (decide (0 < (k : Int))) with
   | true =>
    replace h3 := odt h3
    refine Ch.s (.d (.slice false 1 (l.map (fun n : Int => D.int .i64 n)))) pm (Ch.s (dI (k : Int)) pm (Ch.s (dI ((k : Int) - 1)) (iX rfl rfl intV_subA) (Ch.s (.d (.ref (.int .i64 (l.getD (k - 1) default)))) (.pure (.idx _ _ _ 3 ((k - 1)) rfl Tryz.underlying62 sz3 rfl rfl (by omega) get_mapA)) (Ch.s (dI (l.getD (k - 1) default)) (rF ag3 rfl rfl) (Ch.s (dI (l.getD k default)) pm (Ch.s (dB (decide ((l.getD k default) ≤ (l.getD (k - 1) default)))) (iX rfl rfl rfl) (Ch.s (dB (decide ((l.getD k default) ≤ (l.getD (k - 1) default)))) (pT rfl) ?_)))))))
    refine Ch.s (dB (decide ((l.getD k default) ≤ (l.getD (k - 1) default)))) (pF rfl) (Ch.nil ?_)
    refine T_condD (p := ((l.getD k default) ≤ (l.getD (k - 1) default))) rfl (fun h4 => ?_) (fun h4 => ?_)
    ·
     refine Ts hc (Ch.s (dB false) pa (Ch.nil (T_ret ?_)))
     exact eR [(dB false)] [] [] (.cons (.tmp 4 rfl) .nil) eB (Exp.of (congrArg D.bool a25) (.d _))
    ·
     refine Tk (Tz hc (Ch.s (dI ((k : Int) + 1)) (iX rfl rfl intV_addA) (Ch.s (dI ((k : Int) + 1)) pm (Ch.nil ?_))))
     exact nx (k + 1) ⟨by omega, upto_succ hp0.2 a77⟩ (Wk.of rfl rfl (ar (ar (ar (ar (ai (vI a87) trivial))))) trivial)
   | false =>
    replace h3 := odf h3
    refine Ck (Ck (Ck (Ck (Ck (Ck (Ck (Ch.s (dB false) (pF rfl) ?_)))))))
    refine Ch.s (dB false) (pF rfl) (Ch.nil ?_)
    refine T_cond (b := false) rfl (fun h => nomatch h) (fun _ => ?_)
    refine Tk (Tz hc (Ch.s (dI ((k : Int) + 1)) (iX rfl rfl intV_addA) (Ch.s (dI ((k : Int) + 1)) pm (Ch.nil ?_))))
    exact nx (k + 1) ⟨by omega, upto_succ hp0.2 a77⟩ (Wk.of rfl rfl (ar (ar (ar (ar (ai (vI a87) trivial))))) trivial)
  | false =>
   refine Ck (Ck (Ck (Ck (Ck (Ck (Ck (Ch.skip rfl rfl ?_)))))))
   refine Ck (Ck (Ck (Ch.s (dB true) (pT rfl) (Ch.nil ?_))))
   refine T_cond (b := true) rfl (fun _ => ?_) (fun h => nomatch h)
   refine Ts hc (Ch.s (dB false) pa (Ch.nil (T_ret ?_)))
   exact eR [(dB false)] [] [] (.cons (.tmp 4 rfl) .nil) eB (Exp.of (congrArg D.bool a25) (.d _))
 ·
  refine T_exit (Ts hc (Ch.s (dB true) pa (Ch.nil (T_ret ?_))))
  exact eR [(dB true)] [] [] (.cons (.tmp 4 rfl) .nil) eB (Exp.of (congrArg D.bool a25) (.d _))

theorem sp_spec_l1Rising (l : List Int) (lo hi : Int) (hn : l.length ≤ 1048576) : Sp Tryz.prog 78 [(.slice false 1 (l.map (fun n : Int => D.int .i64 n))), (.int .i64 lo), (.int .i64 hi)] [.any, .any, .any] (.bool (risB l lo hi)) := by
 refine Sp_intro (lend := true) Tryz.func78 rfl rfl rfl (fun _ => rfl) (fun c hc hX => ?_)
 refine Ts hc (Ch.s (dB false) pa (Ch.nil (Tq (Ts hc (Ch.s (.d (.slice false 1 (l.map (fun n : Int => D.int .i64 n)))) pm ?_)))))
 refine Ch.s (dI (l.length : Int)) (.pure (.len _ _ 3 rfl Tryz.underlying62 (.sh _ _) (by simp))) (Ch.s (dI 0) pm (Ch.nil (Tb ?_)))
 refine T_loop (ι := Nat) (fun k => { n := 35, sl := [(0, (.d (.slice false 1 (l.map (fun n : Int => D.int .i64 n))))), (1, (dI lo)), (2, (dI hi)), (9, (.d (.slice false 1 (l.map (fun n : Int => D.int .i64 n))))), (10, (dI (l.length : Int))), (11, (dI (k : Int)))], hp := [], pin := [] }) (fun k => k ≤ l.length ∧ ∀ j, j < k → risAt l lo hi j = true) (fun k => l.length - k) ⟨0, ⟨by omega, fun j hj => by omega⟩, (Wk.of rfl rfl (ar (ar (ar (ar (ar (ai (vI a87) trivial)))))) trivial)⟩ (fun k hp0 => ?_)
 refine Ts hc (Ch.s (dB (decide ((k : Int) < (l.length : Int)))) (iX rfl rfl rfl) (Ch.nil (Tq ?_)))
 refine T_condD (p := ((k : Int) < (l.length : Int))) rfl (fun h1 => ?_) (fun h1 => ?_)
 ·
  refine Tk (Tq (Tb (Ts hc (Ch.s (dI (k : Int)) pm (Ch.s (.d (.ref (.int .i64 (l.getD k default)))) (.pure (.idx _ _ _ 3 (k) rfl Tryz.underlying62 sz3 rfl rfl rfl get_mapA)) (Ch.s (dI (l.getD k default)) (rF ag3 rfl rfl) ?_))))))
  refine Ch.s (dI (k : Int)) pa (Ch.s (dI (l.getD k default)) pa (Ch.nil (Ts hc (Ch.s (dI (l.getD k default)) pm (Ch.s (dI lo) pm (Ch.s (dI hi) pm ?_))))))
  refine Ch.s (dB (withinB (l.getD k default) lo hi)) (.call 19000 29 _ _ _ en29 rfl (.inl rfl) (.cons (.d _) (.cons (.d _) (.cons (.d _) .nil))) rfl rfl (sp_spec_l1In (l.getD k default) lo hi) (.skip _ _ (.skip _ _ (.skip _ _ .nil))) rfl) (Ch.s (dB (!(withinB (l.getD k default) lo hi))) (nT rfl) (Ch.s (dB (!(withinB (l.getD k default) lo hi))) pm ?_))
  cases h2 : (withinB (l.getD k default) lo hi) with
  | true =>
   refine Ch.s (dI (k : Int)) pm (Ch.s (dB (decide (0 < (k : Int)))) (iX rfl rfl rfl) (Ch.s (dB (decide (0 < (k : Int)))) pm ?_))
   cases h3 : (decide (0 < (k : Int))) with
   | true =>
    replace h3 := odt h3
    refine Ch.s (.d (.slice false 1 (l.map (fun n : Int => D.int .i64 n)))) pm (Ch.s (dI (k : Int)) pm (Ch.s (dI ((k : Int) - 1)) (iX rfl rfl intV_subA) (Ch.s (.d (.ref (.int .i64 (l.getD (k - 1) default)))) (.pure (.idx _ _ _ 3 ((k - 1)) rfl Tryz.underlying62 sz3 rfl rfl (by omega) get_mapA)) (Ch.s (dI (l.getD (k - 1) default)) (rF ag3 rfl rfl) (Ch.s (dI (l.getD k default)) pm (Ch.s (dB (decide ((l.getD k default) ≤ (l.getD (k - 1) default)))) (iX rfl rfl rfl) (Ch.s (dB (decide ((l.getD k default) ≤ (l.getD (k - 1) default)))) (pT rfl) ?_)))))))
    refine Ch.s (dB (decide ((l.getD k default) ≤ (l.getD (k - 1) default)))) (pF rfl) (Ch.nil ?_)
    refine T_condD (p := ((l.getD k default) ≤ (l.getD (k - 1) default))) rfl (fun h4 => ?_) (fun h4 => ?_)
    ·
     refine Ts hc (Ch.s (dB false) pa (Ch.nil (T_ret ?_)))
     exact eR [(dB false)] [] [] (.cons (.tmp 6 rfl) .nil) eC (Exp.of (congrArg D.bool a25) (.d _))
    ·
     refine Tk (Tz hc (Ch.s (dI ((k : Int) + 1)) (iX rfl rfl intV_addA) (Ch.s (dI ((k : Int) + 1)) pm (Ch.nil ?_))))
     exact nx (k + 1) ⟨by omega, upto_succ hp0.2 a77⟩ (Wk.of rfl rfl (ar (ar (ar (ar (ar (ai (vI a87) trivial)))))) trivial)
   | false =>
    replace h3 := odf h3
    refine Ck (Ck (Ck (Ck (Ck (Ck (Ck (Ch.s (dB false) (pF rfl) ?_)))))))
    refine Ch.s (dB false) (pF rfl) (Ch.nil ?_)
    refine T_cond (b := false) rfl (fun h => nomatch h) (fun _ => ?_)
    refine Tk (Tz hc (Ch.s (dI ((k : Int) + 1)) (iX rfl rfl intV_addA) (Ch.s (dI ((k : Int) + 1)) pm (Ch.nil ?_))))
    exact nx (k + 1) ⟨by omega, upto_succ hp0.2 a77⟩ (Wk.of rfl rfl (ar (ar (ar (ar (ar (ai (vI a87) trivial)))))) trivial)
  | false =>
   refine Ck (Ck (Ck (Ck (Ck (Ck (Ck (Ch.skip rfl rfl ?_)))))))
   refine Ck (Ck (Ck (Ch.s (dB true) (pT rfl) (Ch.nil ?_))))
   refine T_cond (b := true) rfl (fun _ => ?_) (fun h => nomatch h)
   refine Ts hc (Ch.s (dB false) pa (Ch.nil (T_ret ?_)))
   exact eR [(dB false)] [] [] (.cons (.tmp 6 rfl) .nil) eC (Exp.of (congrArg D.bool a25) (.d _))
 ·
  refine T_exit (Ts hc (Ch.s (dB true) pa (Ch.nil (T_ret ?_))))
  exact eR [(dB true)] [] [] (.cons (.tmp 6 rfl) .nil) eC (Exp.of (congrArg D.bool a25) (.d _))

theorem sp_spec_l1Set2 (l : List Int) (m : Int) (hn : l.length ≤ 1048576) : Sp Tryz.prog 57 [(.slice false 1 (l.map (fun n : Int => D.int .i64 n))), (.int .i64 m)] [.any, .any] (.bool (risB l 0 m)) := by
 refine Sp_intro (lend := true) Tryz.func57 rfl rfl rfl (fun _ => rfl) (fun c hc hX => ?_)
 refine Ts hc (Ch.s (dB false) pa (Ch.nil (Ts hc (Ch.s (.d (.slice false 1 (l.map (fun n : Int => D.int .i64 n)))) pm (Ch.s (dI m) pm ?_)))))
 refine Ch.s (dB (risB l 0 m)) (.call 7000 78 _ _ _ en78 rfl (.inl rfl) (.cons (.d _) (.cons (.d _) (.cons (.d _) .nil))) rfl rfl (sp_spec_l1Rising l 0 m a23) (.skip _ _ (.skip _ _ (.skip _ _ .nil))) rfl) (Ch.s (dB (risB l 0 m)) pa (Ch.nil (T_ret ?_)))
 exact eR [(dB (risB l 0 m))] [] [] (.cons (.tmp 4 rfl) .nil) eB (.d _)

theorem sp_valid1 (t : Tra) (p : Int) (ts : List Tra) (hp1 : t.pre.length ≤ 1048576) (hp2 : t.post.length ≤ 1048576) (h0 : 0 ≤ p) (h0u : p ≤ 1048576) : Sp Tryz.prog 110 [(.agg [(.slice false 1 (t.pre.map (fun n : Int => D.int .i64 n))), (.slice false 1 (t.post.map (fun n : Int => D.int .i64 n)))]), (.ref (.agg [(.int .i64 p), (.slice false 2 (ts.map Tra.d))]))] [.any, .any] (.bool (!traB p t)) := by
 refine Sp_intro (lend := true) Tryz.func110 rfl rfl rfl (fun _ => rfl) (fun c hc hX => ?_)
 refine Ts hc (Ch.s (.ptr 2000 0) (.box 2000 _ _ rfl (.aggD _)) (Ch.s (dB false) pa (Ch.nil (Ts hc (Ch.s (.ptr 2000 0) (fP fld64_0 rfl) ?_)))))
 refine Ch.s (.d (.slice false 1 (t.pre.map (fun n : Int => D.int .i64 n)))) (lP ag62 rfl rfl rfl) (Ch.s (dI (t.pre.length : Int)) (.pure (.len _ _ 3 rfl Tryz.underlying62 (.sh _ _) (by simp))) (Ch.s (dB (decide ((t.pre.length : Int) = 0))) (iX rfl rfl rfl) (Ch.s (dB (decide ((t.pre.length : Int) = 0))) pm ?_)))
 cases h1 : (decide ((t.pre.length : Int) = 0)) with
 | true =>
  replace h1 := odt h1
  refine Ck (Ck (Ck (Ck (Ck (Ck (Ch.s (dB true) (pT rfl) (Ch.s (dB true) pm ?_)))))))
  refine Ck (Ck (Ck (Ck (Ck (Ck (Ch.s (dB true) (pT rfl) (Ch.s (dB true) pa ?_)))))))
  refine Ch.nil (T_ret ?_)
  exact eR [(dB true)] [] [] (.cons (.tmp 3 rfl) .nil) eB (Exp.of (congrArg D.bool a65) (.d _))
 | false =>
  replace h1 := odf h1
  refine Ch.s (.ptr 2000 0) (fP fld64_0 rfl) (Ch.s (.d (.slice false 1 (t.pre.map (fun n : Int => D.int .i64 n)))) (lP ag62 rfl rfl rfl) (Ch.s (.d (.ref (.int .i64 p))) (.pure (.fldRef _ _ _ rfl fld24_0 rfl rfl rfl)) (Ch.s (dI p) (rF ag3 rfl rfl) (Ch.s (dB (risB t.pre 0 (p - 1))) (.call 13000 111 _ _ _ en111 rfl (.inl rfl) (.cons (.d _) (.cons (.d _) .nil)) rfl rfl (sp_impl_isIncreasing t.pre p a23 a23 a23) (.skip _ _ (.skip _ _ .nil)) rfl) (Ch.s (dB (!(risB t.pre 0 (p - 1)))) (nT rfl) (Ch.s (dB (!(risB t.pre 0 (p - 1)))) (pF rfl) (Ch.s (dB (!(risB t.pre 0 (p - 1)))) pm ?_)))))))
  cases h2 : (risB t.pre 0 (p - 1)) with
  | true =>
   refine Ch.s (.ptr 2000 1) (fP fld64_1 rfl) (Ch.s (.d (.slice false 1 (t.post.map (fun n : Int => D.int .i64 n)))) (lP ag62 rfl rfl rfl) (Ch.s (.d (.ref (.int .i64 p))) (.pure (.fldRef _ _ _ rfl fld24_0 rfl rfl rfl)) (Ch.s (dI p) (rF ag3 rfl rfl) (Ch.s (dB (risB t.post 0 (p - 1))) (.call 21000 111 _ _ _ en111 rfl (.inl rfl) (.cons (.d _) (.cons (.d _) .nil)) rfl rfl (sp_impl_isIncreasing t.post p a23 a23 a23) (.skip _ _ (.skip _ _ .nil)) rfl) (Ch.s (dB (!(risB t.post 0 (p - 1)))) (nT rfl) (Ch.s (dB (!(risB t.post 0 (p - 1)))) (pF rfl) (Ch.s (dB (!(risB t.post 0 (p - 1)))) pa ?_)))))))
   refine Ch.nil (T_ret ?_)
   exact eR [(dB (!(risB t.post 0 (p - 1))))] [] [] (.cons (.tmp 3 rfl) .nil) eB (Exp.of (congrArg D.bool a65) (.d _))
  | false =>
   refine Ck (Ck (Ck (Ck (Ck (Ck (Ch.s (dB true) (pT rfl) (Ch.s (dB true) pa ?_)))))))
   refine Ch.nil (T_ret ?_)
   exact eR [(dB true)] [] [] (.cons (.tmp 3 rfl) .nil) eB (Exp.of (congrArg D.bool a65) (.d _))

theorem sp_IndexFunc_tra (xs : List (Tra)) (f : FuncId) (caps : List D) (p : Tra → Bool) (hf : Enters Tryz.prog f) (hp : ∀ x ∈ xs, Sp Tryz.prog f (Tra.d x :: caps) (.any :: anys caps) (.bool (p x))) (hn : xs.length ≤ 1048576) : Sp Tryz.prog 116 [(.slice false 2 (xs.map Tra.d)), (.fn f caps)] [.any, .any] (.int .i64 (ixF p xs)) := by
 refine Sp_intro (lend := true) Tryz.func116 rfl rfl rfl (fun _ => rfl) (fun c hc hX => ?_)
 refine Ts hc (Ch.s (dI 0) pa (Ch.nil (Tq (Ts hc (Ch.s (.d (.slice false 2 (xs.map Tra.d))) pm ?_)))))
 refine Ch.s (dI (xs.length : Int)) (.pure (.len _ _ 64 rfl Tryz.underlying22 (.sh _ _) (by simp))) (Ch.s (dI 0) pm (Ch.nil (Tb ?_)))
 refine T_loop (ι := Nat) (fun k => { n := 19, sl := [(0, (.d (.slice false 2 (xs.map Tra.d)))), (1, (.d (.fn f caps))), (7, (dI (xs.length : Int))), (8, (dI (k : Int)))], hp := [], pin := [] }) (fun k => k ≤ xs.length ∧ ∀ j, j < k → p (xs.getD j default) = false) (fun k => xs.length - k) ⟨0, ⟨by omega, fun j hj => by omega⟩, (Wk.of rfl rfl (ar (ar (ar (ai (vI a87) trivial)))) trivial)⟩ (fun k hp0 => ?_)
 refine Ts hc (Ch.s (dB (decide ((k : Int) < (xs.length : Int)))) (iX rfl rfl rfl) (Ch.nil (Tq ?_)))
 refine T_condD (p := ((k : Int) < (xs.length : Int))) rfl (fun h1 => ?_) (fun h1 => ?_)
 ·
  refine Tk (Tq (Tb (Ts hc (Ch.s (dI (k : Int)) pm (Ch.s (dI (k : Int)) pa (Ch.nil ?_))))))
  refine Ts hc (Ch.s (.d (.fn f caps)) pm (Ch.s (.d (.slice false 2 (xs.map Tra.d))) pm (Ch.s (dI (k : Int)) pm (Ch.s (.d (.ref (.agg [(.slice false 1 (((xs.getD k default).pre).map (fun n : Int => D.int .i64 n))), (.slice false 1 (((xs.getD k default).post).map (fun n : Int => D.int .i64 n)))]))) (.pure (.idx _ _ _ 64 (k) rfl Tryz.underlying22 sz64 rfl rfl rfl get_mapA)) (Ch.s (.d (.agg [(.slice false 1 (((xs.getD k default).pre).map (fun n : Int => D.int .i64 n))), (.slice false 1 (((xs.getD k default).post).map (fun n : Int => D.int .i64 n)))])) (.pure (.loadRefA _ _ rfl ag64 sz64 rfl)) ?_)))))
  refine Ch.step (v := (dB (p (xs.getD k default)))) rfl (.callS 16000 f _ #[.tmp 15] _ hf rfl (.inr ⟨caps, rfl, rfl⟩) (.cons (.d _) (exps_ds caps)) rfl (hp _ (getD_mem (by omega))) (.skip _ _ (back_anys caps)) rfl) rfl rfl ?_
  refine Ch.nil ?_
  refine T_cond (b := (p (xs.getD k default))) rfl (fun h2 => ?_) (fun h2 => ?_)
  ·
   refine Ts hc (Ch.s (dI (k : Int)) pm (Ch.s (dI (k : Int)) pa (Ch.nil (T_ret ?_))))
   exact eR [(dI (k : Int))] [] [] (.cons (.tmp 4 rfl) .nil) eB (Exp.of (congrArg (D.int .i64) a69) (.d _))
  ·
   refine Tk (Tz hc (Ch.s (dI ((k : Int) + 1)) (iX rfl rfl intV_addA) (Ch.s (dI ((k : Int) + 1)) pm (Ch.nil ?_))))
   exact nx (k + 1) ⟨by omega, upto_succ hp0.2 (by assumption)⟩ (Wk.of rfl rfl (ar (ar (ar (ai (vI a87) trivial)))) trivial)
 ·
  refine T_exit (Ts hc (Ch.s (dI (-1)) pa (Ch.nil (T_ret ?_))))
  exact eR [(dI (-1))] [] [] (.cons (.tmp 4 rfl) .nil) eB (Exp.of (congrArg (D.int .i64) a68) (.d _))

theorem sp_ContainsFunc_tra (xs : List (Tra)) (f : FuncId) (caps : List D) (p : Tra → Bool) (hf : Enters Tryz.prog f) (hp : ∀ x ∈ xs, Sp Tryz.prog f (Tra.d x :: caps) (.any :: anys caps) (.bool (p x))) (hn : xs.length ≤ 1048576) : Sp Tryz.prog 109 [(.slice false 2 (xs.map Tra.d)), (.fn f caps)] [.any, .any] (.bool (xs.any p)) := by
 refine Sp_intro (lend := true) Tryz.func109 rfl rfl rfl (fun _ => rfl) (fun c hc hX => ?_)
 refine Ts hc (Ch.s (dB false) pa (Ch.nil (Ts hc (Ch.s (.d (.slice false 2 (xs.map Tra.d))) pm (Ch.s (.d (.fn f caps)) pm ?_)))))
 refine Ch.s (dI (ixF p xs)) (.call 7000 116 _ _ _ en116 rfl (.inl rfl) (.cons (.d _) (.cons (.d _) .nil)) rfl rfl (sp_IndexFunc_tra xs f caps p hf hp a23) (.skip _ _ (.skip _ _ .nil)) rfl) (Ch.s (dB (decide (0 ≤ (ixF p xs)))) (iX rfl rfl rfl) (Ch.s (dB (decide (0 ≤ (ixF p xs)))) pa (Ch.nil (T_ret ?_))))
 exact eR [(dB (decide (0 ≤ (ixF p xs))))] [] [] (.cons (.tmp 4 rfl) .nil) eB (Exp.of (congrArg D.bool (by exact ixF_nonneg p xs)) (.d _))

theorem sp_impl_IsValidNet (p : Int) (ts : List Tra) (hts : trS ts) (h0 : 0 ≤ p) (h0u : p ≤ 1048576) : Sp Tryz.prog 100 [(.agg [(.int .i64 p), (.slice false 2 (ts.map Tra.d))])] [.any] (.bool (netB p ts)) := by
 refine Sp_intro (lend := true) Tryz.func100 rfl rfl rfl (fun _ => rfl) (fun c hc hX => ?_)
 have hn := hts.1
 refine Ts hc (Ch.s (.ptr 1000 0) (.box 1000 _ _ rfl (.aggD _)) (Ch.s (dB false) pa (Ch.nil (Tq (Tq (Tz hc ?_))))))
 refine Ch.s (.ptr 1000 0) (fP fld24_0 rfl) (Ch.s (dI p) (lP ag3 rfl rfl rfl) (Ch.s (dB (withinB p 1 30)) (.call 5000 42 _ _ _ en42 rfl (.inl rfl) (.cons (.d _) (.cons (.d _) (.cons (.d _) .nil))) rfl rfl (sp_impl_within p 1 30) (.skip _ _ (.skip _ _ (.skip _ _ .nil))) rfl) (Ch.s (dB (!(withinB p 1 30))) (nT rfl) (Ch.s (dB (!(withinB p 1 30))) pm ?_))))
 cases h1 : (withinB p 1 30) with
 | true =>
  refine Ch.s (.ptr 1000 1) (fP fld24_1 rfl) (Ch.s (.d (.slice false 2 (ts.map Tra.d))) (lP ag22 rfl rfl rfl) (Ch.s (dI (ts.length : Int)) (.pure (.len _ _ 64 rfl Tryz.underlying22 (.sh _ _) (by simp))) (Ch.s (dB (decide (24 < (ts.length : Int)))) (iX rfl rfl rfl) (Ch.s (dB (decide (24 < (ts.length : Int)))) (pF rfl) (Ch.nil ?_)))))
  refine T_condD (p := (24 < (ts.length : Int))) rfl (fun h2 => ?_) (fun h2 => ?_)
  ·
   refine Ts hc (Ch.s (dB false) pa (Ch.nil (T_ret ?_)))
   exact eR [(dB false)] [] [] (.cons (.tmp 2 rfl) .nil) eA (Exp.of (congrArg D.bool a66) (.d _))
  ·
   refine Tk (Ts hc (Ch.s (.ptr 1000 1) (fP fld24_1 rfl) (Ch.s (.d (.slice false 2 (ts.map Tra.d))) (lP ag22 rfl rfl rfl) (Ch.s (.fn 110 [(.ptr 1000 0)]) (.pure (.func _ _ rfl rfl)) (Ch.s (dB (ts.any (fun t => !traB p t))) (.call 16000 109 _ _ _ en109 rfl (.inl rfl) (.cons (.d _) (.cons (.lend (.fn (.cons (.ptr rfl (.agg (.cons (.d _) (.cons (.d _) .nil)) rfl)) .nil))) .nil)) rfl rfl (sp_ContainsFunc_tra ts 110 [(.ref (.agg [(.int .i64 p), (.slice false 2 (ts.map Tra.d))]))] (fun t => !traB p t) en110 (fun t ht => sp_valid1 t p ts (hts.2 t ht).1 (hts.2 t ht).2 (by omega) (by omega)) a23) (.skip _ _ (.skip _ _ .nil)) rfl) (Ch.s (dB (!(ts.any (fun t => !traB p t)))) (nT rfl) ?_))))))
   refine Ch.s (dB (!(ts.any (fun t => !traB p t)))) pa (Ch.nil (T_ret ?_))
   exact eR [(dB (!(ts.any (fun t => !traB p t))))] [] [] (.cons (.tmp 2 rfl) .nil) eA (Exp.of (congrArg D.bool a66) (.d _))
 | false =>
  refine Ck (Ck (Ck (Ck (Ch.s (dB true) (pT rfl) (Ch.nil ?_)))))
  refine T_cond (b := true) rfl (fun _ => ?_) (fun h => nomatch h)
  refine Ts hc (Ch.s (dB false) pa (Ch.nil (T_ret ?_)))
  exact eR [(dB false)] [] [] (.cons (.tmp 2 rfl) .nil) eA (Exp.of (congrArg D.bool a66) (.d _))

theorem sp_spec_l1Good (p : Int) (ts : List Tra) (hts : trS ts) (h0 : 0 ≤ p) (h0u : p ≤ 1048576) : Sp Tryz.prog 33 [(.agg [(.int .i64 p), (.slice false 2 (ts.map Tra.d))])] [.any] (.bool (netB p ts)) := by
 refine Sp_intro (lend := true) Tryz.func33 rfl rfl rfl (fun _ => rfl) (fun c hc hX => ?_)
 have hn := hts.1
 refine Ts hc (Ch.s (.ptr 1000 0) (.box 1000 _ _ rfl (.aggD _)) (Ch.s (dB false) pa (Ch.nil (Tq (Tq (Tz hc ?_))))))
 refine Ch.s (.ptr 1000 1) (fP fld24_1 rfl) (Ch.s (.d (.slice false 2 (ts.map Tra.d))) (lP ag22 rfl rfl rfl) (Ch.s (dI (ts.length : Int)) (.pure (.len _ _ 64 rfl Tryz.underlying22 (.sh _ _) (by simp))) (Ch.s (dI 0) pm (Ch.nil (Tb ?_)))))
 refine T_loop (ι := Nat) (fun k => { n := 44, sl := [(1, (.ptr 1000 0)), (6, (.d (.slice false 2 (ts.map Tra.d)))), (7, (dI (ts.length : Int))), (8, (dI (k : Int)))], hp := [(1000, (some (.box [(dI p), (.d (.slice false 2 (ts.map Tra.d)))])))], pin := [] }) (fun k => k ≤ ts.length ∧ ∀ j, j < k → traB p (ts.getD j default) = true) (fun k => ts.length - k) ⟨0, ⟨by omega, fun j hj => by omega⟩, (Wk.of rfl rfl (ar (ar (ar (ai (vI a87) trivial)))) (ar trivial))⟩ (fun k hp0 => ?_)
 refine Ts hc (Ch.s (dB (decide ((k : Int) < (ts.length : Int)))) (iX rfl rfl rfl) (Ch.nil (Tq ?_)))
 refine T_condD (p := ((k : Int) < (ts.length : Int))) rfl (fun h1 => ?_) (fun h1 => ?_)
 ·
  try have hk := hts.2 _ (getD_mem (l := ts) (j := k) (d := default) (by omega))
  try have hk1 := hk.1
  try have hk2 := hk.2
  refine Tk (Tq (Tb (Ts hc (Ch.s (.d (.ref (.agg [(.slice false 1 (((ts.getD k default).pre).map (fun n : Int => D.int .i64 n))), (.slice false 1 (((ts.getD k default).post).map (fun n : Int => D.int .i64 n)))]))) (.pure (.idx _ _ _ 64 (k) rfl Tryz.underlying22 sz64 rfl rfl rfl get_mapA)) (Ch.s (.d (.agg [(.slice false 1 (((ts.getD k default).pre).map (fun n : Int => D.int .i64 n))), (.slice false 1 (((ts.getD k default).post).map (fun n : Int => D.int .i64 n)))])) (.pure (.loadRefA _ _ rfl ag64 sz64 rfl)) (Ch.s (.ptr 4000 0) (.alloc 4000 _ rfl zer64) ?_))))))
  refine Ch.s .junk (.storePtr _ _ _ rfl rfl rfl (.aggD _) sz64 (lb rfl)) (Ch.nil (Ts hc (Ch.s (.ptr 4000 0) (fP fld64_0 rfl) (Ch.s (.d (.slice false 1 (((ts.getD k default).pre).map (fun n : Int => D.int .i64 n)))) (lP ag62 rfl rfl rfl) (Ch.s (dI (((ts.getD k default).pre).length : Int)) (.pure (.len _ _ 3 rfl Tryz.underlying62 (.sh _ _) (by simp))) (Ch.s (dB (decide ((((ts.getD k default).pre).length : Int) = 0))) (iX rfl rfl rfl) ?_))))))
  refine Ch.s (dB (decide ((((ts.getD k default).pre).length : Int) = 0))) pm ?_
  cases h2 : (decide ((((ts.getD k default).pre).length : Int) = 0)) with
  | true =>
   replace h2 := odt h2
   refine Ck (Ck (Ck (Ck (Ck (Ck (Ck (Ch.s (dB true) (pT rfl) ?_)))))))
   refine Ch.s (dB true) pm (Ck (Ck (Ck (Ck (Ck (Ck (Ch.skip rfl rfl ?_)))))))
   refine Ch.s (dB true) (pT rfl) (Ch.nil ?_)
   refine T_cond (b := true) rfl (fun _ => ?_) (fun h => nomatch h)
   refine Ts hc (Ch.s (dB false) pa (Ch.nil (T_ret ?_)))
   exact eR [(dB false)] [] [] (.cons (.tmp 2 rfl) .nil) eA (Exp.of (congrArg D.bool a10) (.d _))
  | false =>
   replace h2 := odf h2
   refine Ch.s (.ptr 4000 0) (fP fld64_0 rfl) (Ch.s (.d (.slice false 1 (((ts.getD k default).pre).map (fun n : Int => D.int .i64 n)))) (lP ag62 rfl rfl rfl) (Ch.s (.ptr 1000 0) (fP fld24_0 rfl) (Ch.s (dI p) (lP ag3 rfl rfl rfl) (Ch.s (dI (p - 1)) (iX rfl rfl intV_subA) (Ch.s (dB (risB ((ts.getD k default).pre) 0 (p - 1))) (.call 22000 57 _ _ _ en57 rfl (.inl rfl) (.cons (.d _) (.cons (.d _) .nil)) rfl rfl (sp_spec_l1Set2 ((ts.getD k default).pre) (p - 1) a23) (.skip _ _ (.skip _ _ .nil)) rfl) (Ch.s (dB (!(risB ((ts.getD k default).pre) 0 (p - 1)))) (nT rfl) (Ch.s (dB (!(risB ((ts.getD k default).pre) 0 (p - 1)))) (pF rfl) ?_)))))))
   refine Ch.s (dB (!(risB ((ts.getD k default).pre) 0 (p - 1)))) pm ?_
   cases h3 : (risB ((ts.getD k default).pre) 0 (p - 1)) with
   | true =>
    refine Ch.s (.ptr 4000 1) (fP fld64_1 rfl) (Ch.s (.d (.slice false 1 (((ts.getD k default).post).map (fun n : Int => D.int .i64 n)))) (lP ag62 rfl rfl rfl) (Ch.s (.ptr 1000 0) (fP fld24_0 rfl) (Ch.s (dI p) (lP ag3 rfl rfl rfl) (Ch.s (dI (p - 1)) (iX rfl rfl intV_subA) (Ch.s (dB (risB ((ts.getD k default).post) 0 (p - 1))) (.call 31000 57 _ _ _ en57 rfl (.inl rfl) (.cons (.d _) (.cons (.d _) .nil)) rfl rfl (sp_spec_l1Set2 ((ts.getD k default).post) (p - 1) a23) (.skip _ _ (.skip _ _ .nil)) rfl) (Ch.s (dB (!(risB ((ts.getD k default).post) 0 (p - 1)))) (nT rfl) (Ch.s (dB (!(risB ((ts.getD k default).post) 0 (p - 1)))) (pF rfl) ?_)))))))
    refine Ch.nil ?_
    refine T_condN (b := (risB ((ts.getD k default).post) 0 (p - 1))) rfl (fun h4 => ?_) (fun h4 => ?_)
    ·
     refine Ts hc (Ch.s (dB false) pa (Ch.nil (T_ret ?_)))
     exact eR [(dB false)] [] [] (.cons (.tmp 2 rfl) .nil) eA (Exp.of (congrArg D.bool a10) (.d _))
    ·
     refine Tk (Tz hc (Ch.s (dI ((k : Int) + 1)) (iX rfl rfl intV_addA) (Ch.s (dI ((k : Int) + 1)) pm (Ch.nil ?_))))
     exact nx (k + 1) ⟨by omega, upto_succ hp0.2 a65⟩ (Wk.of rfl rfl (ar (ar (ar (ai (vI a87) trivial)))) (ar trivial))
   | false =>
    refine Ck (Ck (Ck (Ck (Ck (Ck (Ck (Ch.s (dB true) (pT rfl) ?_)))))))
    refine Ch.nil ?_
    refine T_cond (b := true) rfl (fun _ => ?_) (fun h => nomatch h)
    refine Ts hc (Ch.s (dB false) pa (Ch.nil (T_ret ?_)))
    exact eR [(dB false)] [] [] (.cons (.tmp 2 rfl) .nil) eA (Exp.of (congrArg D.bool a10) (.d _))
 ·
  try have hk := hts.2 _ (getD_mem (l := ts) (j := k) (d := default) (by omega))
  try have hk1 := hk.1
  try have hk2 := hk.2
  refine T_exit (Ts hc (Ch.s (.ptr 1000 0) (fP fld24_0 rfl) (Ch.s (dI p) (lP ag3 rfl rfl rfl) (Ch.s (dB (withinB p 1 30)) (.call 37000 29 _ _ _ en29 rfl (.inl rfl) (.cons (.d _) (.cons (.d _) (.cons (.d _) .nil))) rfl rfl (sp_spec_l1In p 1 30) (.skip _ _ (.skip _ _ (.skip _ _ .nil))) rfl) (Ch.s (dB (withinB p 1 30)) pm ?_)))))
  cases h5 : (withinB p 1 30) with
  | true =>
   refine Ch.s (.ptr 1000 1) (fP fld24_1 rfl) (Ch.s (.d (.slice false 2 (ts.map Tra.d))) (lP ag22 rfl rfl rfl) (Ch.s (dI (ts.length : Int)) (.pure (.len _ _ 64 rfl Tryz.underlying22 (.sh _ _) (by simp))) (Ch.s (dB (decide ((ts.length : Int) ≤ 24))) (iX rfl rfl rfl) (Ch.s (dB (decide ((ts.length : Int) ≤ 24))) (pT rfl) (Ch.s (dB (decide ((ts.length : Int) ≤ 24))) pa (Ch.nil (T_ret ?_)))))))
   exact eR [(dB (decide ((ts.length : Int) ≤ 24)))] [] [] (.cons (.tmp 2 rfl) .nil) eA (Exp.of (congrArg D.bool a10) (.d _))
  | false =>
   refine Ck (Ck (Ck (Ck (Ch.s (dB false) (pF rfl) (Ch.s (dB false) pa (Ch.nil (T_ret ?_)))))))
   exact eR [(dB false)] [] [] (.cons (.tmp 2 rfl) .nil) eA (Exp.of (congrArg D.bool a10) (.d _))

theorem sp_impl_IsValidMarking (p : Int) (ts : List Tra) (m : List UInt8) (hts : trS ts) (h0 : 0 ≤ p) (h0u : p ≤ 1048576) (hm : m.length ≤ 1048576) : Sp Tryz.prog 86 [(.agg [(.int .i64 p), (.slice false 2 (ts.map Tra.d))]), (.str m)] [.any, .any] (.bool (netB p ts && codeN m p)) := by
 refine Sp_intro (lend := true) Tryz.func86 rfl rfl rfl (fun _ => rfl) (fun c hc hX => ?_)
 refine Ts hc (Ch.s (.ptr 2000 0) (.box 2000 _ _ rfl (.aggD _)) (Ch.s (dB false) pa (Ch.nil (Ts hc (Ch.s (.agg [(dI p), (.d (.slice false 2 (ts.map Tra.d)))]) (lA ag24 sz24 rfl rfl (lb rfl) rfl) ?_)))))
 refine Ch.s (dB (netB p ts)) (.call 6000 100 _ _ _ en100 rfl (.inl rfl) (.cons (.lend (.agg (.cons (.d _) (.cons (.d _) .nil)) rfl)) .nil) rfl rfl (sp_impl_IsValidNet p ts (by assumption) a23 a23) (.skip _ _ .nil) rfl) (Ch.s (dB (netB p ts)) pm ?_)
 cases h1 : (netB p ts) with
 | true =>
  refine Ch.s (dS m) pm (Ch.s (.ptr 2000 0) (fP fld24_0 rfl) (Ch.s (dI p) (lP ag3 rfl rfl rfl) (Ch.s (dB (codeN m p)) (.call 11000 101 _ _ _ en101 rfl (.inl rfl) (.cons (.d _) (.cons (.d _) .nil)) rfl rfl (sp_impl_isBits m p a23) (.skip _ _ (.skip _ _ .nil)) rfl) (Ch.s (dB (codeN m p)) (pT rfl) (Ch.s (dB (codeN m p)) pa (Ch.nil (T_ret ?_)))))))
  exact eR [(dB (codeN m p))] [] [] (.cons (.tmp 4 rfl) .nil) eB (Exp.of (congrArg D.bool (by simp_all)) (.d _))
 | false =>
  refine Ck (Ck (Ck (Ck (Ch.s (dB false) (pF rfl) (Ch.s (dB false) pa (Ch.nil (T_ret ?_)))))))
  exact eR [(dB false)] [] [] (.cons (.tmp 4 rfl) .nil) eB (Exp.of (congrArg D.bool (by simp_all)) (.d _))

theorem sp_spec_l1Mark (p : Int) (ts : List Tra) (m : List UInt8) (hts : trS ts) (h0 : 0 ≤ p) (h0u : p ≤ 1048576) (hm : m.length ≤ 1048576) : Sp Tryz.prog 35 [(.agg [(.int .i64 p), (.slice false 2 (ts.map Tra.d))]), (.str m)] [.any, .any] (.bool (codeN m p)) := by
 refine Sp_intro (lend := true) Tryz.func35 rfl rfl rfl (fun _ => rfl) (fun c hc hX => ?_)
 refine Ts hc (Ch.s (.ptr 2000 0) (.box 2000 _ _ rfl (.aggD _)) (Ch.s (dB false) pa (Ch.nil (Tq (Tq (Tz hc ?_))))))
 refine Ch.s (dI 0) pa (Ch.nil (Tb ?_))
 refine T_loop (ι := Nat) (fun k => { n := 27, sl := [(1, (dS m)), (2, (.ptr 2000 0)), (5, (dI (k : Int)))], hp := [(2000, (some (.box [(dI p), (.d (.slice false 2 (ts.map Tra.d)))])))], pin := [] }) (fun k => k ≤ m.length ∧ ∀ j, j < k → codeCh (m.getD j 0) = true) (fun k => m.length - k) ⟨0, ⟨by omega, fun j hj => by omega⟩, (Wk.of rfl rfl (ar (ar (ai (vI a87) trivial))) (ar trivial))⟩ (fun k hp0 => ?_)
 refine Tq (Ts hc (Ch.s (dI (k : Int)) pm (Ch.s (dS m) pm (Ch.s (dI (m.length : Int)) (.pure (.lenStr _ _ rfl Tryz.underlying9 rfl)) (Ch.s (dB (decide ((k : Int) < (m.length : Int)))) (iX rfl rfl rfl) (Ch.nil ?_))))))
 refine T_condD (p := ((k : Int) < (m.length : Int))) rfl (fun h1 => ?_) (fun h1 => ?_)
 ·
  refine Tk (Tq (Tb (Ts hc (Ch.s (dS m) pm (Ch.s (dI (k : Int)) pm (Ch.s (.d (.int .u8 ((m.getD k 0).toNat : Int))) (.pure (.idxStr _ _ _ (k) rfl Tryz.underlying9 rfl rfl rfl get_strA)) ?_))))))
  refine Ch.s (dB (!(decide (((m.getD k 0) : UInt8) = 48)))) (iX rfl rfl (u8_neq ((m.getD k 0) : UInt8) 48 rfl rfl)) (Ch.s (dB (!(decide (((m.getD k 0) : UInt8) = 48)))) pm ?_)
  cases h2 : (decide (((m.getD k 0) : UInt8) = 48)) with
  | true =>
   replace h2 := odt h2
   refine Ck (Ck (Ck (Ck (Ch.s (dB false) (pF rfl) (Ch.nil ?_)))))
   refine T_cond (b := false) rfl (fun h => nomatch h) (fun _ => ?_)
   refine Tk (Tz hc (Ch.s (dI (k : Int)) pm (Ch.s (dI ((k : Int) + 1)) (iX rfl rfl intV_addA) (Ch.s (dI ((k : Int) + 1)) pa (Ch.nil ?_)))))
   exact nx (k + 1) ⟨by omega, upto_succ hp0.2 (by simp_all [codeCh])⟩ (Wk.of rfl rfl (ar (ar (ai (vI a87) trivial))) (ar trivial))
  | false =>
   replace h2 := odf h2
   refine Ch.s (dS m) pm (Ch.s (dI (k : Int)) pm (Ch.s (.d (.int .u8 ((m.getD k 0).toNat : Int))) (.pure (.idxStr _ _ _ (k) rfl Tryz.underlying9 rfl rfl rfl get_strA)) (Ch.s (dB (!(decide (((m.getD k 0) : UInt8) = 49)))) (iX rfl rfl (u8_neq ((m.getD k 0) : UInt8) 49 rfl rfl)) (Ch.s (dB (!(decide (((m.getD k 0) : UInt8) = 49)))) (pT rfl) (Ch.nil ?_)))))
   refine T_condN (b := (decide (((m.getD k 0) : UInt8) = 49))) rfl (fun h3 => ?_) (fun h3 => ?_)
   ·
    replace h3 := odf h3
    refine Ts hc (Ch.s (dB false) pa (Ch.nil (T_ret ?_)))
    exact eR [(dB false)] [] [] (.cons (.tmp 4 rfl) .nil) eB (Exp.of (congrArg D.bool a29) (.d _))
   ·
    replace h3 := odt h3
    refine Tk (Tz hc (Ch.s (dI (k : Int)) pm (Ch.s (dI ((k : Int) + 1)) (iX rfl rfl intV_addA) (Ch.s (dI ((k : Int) + 1)) pa (Ch.nil ?_)))))
    exact nx (k + 1) ⟨by omega, upto_succ hp0.2 (by simp_all [codeCh])⟩ (Wk.of rfl rfl (ar (ar (ai (vI a87) trivial))) (ar trivial))
 ·
  refine T_exit (Ts hc (Ch.s (dS m) pm (Ch.s (dI (m.length : Int)) (.pure (.lenStr _ _ rfl Tryz.underlying9 rfl)) (Ch.s (.ptr 2000 0) (fP fld24_0 rfl) (Ch.s (dI p) (lP ag3 rfl rfl rfl) (Ch.s (dB (decide ((m.length : Int) = p))) (iX rfl rfl rfl) ?_))))))
  refine Ch.s (dB (decide ((m.length : Int) = p))) pa (Ch.nil (T_ret ?_))
  exact eR [(dB (decide ((m.length : Int) = p)))] [] [] (.cons (.tmp 4 rfl) .nil) eB (Exp.of (congrArg D.bool a29) (.d _))

theorem sp_impl_isEdge (l : Lab) (n : Int) (hn0 : 0 ≤ n) (hn : n ≤ 1048576) : Sp Tryz.prog 90 [(.agg [(.int .i64 l.sig), (.bool (l.up))]), (.int .i64 n)] [.any, .any] (.bool (edgeB l n)) := by
 refine Sp_intro (lend := true) Tryz.func90 rfl rfl rfl (fun _ => rfl) (fun c hc hX => ?_)
 refine Ts hc (Ch.s (.ptr 2000 0) (.box 2000 _ _ rfl (.aggD _)) (Ch.s (dB false) pa (Ch.nil (Ts hc (Ch.s (.ptr 2000 0) (fP fld67_0 rfl) ?_)))))
 refine Ch.s (dI l.sig) (lP ag3 rfl rfl rfl) (Ch.s (dI n) pm (Ch.s (dI (n - 1)) (iX rfl rfl intV_subA) (Ch.s (dB (withinB l.sig 0 (n - 1))) (.call 9000 42 _ _ _ en42 rfl (.inl rfl) (.cons (.d _) (.cons (.d _) (.cons (.d _) .nil))) rfl rfl (sp_impl_within l.sig 0 (n - 1)) (.skip _ _ (.skip _ _ (.skip _ _ .nil))) rfl) (Ch.s (dB (withinB l.sig 0 (n - 1))) pm ?_))))
 cases h1 : (withinB l.sig 0 (n - 1)) with
 | true =>
  refine Ck (Ck (Ck (Ch.s (dB true) (pT rfl) (Ch.s (dB true) pa (Ch.nil (T_ret ?_))))))
  exact eR [(dB true)] [] [] (.cons (.tmp 4 rfl) .nil) eB (Exp.of (congrArg D.bool a62) (.d _))
 | false =>
  refine Ch.s (.agg [(dI l.sig), (dB (l.up))]) (lA ag67 sz67 rfl rfl (lb rfl) rfl) (Ch.s (.agg [(dI (-1)), (dB false)]) (.build _ _ rfl stru67 (.cons (.one _ rfl) .nil) rfl) (Ch.s (dB (decide (l = (Lab.mk (-1) false)))) (.pure (.eqA _ _ _ _ rfl (eqa67 _ _ _ _) (.v [(.int .i64 l.sig), (.bool (l.up))]) (.v [(.int .i64 (-1)), (.bool false)]) (Lab.eqv l (Lab.mk (-1) false)))) (Ch.s (dB (decide (l = (Lab.mk (-1) false)))) (pF rfl) (Ch.s (dB (decide (l = (Lab.mk (-1) false)))) pa (Ch.nil (T_ret ?_))))))
  exact eR [(dB (decide (l = (Lab.mk (-1) false))))] [] [] (.cons (.tmp 4 rfl) .nil) eB (Exp.of (congrArg D.bool a62) (.d _))

theorem sp_spec_l2Label (l : Lab) (n : Int) (hn0 : 0 ≤ n) (hn : n ≤ 1048576) : Sp Tryz.prog 32 [(.agg [(.int .i64 l.sig), (.bool (l.up))]), (.int .i64 n)] [.any, .any] (.bool (edgeB l n)) := by
 refine Sp_intro (lend := true) Tryz.func32 rfl rfl rfl (fun _ => rfl) (fun c hc hX => ?_)
 refine Ts hc (Ch.s (.ptr 2000 0) (.box 2000 _ _ rfl (.aggD _)) (Ch.s (dB false) pa (Ch.nil (Ts hc (Ch.s (.ptr 2000 0) (fP fld67_0 rfl) ?_)))))
 refine Ch.s (dI l.sig) (lP ag3 rfl rfl rfl) (Ch.s (dI n) pm (Ch.s (dI (n - 1)) (iX rfl rfl intV_subA) (Ch.s (dB (withinB l.sig 0 (n - 1))) (.call 9000 29 _ _ _ en29 rfl (.inl rfl) (.cons (.d _) (.cons (.d _) (.cons (.d _) .nil))) rfl rfl (sp_spec_l1In l.sig 0 (n - 1)) (.skip _ _ (.skip _ _ (.skip _ _ .nil))) rfl) (Ch.s (dB (withinB l.sig 0 (n - 1))) pm ?_))))
 cases h1 : (withinB l.sig 0 (n - 1)) with
 | true =>
  refine Ck (Ck (Ck (Ck (Ck (Ck (Ck (Ch.skip rfl rfl ?_)))))))
  refine Ch.s (dB true) (pT rfl) (Ch.s (dB true) pa (Ch.nil (T_ret ?_)))
  exact eR [(dB true)] [] [] (.cons (.tmp 4 rfl) .nil) eB (Exp.of (congrArg D.bool a62) (.d _))
 | false =>
  refine Ch.s (.ptr 2000 0) (fP fld67_0 rfl) (Ch.s (dI l.sig) (lP ag3 rfl rfl rfl) (Ch.s (dB (decide (l.sig = (-1)))) (iX rfl rfl rfl) (Ch.s (dB (decide (l.sig = (-1)))) pm ?_)))
  cases h2 : (decide (l.sig = (-1))) with
  | true =>
   replace h2 := odt h2
   refine Ch.s (.ptr 2000 1) (fP fld67_1 rfl) (Ch.s (dB (l.up)) (lP ag4 rfl rfl rfl) (Ch.s (dB (!(l.up))) (nT rfl) (Ch.s (dB (!(l.up))) (pT rfl) (Ch.s (dB (!(l.up))) (pF rfl) (Ch.s (dB (!(l.up))) pa (Ch.nil (T_ret ?_)))))))
   exact eR [(dB (!(l.up)))] [] [] (.cons (.tmp 4 rfl) .nil) eB (Exp.of (congrArg D.bool a62) (.d _))
  | false =>
   replace h2 := odf h2
   refine Ck (Ck (Ck (Ch.s (dB false) (pF rfl) (Ch.s (dB false) (pF rfl) (Ch.s (dB false) pa (Ch.nil (T_ret ?_)))))))
   exact eR [(dB false)] [] [] (.cons (.tmp 4 rfl) .nil) eB (Exp.of (congrArg D.bool a62) (.d _))

theorem sp_areSig (xs : List Sgn) (hs : sgS xs) : Sp Tryz.prog 87 [(.slice false 2 (xs.map Sgn.d))] [.any] (.bool (sigsB xs)) := by
 refine Sp_intro (lend := true) Tryz.func87 rfl rfl rfl (fun _ => rfl) (fun c hc hX => ?_)
 have hn := hs.1
 refine Ts hc (Ch.s (dB false) pa (Ch.nil (Tq (Ts hc (Ch.s (.d (.slice false 2 (xs.map Sgn.d))) pm ?_)))))
 refine Ch.s (dI (xs.length : Int)) (.pure (.len _ _ 77 rfl Tryz.underlying25 (.sh _ _) (by simp))) (Ch.s (dI 0) pm (Ch.nil (Tb ?_)))
 refine T_loop (ι := Nat) (fun k => { n := 33, sl := [(0, (.d (.slice false 2 (xs.map Sgn.d)))), (5, (.d (.slice false 2 (xs.map Sgn.d)))), (6, (dI (xs.length : Int))), (7, (dI (k : Int)))], hp := [], pin := [] }) (fun k => k ≤ xs.length ∧ ∀ j, j < k → sigOk xs j = true) (fun k => xs.length - k) ⟨0, ⟨by omega, fun j hj => by omega⟩, (Wk.of rfl rfl (ar (ar (ar (ai (vI a87) trivial)))) trivial)⟩ (fun k hp0 => ?_)
 refine Ts hc (Ch.s (dB (decide ((k : Int) < (xs.length : Int)))) (iX rfl rfl rfl) (Ch.nil (Tq ?_)))
 refine T_condD (p := ((k : Int) < (xs.length : Int))) rfl (fun h1 => ?_) (fun h1 => ?_)
 ·
  try have hk : (xs.getD k default).name.length ≤ 1048576 := hs.2 _ (getD_mem (l := xs) (j := k) (d := default) (by omega))
  refine Tk (Tq (Tb (Ts hc (Ch.s (dI (k : Int)) pm (Ch.s (.d (.ref (.agg [(.str ((xs.getD k default).name)), (.int .i64 ((xs.getD k default).kind))]))) (.pure (.idx _ _ _ 77 (k) rfl Tryz.underlying25 sz77 rfl rfl rfl get_mapA)) (Ch.s (.d (.agg [(.str ((xs.getD k default).name)), (.int .i64 ((xs.getD k default).kind))])) (.pure (.loadRefA _ _ rfl ag77 sz77 rfl)) ?_))))))
  refine Ch.s (.ptr 4000 0) (.alloc 4000 _ rfl zer77) (Ch.s (dI (k : Int)) pa (Ch.s .junk (.storePtr _ _ _ rfl rfl rfl (.aggD _) sz77 (lb rfl)) (Ch.nil (Ts hc (Ch.s (.ptr 4000 0) (fP fld77_0 rfl) (Ch.s (dS ((xs.getD k default).name)) (lP ag9 rfl rfl rfl) ?_))))))
  refine Ch.s (dB (nameB ((xs.getD k default).name))) (.call 14000 102 _ _ _ en102 rfl (.inl rfl) (.cons (.d _) .nil) rfl rfl (sp_impl_isName ((xs.getD k default).name) a7) (.skip _ _ .nil) rfl) (Ch.s (dB (!(nameB ((xs.getD k default).name)))) (nT rfl) (Ch.s (dB (!(nameB ((xs.getD k default).name)))) pm ?_))
  cases h2 : (nameB ((xs.getD k default).name)) with
  | true =>
   refine Ch.s (.ptr 4000 1) (fP fld77_1 rfl) (Ch.s (dI ((xs.getD k default).kind)) (lP ag3 rfl rfl rfl) (Ch.s (dB (withinB ((xs.getD k default).kind) 1 3)) (.call 19000 42 _ _ _ en42 rfl (.inl rfl) (.cons (.d _) (.cons (.d _) (.cons (.d _) .nil))) rfl rfl (sp_impl_within ((xs.getD k default).kind) 1 3) (.skip _ _ (.skip _ _ (.skip _ _ .nil))) rfl) (Ch.s (dB (!(withinB ((xs.getD k default).kind) 1 3))) (nT rfl) (Ch.s (dB (!(withinB ((xs.getD k default).kind) 1 3))) (pF rfl) (Ch.s (dB (!(withinB ((xs.getD k default).kind) 1 3))) pm ?_)))))
   cases h3 : (withinB ((xs.getD k default).kind) 1 3) with
   | true =>
    refine Ch.s (.d (.slice false 2 (xs.map Sgn.d))) pm (Ch.s (dI (k : Int)) pm (Ch.s (.d (.slice false 2 ((xs.take k).map Sgn.d))) (.pure (.sliceSh _ _ _ _ 77 (0) (k) rfl Tryz.underlying25 sz77 rfl (bndN rfl) (bndS rfl rfl) (by simp <;> omega) (by simp <;> omega) a41)) (Ch.s (.fn 104 [(.ptr 4000 0)]) (.pure (.func _ _ rfl rfl)) (Ch.s (dB ((xs.take k).any (fun y => decide (y.name = (xs.getD k default).name)))) (.call 27000 103 _ _ _ en103 rfl (.inl rfl) (.cons (.d _) (.cons (.lend (.fn (.cons (.ptr rfl (.agg (.cons (.d _) (.cons (.d _) .nil)) rfl)) .nil))) .nil)) rfl rfl (sp_ContainsFunc_sgn (xs.take k) 104 [(.ref (.agg [(.str ((xs.getD k default).name)), (.int .i64 ((xs.getD k default).kind))]))] (fun y => decide (y.name = (xs.getD k default).name)) en104 (fun y _ => sp_impl_areSignals_1 y (xs.getD k default)) a7) (.skip _ _ (.skip _ _ .nil)) rfl) (Ch.s (dB ((xs.take k).any (fun y => decide (y.name = (xs.getD k default).name)))) (pF rfl) (Ch.nil ?_))))))
    refine T_cond (b := ((xs.take k).any (fun y => decide (y.name = (xs.getD k default).name)))) rfl (fun h4 => ?_) (fun h4 => ?_)
    ·
     refine Ts hc (Ch.s (dB false) pa (Ch.nil (T_ret ?_)))
     exact eR [(dB false)] [] [] (.cons (.tmp 2 rfl) .nil) eA (Exp.of (congrArg D.bool a21) (.d _))
    ·
     refine Tk (Tz hc (Ch.s (dI ((k : Int) + 1)) (iX rfl rfl intV_addA) (Ch.s (dI ((k : Int) + 1)) pm (Ch.nil ?_))))
     exact nx (k + 1) ⟨by omega, upto_succ hp0.2 a31⟩ (Wk.of rfl rfl (ar (ar (ar (ai (vI a87) trivial)))) trivial)
   | false =>
    refine Ck (Ck (Ck (Ck (Ck (Ch.s (dB true) (pT rfl) (Ch.nil ?_))))))
    refine T_cond (b := true) rfl (fun _ => ?_) (fun h => nomatch h)
    refine Ts hc (Ch.s (dB false) pa (Ch.nil (T_ret ?_)))
    exact eR [(dB false)] [] [] (.cons (.tmp 2 rfl) .nil) eA (Exp.of (congrArg D.bool a21) (.d _))
  | false =>
   refine Ck (Ck (Ck (Ck (Ch.s (dB true) (pT rfl) (Ch.s (dB true) pm (Ck (Ch.skip rfl rfl ?_)))))))
   refine Ck (Ck (Ck (Ch.s (dB true) (pT rfl) (Ch.nil ?_))))
   refine T_cond (b := true) rfl (fun _ => ?_) (fun h => nomatch h)
   refine Ts hc (Ch.s (dB false) pa (Ch.nil (T_ret ?_)))
   exact eR [(dB false)] [] [] (.cons (.tmp 2 rfl) .nil) eA (Exp.of (congrArg D.bool a21) (.d _))
 ·
  try have hk : (xs.getD k default).name.length ≤ 1048576 := hs.2 _ (getD_mem (l := xs) (j := k) (d := default) (by omega))
  refine T_exit (Ts hc (Ch.s (.d (.slice false 2 (xs.map Sgn.d))) pm (Ch.s (dI (xs.length : Int)) (.pure (.len _ _ 77 rfl Tryz.underlying25 (.sh _ _) (by simp))) (Ch.s (dB (withinB (xs.length : Int) 1 8)) (.call 32000 42 _ _ _ en42 rfl (.inl rfl) (.cons (.d _) (.cons (.d _) (.cons (.d _) .nil))) rfl rfl (sp_impl_within (xs.length : Int) 1 8) (.skip _ _ (.skip _ _ (.skip _ _ .nil))) rfl) (Ch.s (dB (withinB (xs.length : Int) 1 8)) pa (Ch.nil ?_))))))
  refine T_ret ?_
  exact eR [(dB (withinB (xs.length : Int) 1 8))] [] [] (.cons (.tmp 2 rfl) .nil) eA (Exp.of (congrArg D.bool a21) (.d _))

theorem sp_l2Sig (xs : List Sgn) (hs : sgS xs) : Sp Tryz.prog 34 [(.slice false 2 (xs.map Sgn.d))] [.any] (.bool (sigsB xs)) := by
 refine Sp_intro (lend := true) Tryz.func34 rfl rfl rfl (fun _ => rfl) (fun c hc hX => ?_)
 have hn := hs.1
 refine Ts hc (Ch.s (dB false) pa (Ch.nil (Tq (Ts hc (Ch.s (.d (.slice false 2 (xs.map Sgn.d))) pm ?_)))))
 refine Ch.s (dI (xs.length : Int)) (.pure (.len _ _ 77 rfl Tryz.underlying25 (.sh _ _) (by simp))) (Ch.s (dI 0) pm (Ch.nil (Tb ?_)))
 refine T_loop (ι := Nat) (fun k => { n := 42, sl := [(0, (.d (.slice false 2 (xs.map Sgn.d)))), (7, (.d (.slice false 2 (xs.map Sgn.d)))), (8, (dI (xs.length : Int))), (9, (dI (k : Int)))], hp := [], pin := [] }) (fun k => k ≤ xs.length ∧ ∀ j, j < k → sigOk xs j = true) (fun k => xs.length - k) ⟨0, ⟨by omega, fun j hj => by omega⟩, (Wk.of rfl rfl (ar (ar (ar (ai (vI a87) trivial)))) trivial)⟩ (fun k hp0 => ?_)
 refine Ts hc (Ch.s (dB (decide ((k : Int) < (xs.length : Int)))) (iX rfl rfl rfl) (Ch.nil (Tq ?_)))
 refine T_condD (p := ((k : Int) < (xs.length : Int))) rfl (fun h1 => ?_) (fun h1 => ?_)
 ·
  try have hk : (xs.getD k default).name.length ≤ 1048576 := hs.2 _ (getD_mem (l := xs) (j := k) (d := default) (by omega))
  refine Tk (Tq (Tb (Ts hc (Ch.s (dI (k : Int)) pm (Ch.s (.d (.ref (.agg [(.str ((xs.getD k default).name)), (.int .i64 ((xs.getD k default).kind))]))) (.pure (.idx _ _ _ 77 (k) rfl Tryz.underlying25 sz77 rfl rfl rfl get_mapA)) (Ch.s (.d (.agg [(.str ((xs.getD k default).name)), (.int .i64 ((xs.getD k default).kind))])) (.pure (.loadRefA _ _ rfl ag77 sz77 rfl)) ?_))))))
  refine Ch.s (.ptr 4000 0) (.alloc 4000 _ rfl zer77) (Ch.s (dI (k : Int)) pa (Ch.s .junk (.storePtr _ _ _ rfl rfl rfl (.aggD _) sz77 (lb rfl)) (Ch.nil (Tq (Ts hc (Ch.s (.ptr 4000 0) (fP fld77_0 rfl) ?_))))))
  refine Ch.s (dS ((xs.getD k default).name)) (lP ag9 rfl rfl rfl) (Ch.s (dB (nameB ((xs.getD k default).name))) (.call 16000 58 _ _ _ en58 rfl (.inl rfl) (.cons (.d _) .nil) rfl rfl (sp_spec_l2Name ((xs.getD k default).name) a7) (.skip _ _ .nil) rfl) (Ch.s (dB (!(nameB ((xs.getD k default).name)))) (nT rfl) (Ch.s (dB (!(nameB ((xs.getD k default).name)))) pm ?_)))
  cases h2 : (nameB ((xs.getD k default).name)) with
  | true =>
   refine Ch.s (.ptr 4000 1) (fP fld77_1 rfl) (Ch.s (dI ((xs.getD k default).kind)) (lP ag3 rfl rfl rfl) (Ch.s (dB (withinB ((xs.getD k default).kind) 1 3)) (.call 21000 29 _ _ _ en29 rfl (.inl rfl) (.cons (.d _) (.cons (.d _) (.cons (.d _) .nil))) rfl rfl (sp_spec_l1In ((xs.getD k default).kind) 1 3) (.skip _ _ (.skip _ _ (.skip _ _ .nil))) rfl) (Ch.s (dB (!(withinB ((xs.getD k default).kind) 1 3))) (nT rfl) (Ch.s (dB (!(withinB ((xs.getD k default).kind) 1 3))) (pF rfl) (Ch.nil ?_)))))
   refine T_condN (b := (withinB ((xs.getD k default).kind) 1 3)) rfl (fun h3 => ?_) (fun h3 => ?_)
   ·
    refine Ts hc (Ch.s (dB false) pa (Ch.nil (T_ret ?_)))
    exact eR [(dB false)] [] [] (.cons (.tmp 2 rfl) .nil) eA (Exp.of (congrArg D.bool a9) (.d _))
   ·
    refine Tk (Ts hc (Ch.s (.d (.slice false 2 (xs.map Sgn.d))) pm (Ch.s (dI (k : Int)) pm (Ch.s (.d (.slice false 2 ((xs.take k).map Sgn.d))) (.pure (.sliceSh _ _ _ _ 77 (0) (k) rfl Tryz.underlying25 sz77 rfl (bndN rfl) (bndS rfl rfl) (by simp <;> omega) (by simp <;> omega) a41)) (Ch.s (dI ((xs.take k).length : Int)) (.pure (.len _ _ 77 rfl Tryz.underlying25 (.sh _ _) (by simp))) (Ch.s (dI 0) pm ?_))))))
    refine Ch.nil (Tb ?_)
    refine T_loop (ι := Nat) (fun m => { n := 42, sl := [(0, (.d (.slice false 2 (xs.map Sgn.d)))), (4, (.ptr 4000 0)), (7, (.d (.slice false 2 (xs.map Sgn.d)))), (8, (dI (xs.length : Int))), (9, (dI (k : Int))), (26, (.d (.slice false 2 ((xs.take k).map Sgn.d)))), (27, (dI ((xs.take k).length : Int))), (28, (dI (m : Int)))], hp := [(4000, (some (.box [(dS ((xs.getD k default).name)), (dI ((xs.getD k default).kind))])))], pin := [] }) (fun m => m ≤ (xs.take k).length ∧ ∀ j, j < m → decide (((xs.take k).getD j default).name = (xs.getD k default).name) = false) (fun m => (xs.take k).length - m) ⟨0, ⟨by omega, fun j hj => by omega⟩, (Wk.of rfl rfl (ar (ar (ar (ar (ar (ar (ar (ai (vI a87) trivial)))))))) (ar trivial))⟩ (fun m hp1 => ?_)
    have hlt : (xs.take k).length = k := by simp; omega
    refine Ts hc (Ch.s (dB (decide ((m : Int) < ((xs.take k).length : Int)))) (iX rfl rfl rfl) (Ch.nil (Tq ?_)))
    refine T_condD (p := ((m : Int) < ((xs.take k).length : Int))) rfl (fun h4 => ?_) (fun h4 => ?_)
    ·
     refine Tk (Tq (Tb (Ts hc (Ch.s (.d (.ref (.agg [(.str (((xs.take k).getD m default).name)), (.int .i64 (((xs.take k).getD m default).kind))]))) (.pure (.idx _ _ _ 77 (m) rfl Tryz.underlying25 sz77 rfl rfl rfl get_mapA)) (Ch.s (.d (.agg [(.str (((xs.take k).getD m default).name)), (.int .i64 (((xs.take k).getD m default).kind))])) (.pure (.loadRefA _ _ rfl ag77 sz77 rfl)) (Ch.s (.ptr 6000 0) (.alloc 6000 _ rfl zer77) ?_))))))
     refine Ch.s .junk (.storePtr _ _ _ rfl rfl rfl (.aggD _) sz77 (lb rfl)) (Ch.nil (Ts hc (Ch.s (.ptr 4000 0) (fP fld77_0 rfl) (Ch.s (dS ((xs.getD k default).name)) (lP ag9 rfl rfl rfl) (Ch.s (.ptr 6000 0) (fP fld77_0 rfl) (Ch.s (dS (((xs.take k).getD m default).name)) (lP ag9 rfl rfl rfl) ?_))))))
     refine Ch.s (dB (decide (((xs.getD k default).name) = (((xs.take k).getD m default).name)))) (.pure (.str _ _ _ _ _ rfl rfl rfl rfl)) (Ch.nil ?_)
     refine T_condD (p := (((xs.getD k default).name) = (((xs.take k).getD m default).name))) rfl (fun h5 => ?_) (fun h5 => ?_)
     ·
      try have hy := any_yes (p := fun y : Sgn => decide (y.name = (xs.getD k default).name)) (l := xs.take k) default m (by omega) (decide_eq_true h5.symm)
      refine Ts hc (Ch.s (dB false) pa (Ch.nil (T_ret ?_)))
      exact eR [(dB false)] [] [] (.cons (.tmp 2 rfl) .nil) eA (Exp.of (congrArg D.bool a9) (.d _))
     ·
      try have hy := any_yes (p := fun y : Sgn => decide (y.name = (xs.getD k default).name)) (l := xs.take k) default m (by omega) (decide_eq_true h5.symm)
      refine Tk (Tz hc (Ch.s (dI ((m : Int) + 1)) (iX rfl rfl intV_addA) (Ch.s (dI ((m : Int) + 1)) pm (Ch.nil ?_))))
      exact nx (m + 1) ⟨by omega, upto_succ hp1.2 (by first | (simp_all; done) | (exact decide_eq_false (fun e => (by assumption : ¬ _) e.symm)))⟩ (Wk.of rfl rfl (ar (ar (ar (ar (ar (ar (ar (ai (vI a87) trivial)))))))) (ar trivial))
    ·
     refine T_exit (Tz hc (Ch.s (dI ((k : Int) + 1)) (iX rfl rfl intV_addA) (Ch.s (dI ((k : Int) + 1)) pm (Ch.nil ?_))))
     exact nx (k + 1) ⟨by omega, upto_succ hp0.2 a31⟩ (Wk.of rfl rfl (ar (ar (ar (ai (vI a87) trivial)))) trivial)
  | false =>
   refine Ck (Ck (Ck (Ck (Ch.s (dB true) (pT rfl) (Ch.nil ?_)))))
   refine T_cond (b := true) rfl (fun _ => ?_) (fun h => nomatch h)
   refine Ts hc (Ch.s (dB false) pa (Ch.nil (T_ret ?_)))
   exact eR [(dB false)] [] [] (.cons (.tmp 2 rfl) .nil) eA (Exp.of (congrArg D.bool a9) (.d _))
 ·
  try have hk : (xs.getD k default).name.length ≤ 1048576 := hs.2 _ (getD_mem (l := xs) (j := k) (d := default) (by omega))
  refine T_exit (Ts hc (Ch.s (.d (.slice false 2 (xs.map Sgn.d))) pm (Ch.s (dI (xs.length : Int)) (.pure (.len _ _ 77 rfl Tryz.underlying25 (.sh _ _) (by simp))) (Ch.s (dB (withinB (xs.length : Int) 1 8)) (.call 41000 29 _ _ _ en29 rfl (.inl rfl) (.cons (.d _) (.cons (.d _) (.cons (.d _) .nil))) rfl rfl (sp_spec_l1In (xs.length : Int) 1 8) (.skip _ _ (.skip _ _ (.skip _ _ .nil))) rfl) (Ch.s (dB (withinB (xs.length : Int) 1 8)) pa (Ch.nil ?_))))))
  refine T_ret ?_
  exact eR [(dB (withinB (xs.length : Int) 1 8))] [] [] (.cons (.tmp 2 rfl) .nil) eA (Exp.of (congrArg D.bool a9) (.d _))

theorem sp_valid2 (l : Lab) (x : Stg) (hn2 : x.sigs.length ≤ 1048576) : Sp Tryz.prog 89 [(.agg [(.int .i64 l.sig), (.bool (l.up))]), (.ref (.agg [(.int .i64 x.places), (.slice false 2 (x.trans.map Tra.d)), (.slice false 2 (x.sigs.map Sgn.d)), (.slice false 2 (x.labs.map Lab.d)), (.str x.start)]))] [.any, .any] (.bool (!edgeB l x.sigs.length)) := by
 refine Sp_intro (lend := true) Tryz.func89 rfl rfl rfl (fun _ => rfl) (fun c hc hX => ?_)
 refine Ts hc (Ch.s (.ptr 2000 0) (.box 2000 _ _ rfl (.aggD _)) (Ch.s (dB false) pa (Ch.nil (Ts hc (Ch.s (.agg [(dI l.sig), (dB (l.up))]) (lA ag67 sz67 rfl rfl (lb rfl) rfl) ?_)))))
 refine Ch.s (.d (.ref (.slice false 2 (x.sigs.map Sgn.d)))) (.pure (.fldRef _ _ _ rfl fld28_1 rfl rfl rfl)) (Ch.s (.d (.slice false 2 (x.sigs.map Sgn.d))) (rF ag25 rfl rfl) (Ch.s (dI (x.sigs.length : Int)) (.pure (.len _ _ 77 rfl Tryz.underlying25 (.sh _ _) (by simp))) (Ch.s (dB (edgeB l (x.sigs.length : Int))) (.call 8000 90 _ _ _ en90 rfl (.inl rfl) (.cons (.lend (.agg (.cons (.d _) (.cons (.d _) .nil)) rfl)) (.cons (.d _) .nil)) rfl rfl (sp_impl_isEdge l (x.sigs.length : Int) a23 a23) (.skip _ _ (.skip _ _ .nil)) rfl) (Ch.s (dB (!(edgeB l (x.sigs.length : Int)))) (nT rfl) (Ch.s (dB (!(edgeB l (x.sigs.length : Int)))) pa (Ch.nil (T_ret ?_)))))))
 exact eR [(dB (!(edgeB l (x.sigs.length : Int))))] [] [] (.cons (.tmp 3 rfl) .nil) eB (Exp.of (congrArg D.bool (by rfl)) (.d _))

theorem sp_impl_IsValidSTG (x : Stg) (hx : x.sm) : Sp Tryz.prog 68 [(.agg [(.int .i64 x.places), (.slice false 2 (x.trans.map Tra.d)), (.slice false 2 (x.sigs.map Sgn.d)), (.slice false 2 (x.labs.map Lab.d)), (.str x.start)])] [.any] (.bool (stgB x)) := by
 refine Sp_intro (lend := true) Tryz.func68 rfl rfl rfl (fun _ => rfl) (fun c hc hX => ?_)
 obtain ⟨⟨h0, h0u⟩, hts, hsg, hlb, hst⟩ := hx; have hn1 := hts.1; have hn2 := hsg.1
 refine Ts hc (Ch.s (.ptr 1000 0) (.box 1000 _ _ rfl (.aggD _)) (Ch.s (dB false) pa (Ch.nil (Ts hc (Ch.s (.ptr 1000 0) (fP fld28_0 rfl) ?_)))))
 refine Ch.s (.agg [(dI x.places), (.d (.slice false 2 (x.trans.map Tra.d)))]) (lA ag24 sz24 rfl rfl (lb rfl) rfl) (Ch.s (.ptr 1000 4) (fP fld28_3 rfl) (Ch.s (dS x.start) (lP ag9 rfl rfl rfl) (Ch.s (dB (netB x.places x.trans && codeN x.start x.places)) (.call 7000 86 _ _ _ en86 rfl (.inl rfl) (.cons (.lend (.agg (.cons (.d _) (.cons (.d _) .nil)) rfl)) (.cons (.d _) .nil)) rfl rfl (sp_impl_IsValidMarking x.places x.trans x.start (by assumption) a23 a23 a23) (.skip _ _ (.skip _ _ .nil)) rfl) (Ch.s (dB (netB x.places x.trans && codeN x.start x.places)) pm ?_))))
 cases h1 : (netB x.places x.trans && codeN x.start x.places) with
 | true =>
  refine Ch.s (.ptr 1000 2) (fP fld28_1 rfl) (Ch.s (.d (.slice false 2 (x.sigs.map Sgn.d))) (lP ag25 rfl rfl rfl) (Ch.s (dB (sigsB x.sigs)) (.call 11000 87 _ _ _ en87 rfl (.inl rfl) (.cons (.d _) .nil) rfl rfl (sp_areSig x.sigs (by assumption)) (.skip _ _ .nil) rfl) (Ch.s (dB (sigsB x.sigs)) (pT rfl) (Ch.s (dB (sigsB x.sigs)) pm ?_))))
  cases h2 : (sigsB x.sigs) with
  | true =>
   refine Ch.s (.ptr 1000 3) (fP fld28_2 rfl) (Ch.s (.d (.slice false 2 (x.labs.map Lab.d))) (lP ag26 rfl rfl rfl) (Ch.s (dI (x.labs.length : Int)) (.pure (.len _ _ 67 rfl Tryz.underlying26 (.sh _ _) (by simp))) (Ch.s (.ptr 1000 0) (fP fld28_0 rfl) (Ch.s (.ptr 1000 1) (fP fld24_1 rfl) (Ch.s (.d (.slice false 2 (x.trans.map Tra.d))) (lP ag22 rfl rfl rfl) (Ch.s (dI (x.trans.length : Int)) (.pure (.len _ _ 64 rfl Tryz.underlying22 (.sh _ _) (by simp))) (Ch.s (dB (decide ((x.labs.length : Int) = (x.trans.length : Int)))) (iX rfl rfl rfl) ?_)))))))
   refine Ch.s (dB (decide ((x.labs.length : Int) = (x.trans.length : Int)))) (pT rfl) (Ch.s (dB (decide ((x.labs.length : Int) = (x.trans.length : Int)))) pm ?_)
   cases h3 : (decide ((x.labs.length : Int) = (x.trans.length : Int))) with
   | true =>
    replace h3 := odt h3
    refine Ch.s (.ptr 1000 3) (fP fld28_2 rfl) (Ch.s (.d (.slice false 2 (x.labs.map Lab.d))) (lP ag26 rfl rfl rfl) (Ch.s (.fn 89 [(.ptr 1000 0)]) (.pure (.func _ _ rfl rfl)) (Ch.s (dB (x.labs.any (fun l => !edgeB l (x).sigs.length))) (.call 27000 88 _ _ _ en88 rfl (.inl rfl) (.cons (.d _) (.cons (.lend (.fn (.cons (.ptr rfl (.agg (.cons (.d _) (.cons (.d _) (.cons (.d _) (.cons (.d _) (.cons (.d _) .nil))))) rfl)) .nil))) .nil)) rfl rfl (sp_ContainsFunc_lab x.labs 89 [(.ref (.agg [(.int .i64 x.places), (.slice false 2 (x.trans.map Tra.d)), (.slice false 2 (x.sigs.map Sgn.d)), (.slice false 2 (x.labs.map Lab.d)), (.str x.start)]))] (fun l => !edgeB l (x).sigs.length) en89 (fun l _ => sp_valid2 l x (by omega)) a7) (.skip _ _ (.skip _ _ .nil)) rfl) (Ch.s (dB (!(x.labs.any (fun l => !edgeB l (x).sigs.length)))) (nT rfl) (Ch.s (dB (!(x.labs.any (fun l => !edgeB l (x).sigs.length)))) (pT rfl) (Ch.s (dB (!(x.labs.any (fun l => !edgeB l (x).sigs.length)))) pa (Ch.nil ?_)))))))
    refine T_ret ?_
    exact eR [(dB (!(x.labs.any (fun l => !edgeB l (x).sigs.length))))] [] [] (.cons (.tmp 2 rfl) .nil) eA (Exp.of (congrArg D.bool a67) (.d _))
   | false =>
    replace h3 := odf h3
    refine Ck (Ck (Ck (Ck (Ck (Ch.s (dB false) (pF rfl) (Ch.s (dB false) pa (Ch.nil ?_)))))))
    refine T_ret ?_
    exact eR [(dB false)] [] [] (.cons (.tmp 2 rfl) .nil) eA (Exp.of (congrArg D.bool a67) (.d _))
  | false =>
   refine Ck (Ck (Ck (Ck (Ck (Ck (Ck (Ch.skip rfl rfl ?_)))))))
   refine Ch.s (dB false) (pF rfl) (Ch.s (dB false) pm (Ck (Ck (Ck (Ck (Ck (Ch.s (dB false) (pF rfl) ?_)))))))
   refine Ch.s (dB false) pa (Ch.nil (T_ret ?_))
   exact eR [(dB false)] [] [] (.cons (.tmp 2 rfl) .nil) eA (Exp.of (congrArg D.bool a67) (.d _))
 | false =>
  refine Ck (Ck (Ck (Ch.s (dB false) (pF rfl) (Ch.s (dB false) pm (Ck (Ck (Ch.skip rfl rfl ?_)))))))
  refine Ck (Ck (Ck (Ck (Ck (Ch.s (dB false) (pF rfl) (Ch.s (dB false) pm (Ch.skip rfl rfl ?_)))))))
  refine Ck (Ck (Ck (Ck (Ch.s (dB false) (pF rfl) (Ch.s (dB false) pa (Ch.nil (T_ret ?_)))))))
  exact eR [(dB false)] [] [] (.cons (.tmp 2 rfl) .nil) eA (Exp.of (congrArg D.bool a67) (.d _))

theorem sp_spec_l2Good (x : Stg) (hx : x.sm) : Sp Tryz.prog 11 [(.agg [(.int .i64 x.places), (.slice false 2 (x.trans.map Tra.d)), (.slice false 2 (x.sigs.map Sgn.d)), (.slice false 2 (x.labs.map Lab.d)), (.str x.start)])] [.any] (.bool (stgB x)) := by
 refine Sp_intro (lend := true) Tryz.func11 rfl rfl rfl (fun _ => rfl) (fun c hc hX => ?_)
 obtain ⟨⟨h0, h0u⟩, hts, hsg, hlb, hst⟩ := hx; have hn1 := hts.1; have hn2 := hsg.1
 refine Ts hc (Ch.s (.ptr 1000 0) (.box 1000 _ _ rfl (.aggD _)) (Ch.s (dB false) pa (Ch.nil (Tq (Tq (Tz hc ?_))))))
 refine Ch.s (.ptr 1000 3) (fP fld28_2 rfl) (Ch.s (.d (.slice false 2 (x.labs.map Lab.d))) (lP ag26 rfl rfl rfl) (Ch.s (dI (x.labs.length : Int)) (.pure (.len _ _ 67 rfl Tryz.underlying26 (.sh _ _) (by simp))) (Ch.s (dI 0) pm (Ch.nil (Tb ?_)))))
 refine T_loop (ι := Nat) (fun k => { n := 44, sl := [(1, (.ptr 1000 0)), (6, (.d (.slice false 2 (x.labs.map Lab.d)))), (7, (dI (x.labs.length : Int))), (8, (dI (k : Int)))], hp := [(1000, (some (.box [(dI x.places), (.d (.slice false 2 (x.trans.map Tra.d))), (.d (.slice false 2 (x.sigs.map Sgn.d))), (.d (.slice false 2 (x.labs.map Lab.d))), (dS x.start)])))], pin := [] }) (fun k => k ≤ x.labs.length ∧ ∀ j, j < k → edgeB (x.labs.getD j default) x.sigs.length = true) (fun k => x.labs.length - k) ⟨0, ⟨by omega, fun j hj => by omega⟩, (Wk.of rfl rfl (ar (ar (ar (ai (vI a87) trivial)))) (ar trivial))⟩ (fun k hp0 => ?_)
 refine Ts hc (Ch.s (dB (decide ((k : Int) < (x.labs.length : Int)))) (iX rfl rfl rfl) (Ch.nil (Tq ?_)))
 refine T_condD (p := ((k : Int) < (x.labs.length : Int))) rfl (fun h1 => ?_) (fun h1 => ?_)
 ·
  refine Tk (Tq (Tb (Ts hc (Ch.s (.d (.ref (.agg [(.int .i64 ((x.labs.getD k default).sig)), (.bool ((x.labs.getD k default).up))]))) (.pure (.idx _ _ _ 67 (k) rfl Tryz.underlying26 sz67 rfl rfl rfl get_mapA)) (Ch.s (.d (.agg [(.int .i64 ((x.labs.getD k default).sig)), (.bool ((x.labs.getD k default).up))])) (.pure (.loadRefA _ _ rfl ag67 sz67 rfl)) (Ch.s (.ptr 4000 0) (.alloc 4000 _ rfl zer67) ?_))))))
  refine Ch.s .junk (.storePtr _ _ _ rfl rfl rfl (.aggD _) sz67 (lb rfl)) (Ch.nil (Ts hc (Ch.s (.agg [(dI ((x.labs.getD k default).sig)), (dB ((x.labs.getD k default).up))]) (lA ag67 sz67 rfl rfl (lb rfl) rfl) (Ch.s (.ptr 1000 2) (fP fld28_1 rfl) (Ch.s (.d (.slice false 2 (x.sigs.map Sgn.d))) (lP ag25 rfl rfl rfl) (Ch.s (dI (x.sigs.length : Int)) (.pure (.len _ _ 77 rfl Tryz.underlying25 (.sh _ _) (by simp))) ?_))))))
  refine Ch.s (dB (edgeB (x.labs.getD k default) (x.sigs.length : Int))) (.call 16000 32 _ _ _ en32 rfl (.inl rfl) (.cons (.lend (.agg (.cons (.d _) (.cons (.d _) .nil)) rfl)) (.cons (.d _) .nil)) rfl rfl (sp_spec_l2Label (x.labs.getD k default) (x.sigs.length : Int) a23 a23) (.skip _ _ (.skip _ _ .nil)) rfl) (Ch.s (dB (!(edgeB (x.labs.getD k default) (x.sigs.length : Int)))) (nT rfl) (Ch.nil ?_))
  refine T_condN (b := (edgeB (x.labs.getD k default) (x.sigs.length : Int))) rfl (fun h2 => ?_) (fun h2 => ?_)
  ·
   refine Ts hc (Ch.s (dB false) pa (Ch.nil (T_ret ?_)))
   exact eR [(dB false)] [] [] (.cons (.tmp 2 rfl) .nil) eA (Exp.of (congrArg D.bool a22) (.d _))
  ·
   refine Tk (Tz hc (Ch.s (dI ((k : Int) + 1)) (iX rfl rfl intV_addA) (Ch.s (dI ((k : Int) + 1)) pm (Ch.nil ?_))))
   exact nx (k + 1) ⟨by omega, upto_succ hp0.2 (by simp_all)⟩ (Wk.of rfl rfl (ar (ar (ar (ai (vI a87) trivial)))) (ar trivial))
 ·
  refine T_exit (Ts hc (Ch.s (.ptr 1000 0) (fP fld28_0 rfl) (Ch.s (.agg [(dI x.places), (.d (.slice false 2 (x.trans.map Tra.d)))]) (lA ag24 sz24 rfl rfl (lb rfl) rfl) (Ch.s (dB (netB x.places x.trans)) (.call 21000 33 _ _ _ en33 rfl (.inl rfl) (.cons (.lend (.agg (.cons (.d _) (.cons (.d _) .nil)) rfl)) .nil) rfl rfl (sp_spec_l1Good x.places x.trans (by assumption) a23 a23) (.skip _ _ .nil) rfl) (Ch.s (dB (netB x.places x.trans)) pm ?_)))))
  cases h3 : (netB x.places x.trans) with
  | true =>
   refine Ch.s (.ptr 1000 2) (fP fld28_1 rfl) (Ch.s (.d (.slice false 2 (x.sigs.map Sgn.d))) (lP ag25 rfl rfl rfl) (Ch.s (dB (sigsB x.sigs)) (.call 25000 34 _ _ _ en34 rfl (.inl rfl) (.cons (.d _) .nil) rfl rfl (sp_l2Sig x.sigs (by assumption)) (.skip _ _ .nil) rfl) (Ch.s (dB (sigsB x.sigs)) (pT rfl) (Ch.s (dB (sigsB x.sigs)) pm ?_))))
   cases h4 : (sigsB x.sigs) with
   | true =>
    refine Ch.s (.ptr 1000 3) (fP fld28_2 rfl) (Ch.s (.d (.slice false 2 (x.labs.map Lab.d))) (lP ag26 rfl rfl rfl) (Ch.s (dI (x.labs.length : Int)) (.pure (.len _ _ 67 rfl Tryz.underlying26 (.sh _ _) (by simp))) (Ch.s (.ptr 1000 0) (fP fld28_0 rfl) (Ch.s (.ptr 1000 1) (fP fld24_1 rfl) (Ch.s (.d (.slice false 2 (x.trans.map Tra.d))) (lP ag22 rfl rfl rfl) (Ch.s (dI (x.trans.length : Int)) (.pure (.len _ _ 64 rfl Tryz.underlying22 (.sh _ _) (by simp))) (Ch.s (dB (decide ((x.labs.length : Int) = (x.trans.length : Int)))) (iX rfl rfl rfl) ?_)))))))
    refine Ch.s (dB (decide ((x.labs.length : Int) = (x.trans.length : Int)))) (pT rfl) (Ch.s (dB (decide ((x.labs.length : Int) = (x.trans.length : Int)))) pm ?_)
    cases h5 : (decide ((x.labs.length : Int) = (x.trans.length : Int))) with
    | true =>
     replace h5 := odt h5
     refine Ch.s (.ptr 1000 0) (fP fld28_0 rfl) (Ch.s (.agg [(dI x.places), (.d (.slice false 2 (x.trans.map Tra.d)))]) (lA ag24 sz24 rfl rfl (lb rfl) rfl) (Ch.s (.ptr 1000 4) (fP fld28_3 rfl) (Ch.s (dS x.start) (lP ag9 rfl rfl rfl) (Ch.s (dB (codeN x.start x.places)) (.call 42000 35 _ _ _ en35 rfl (.inl rfl) (.cons (.lend (.agg (.cons (.d _) (.cons (.d _) .nil)) rfl)) (.cons (.d _) .nil)) rfl rfl (sp_spec_l1Mark x.places x.trans x.start (by assumption) a23 a23 a23) (.skip _ _ (.skip _ _ .nil)) rfl) (Ch.s (dB (codeN x.start x.places)) (pT rfl) (Ch.s (dB (codeN x.start x.places)) pa (Ch.nil ?_)))))))
     refine T_ret ?_
     exact eR [(dB (codeN x.start x.places))] [] [] (.cons (.tmp 2 rfl) .nil) eA (Exp.of (congrArg D.bool a22) (.d _))
    | false =>
     replace h5 := odf h5
     refine Ck (Ck (Ck (Ck (Ck (Ch.s (dB false) (pF rfl) (Ch.s (dB false) pa (Ch.nil ?_)))))))
     refine T_ret ?_
     exact eR [(dB false)] [] [] (.cons (.tmp 2 rfl) .nil) eA (Exp.of (congrArg D.bool a22) (.d _))
   | false =>
    refine Ck (Ck (Ck (Ck (Ck (Ck (Ck (Ch.skip rfl rfl ?_)))))))
    refine Ch.s (dB false) (pF rfl) (Ch.s (dB false) pm (Ck (Ck (Ck (Ck (Ck (Ch.s (dB false) (pF rfl) ?_)))))))
    refine Ch.s (dB false) pa (Ch.nil (T_ret ?_))
    exact eR [(dB false)] [] [] (.cons (.tmp 2 rfl) .nil) eA (Exp.of (congrArg D.bool a22) (.d _))
  | false =>
   refine Ck (Ck (Ck (Ch.s (dB false) (pF rfl) (Ch.s (dB false) pm (Ck (Ck (Ch.skip rfl rfl ?_)))))))
   refine Ck (Ck (Ck (Ck (Ck (Ch.s (dB false) (pF rfl) (Ch.s (dB false) pm (Ch.skip rfl rfl ?_)))))))
   refine Ck (Ck (Ck (Ck (Ch.s (dB false) (pF rfl) (Ch.s (dB false) pa (Ch.nil (T_ret ?_)))))))
   exact eR [(dB false)] [] [] (.cons (.tmp 2 rfl) .nil) eA (Exp.of (congrArg D.bool a22) (.d _))

theorem sty62 : SlotTy Tryz.prog 62 3 1 8 := slotTy_mk (by kernel_rfl)

theorem en69 : Enters Tryz.prog 69 := ⟨_, Tryz.func69, by kernel_rfl, rfl⟩

theorem ag28 : AggIs Tryz.prog 28 true := by unfold AggIs; kernel_rfl

theorem sz28 : SizeIs Tryz.prog 28 5 := by unfold SizeIs; kernel_rfl

theorem en72 : Enters Tryz.prog 72 := ⟨_, Tryz.func72, by kernel_rfl, rfl⟩

theorem en73 : Enters Tryz.prog 73 := ⟨_, Tryz.func73, by kernel_rfl, rfl⟩

theorem en60 : Enters Tryz.prog 60 := ⟨_, Tryz.func60, by kernel_rfl, rfl⟩

theorem en71 : Enters Tryz.prog 71 := ⟨_, Tryz.func71, by kernel_rfl, rfl⟩

theorem en59 : Enters Tryz.prog 59 := ⟨_, Tryz.func59, by kernel_rfl, rfl⟩

theorem en36 : Enters Tryz.prog 36 := ⟨_, Tryz.func36, by kernel_rfl, rfl⟩

theorem en68 : Enters Tryz.prog 68 := ⟨_, Tryz.func68, by kernel_rfl, rfl⟩

theorem en47 : Enters Tryz.prog 47 := ⟨_, Tryz.func47, by kernel_rfl, rfl⟩

def kwL : List (List UInt8) := [[], [105, 110], [111, 117, 116], [105, 110, 110, 101, 114]]

theorem kwL_len : kwL.length = 4 := rfl

theorem kwL_le (k : Nat) : (kwL.getD k default).length ≤ 5 := by
 match k with
 | 0 => decide
 | 1 => decide
 | 2 => decide
 | 3 => decide
 | k + 4 => simp [kwL]; decide

def edgT (sg : List Sgn) (l : Lab) : List UInt8 := if l.sig < 0 then [126] else if l.up then (sg.getD l.sig.toNat default).name ++ [43] else (sg.getD l.sig.toNat default).name ++ [45]

theorem range_snoc (k : Nat) (p : Nat → Bool) : (List.range (k + 1)).filter p = (List.range k).filter p ++ if p k then [k] else [] := by
  rw [List.range_succ, List.filter_append]; congr 1
  cases h : p k <;> simp [h]

def atL (labs : List Lab) (l : Lab) (k : Nat) : List Nat := (List.range k).filter fun t => decide (labs.getD t default = l)

def labI (labs : List Lab) (l : Lab) (k : Nat) : List Int := (atL labs l k).map fun n : Nat => (n : Int)

def cntL (labs : List Lab) (l : Lab) (k : Nat) : Nat := (atL labs l k).length

theorem atL_yes {labs : List Lab} {l : Lab} {k : Nat} (h : labs.getD k default = l) : atL labs l (k + 1) = atL labs l k ++ [k] := by
 unfold atL; rw [range_snoc, if_pos (decide_eq_true h)]

theorem atL_no {labs : List Lab} {l : Lab} {k : Nat} (h : ¬ labs.getD k default = l) : atL labs l (k + 1) = atL labs l k := by
 unfold atL; rw [range_snoc, if_neg (by simpa using h)]; simp

theorem labI_len (labs : List Lab) (l : Lab) (k : Nat) : (labI labs l k).length = cntL labs l k := by simp [labI, cntL]

theorem labI_yes {labs : List Lab} {l : Lab} {k : Nat} (h : labs.getD k default = l) : labI labs l k ++ [(k : Int)] = labI labs l (k + 1) := by unfold labI; rw [atL_yes h]; simp

theorem labI_no {labs : List Lab} {l : Lab} {k : Nat} (h : ¬ labs.getD k default = l) : labI labs l k = labI labs l (k + 1) := by unfold labI; rw [atL_no h]

theorem cntL_yes {labs : List Lab} {l : Lab} {k : Nat} (h : labs.getD k default = l) : cntL labs l (k + 1) = cntL labs l k + 1 := by unfold cntL; rw [atL_yes h]; simp

theorem cntL_no {labs : List Lab} {l : Lab} {k : Nat} (h : ¬ labs.getD k default = l) : cntL labs l (k + 1) = cntL labs l k := by unfold cntL; rw [atL_no h]

theorem cntL_le (labs : List Lab) (l : Lab) (k : Nat) : cntL labs l k ≤ k := by
 unfold cntL atL; exact Nat.le_trans (List.length_filter_le _ _) (by simp)

theorem atL_split (labs : List Lab) (l : Lab) {t n : Nat} (h : t ≤ n) : ∃ r, atL labs l n = atL labs l t ++ r := by
  induction n with
  | zero => exact ⟨[], by rw [show t = 0 by omega]; simp⟩
  | succ n ih =>
    by_cases e : t = n + 1
    · exact ⟨[], by rw [e]; simp⟩
    · obtain ⟨r, hr⟩ := ih (by omega)
      unfold atL at hr ⊢
      rw [range_snoc, hr, List.append_assoc]; exact ⟨_, rfl⟩

theorem atL_lt {labs : List Lab} {l : Lab} {k t : Nat} (h : t ∈ atL labs l k) : t < k := by
 unfold atL at h; simpa using (List.mem_filter.1 h).1

theorem labI_ix {labs : List Lab} {l : Lab} {t n : Nat} (ht : t < n) (h : labs.getD t default = l) : ixF (fun a => decide (a = (t : Int))) (labI labs l n) = (cntL labs l t : Int) := by
  obtain ⟨r, hr⟩ := atL_split labs l (t := t + 1) (n := n) (by omega)
  rw [atL_yes h] at hr
  have e : labI labs l n = labI labs l t ++ ((t : Int) :: r.map fun n : Nat => (n : Int)) := by unfold labI; rw [hr]; simp
  have hl := labI_len labs l t
  rw [e]
  apply ixF_some (d := default)
  · rw [List.length_append, hl]; simp
  · intro j hj
    have hj' : j < (labI labs l t).length := by rw [hl]; exact hj
    rw [List.getD_eq_getElem?_getD, List.getElem?_append_left hj']
    have hm : (labI labs l t)[j]?.getD default ∈ labI labs l t := by rw [List.getElem?_eq_getElem hj']; exact List.getElem_mem hj'
    unfold labI at hm
    obtain ⟨m, hm1, hm2⟩ := List.mem_map.1 hm
    have := atL_lt hm1
    apply decide_eq_false
    unfold labI
    omega
  · rw [List.getD_eq_getElem?_getD, List.getElem?_append_right (by rw [hl]; exact Nat.le_refl _), hl, Nat.sub_self]; simp

def trnT (sg : List Sgn) (labs : List Lab) (t : Nat) : List UInt8 := edgT sg (labs.getD t default) ++ if 1 < cntL labs (labs.getD t default) labs.length then [47] ++ numS (cntL labs (labs.getD t default) t + 1) else []

def usrN (ts : List Tra) (f : Tra → List Int) (p : Int) (k : Nat) : List Nat := (List.range k).filter fun t => hasI (f (ts.getD t default)) p

theorem usr_yes {ts : List Tra} {f : Tra → List Int} {p : Int} {k : Nat} (h : hasI (f (ts.getD k default)) p = true) : usrN ts f p k ++ [k] = usrN ts f p (k + 1) := by
 unfold usrN; rw [range_snoc, if_pos h]

theorem usr_no {ts : List Tra} {f : Tra → List Int} {p : Int} {k : Nat} (h : hasI (f (ts.getD k default)) p = false) : usrN ts f p k = usrN ts f p (k + 1) := by
 unfold usrN; rw [range_snoc, if_neg (by simp only [h]; decide)]; simp

theorem usr_le (ts : List Tra) (f : Tra → List Int) (p : Int) (k : Nat) : (usrN ts f p k).length ≤ k := by
 unfold usrN; exact Nat.le_trans (List.length_filter_le _ _) (by simp)

theorem usr_lt {ts : List Tra} {f : Tra → List Int} {p : Int} {k : Nat} (j : Nat) (h : j < (usrN ts f p k).length) : (usrN ts f p k).getD j default < k := by
 have hm : (usrN ts f p k).getD j default ∈ usrN ts f p k := getD_mem h
 exact List.mem_range.1 (List.mem_filter.1 hm).1

def mrkAt (x : Stg) (p : Nat) : Bool := decide (((usrN x.trans Tra.pre p x.trans.length).length : Int) = 1) && decide (((usrN x.trans Tra.post p x.trans.length).length : Int) = 1)

def mrkB (x : Stg) : Bool := allB x.places.toNat (mrkAt x)

def sgLn (sg : List Sgn) (kd : Nat) (k : Nat) : List UInt8 := ((sg.take k).filter fun y => decide (y.kind = (kd : Int))).flatMap fun y => 32 :: y.name

def sgK (sg : List Sgn) (kd : Nat) : List UInt8 := if sgLn sg kd sg.length = [] then [] else kwL.getD kd default ++ sgLn sg kd sg.length ++ [10]

def sgTo (sg : List Sgn) (n : Nat) : List UInt8 := (List.range n).flatMap fun i => sgK sg (i + 1)

theorem sgTo_succ (sg : List Sgn) (n : Nat) : sgTo sg (n + 1) = sgTo sg n ++ sgK sg (n + 1) := by unfold sgTo; rw [List.range_succ]; simp

theorem sgLn_yes {sg : List Sgn} {kd k : Nat} (hk : k < sg.length) (h : (sg.getD k default).kind = (kd : Int)) : sgLn sg kd k ++ ([32] ++ (sg.getD k default).name) = sgLn sg kd (k + 1) := by
 unfold sgLn
 rw [List.take_succ_eq_append_getElem hk, List.filter_append]
 have e : sg.getD k default = sg[k] := by simp [hk]
 rw [e] at h ⊢
 simp [h]

theorem sgLn_no {sg : List Sgn} {kd k : Nat} (hk : k < sg.length) (h : ¬ (sg.getD k default).kind = (kd : Int)) : sgLn sg kd k = sgLn sg kd (k + 1) := by
 unfold sgLn
 rw [List.take_succ_eq_append_getElem hk, List.filter_append]
 have e : sg.getD k default = sg[k] := by simp [hk]
 rw [e] at h
 simp [h]

theorem sgLn_le {sg : List Sgn} (hw : ∀ y ∈ sg, y.name.length ≤ 6) (kd k : Nat) : (sgLn sg kd k).length ≤ 7 * sg.length := by
 unfold sgLn
 rw [List.length_flatMap]
 have h1 : ∀ l : List Sgn, (∀ y ∈ l, y.name.length ≤ 6) → (l.map fun y : Sgn => (32 :: y.name).length).sum ≤ 7 * l.length := by
  intro l
  induction l with
  | nil => intro _; simp
  | cons y l ih =>
   intro h
   have := ih fun z hz => h z (by simp [hz])
   have h2 := h y (by simp)
   simp only [List.map_cons, List.sum_cons, List.length_cons]
   simp only [List.length_cons] at this
   omega
 have h2 := h1 ((sg.take k).filter fun y => decide (y.kind = (kd : Int))) (fun y hy => hw y (List.mem_of_mem_take (List.mem_filter.1 hy).1))
 have h3 := List.length_filter_le (fun y : Sgn => decide (y.kind = (kd : Int))) (sg.take k)
 rw [List.length_take] at h3
 omega

def kndB (sg : List Sgn) : Bool := allB sg.length fun i => !(decide ((0 : Int) < (i : Int)) && decide ((sg.getD i default).kind < (sg.getD (i - 1) default).kind))

def sgT (sg : List Sgn) : List UInt8 := sgTo sg 3

def frmB (x : Stg) : Bool := stgB x && (mrkB x && kndB x.sigs)

def hdN (l : List Nat) : Nat := l.getD 0 default

def arcL (x : Stg) (p : Nat) : List UInt8 := trnT x.sigs x.labs (hdN (usrN x.trans Tra.post p x.trans.length)) ++ [32] ++ trnT x.sigs x.labs (hdN (usrN x.trans Tra.pre p x.trans.length)) ++ (if x.start.getD p 0 = 49 then [32, 42] else []) ++ [10]

def arcTo (x : Stg) (k : Nat) : List UInt8 := sgT x.sigs ++ (List.range k).flatMap (arcL x)

def arcsT (x : Stg) : List UInt8 := arcTo x x.places.toNat

theorem arcTo_zero (x : Stg) : arcTo x 0 = sgT x.sigs := by simp [arcTo]

theorem arcTo_succ (x : Stg) (k : Nat) : arcTo x (k + 1) = arcTo x k ++ arcL x k := by unfold arcTo; rw [List.range_succ]; simp

theorem ris_ge {l : List Int} {hi : Int} (h : risB l 0 hi = true) : ∀ j, j < l.length → (j : Int) ≤ l.getD j default ∧ l.getD j default ≤ hi := by
 have h1 := allB_true.1 h
 intro j
 induction j with
 | zero => intro hj; have := h1 0 hj; unfold risAt withinB at this; simp only [Bool.and_eq_true, decide_eq_true_iff] at this; exact ⟨this.1.1, this.1.2⟩
 | succ j ih =>
  intro hj
  have h2 := ih (by omega)
  have h3 := h1 (j + 1) hj
  unfold risAt withinB at h3
  simp only [Bool.and_eq_true, decide_eq_true_iff, Bool.not_eq_true', Nat.add_sub_cancel] at h3
  have h4 : ¬ l.getD (j + 1) default ≤ l.getD j default := fun e => by
   have := h3.2; rw [decide_eq_true e, decide_eq_true (by omega)] at this; exact absurd this (by decide)
  exact ⟨by omega, h3.1.2⟩

theorem ris_len {l : List Int} {p : Int} (h : risB l 0 (p - 1) = true) (hp : 0 ≤ p) : (l.length : Int) ≤ p := by
  by_cases h0 : l.length = 0
  · omega
  · have := ris_ge h (l.length - 1) (by omega); omega

structure StgV (x : Stg) : Prop where
 p1 : 1 ≤ x.places
 p30 : x.places ≤ 30
 t24 : x.trans.length ≤ 24
 tra : ∀ t ∈ x.trans, risB t.pre 0 (x.places - 1) = true ∧ risB t.post 0 (x.places - 1) = true ∧ t.pre.length ≤ 30 ∧ t.post.length ≤ 30
 s1 : 1 ≤ x.sigs.length
 s8 : x.sigs.length ≤ 8
 nam : ∀ y ∈ x.sigs, nameB y.name = true ∧ y.name.length ≤ 6 ∧ 1 ≤ y.kind ∧ y.kind ≤ 3
 lab : x.labs.length = x.trans.length
 edg : ∀ l ∈ x.labs, edgeB l x.sigs.length = true ∧ l.sig.toNat < x.sigs.length
 st : (x.start.length : Int) = x.places

theorem getD_at {τ : Type} [Inhabited τ] {l : List τ} {y : τ} (h : y ∈ l) : ∃ j, j < l.length ∧ l.getD j default = y := by
 obtain ⟨j, hj, e⟩ := List.mem_iff_getElem.1 h
 exact ⟨j, hj, by simp [hj, e]⟩

theorem sig_facts {sg : List Sgn} (h : sigsB sg = true) : 1 ≤ sg.length ∧ sg.length ≤ 8 ∧ ∀ y ∈ sg, nameB y.name = true ∧ y.name.length ≤ 6 ∧ 1 ≤ y.kind ∧ y.kind ≤ 3 := by
 unfold sigsB at h
 simp only [Bool.and_eq_true] at h
 have h2 := allB_true.1 h.1
 have h3 := h.2
 unfold withinB at h3
 simp only [Bool.and_eq_true, decide_eq_true_iff] at h3
 refine ⟨by omega, by omega, fun y hy => ?_⟩
 obtain ⟨j, hj, rfl⟩ := getD_at hy
 have h4 := h2 j hj
 unfold sigOk at h4
 simp only [Bool.and_eq_true] at h4
 obtain ⟨h5, h6, _⟩ := h4
 have h7 := h5
 unfold nameB at h7
 simp only [Bool.and_eq_true] at h7
 have h8 := h7.2
 unfold withinB at h6 h8
 simp only [Bool.and_eq_true, decide_eq_true_iff] at h6 h8
 exact ⟨h5, by omega, h6.1, h6.2⟩

theorem stg_v {x : Stg} (h : stgB x = true) : StgV x := by
  unfold stgB netB at h
  simp only [Bool.and_eq_true, decide_eq_true_iff, Bool.not_eq_true', List.any_eq_false] at h
  obtain ⟨⟨h1, h2, h3⟩, h4, h5, h6, h7⟩ := h
  unfold withinB at h1
  simp only [Bool.and_eq_true, decide_eq_true_iff] at h1
  obtain ⟨s1, s2, s3⟩ := sig_facts h5
  unfold codeN at h4
  simp only [Bool.and_eq_true, decide_eq_true_iff] at h4
  refine ⟨h1.1, h1.2, by omega, fun t ht => ?_, s1, s2, s3, by omega, fun l hl => ?_, h4.2⟩
  · have this : traB x.places t = true := by
      have h9 := h3 t ht
      cases hb : traB x.places t
      · rw [hb] at h9; exact absurd rfl h9
      · rfl
    unfold traB at this
    simp only [Bool.and_eq_true] at this
    have e1 := ris_len this.2.1 (by omega); have e2 := ris_len this.2.2 (by omega)
    exact ⟨this.2.1, this.2.2, by omega, by omega⟩
  · have this : edgeB l x.sigs.length = true := by
      have h9 := h7 l hl
      cases hb : edgeB l x.sigs.length
      · rw [hb] at h9; exact absurd rfl h9
      · rfl
    refine ⟨this, ?_⟩
    unfold edgeB withinB at this
    simp only [Bool.or_eq_true, Bool.and_eq_true, decide_eq_true_iff] at this
    rcases this with h | h <;> omega

theorem edgT_le {sg : List Sgn} {l : Lab} (hw : ∀ y ∈ sg, y.name.length ≤ 6) (hs : l.sig.toNat < sg.length) : (edgT sg l).length ≤ 7 := by
  have := hw _ (getD_mem (l := sg) (d := default) hs)
  unfold edgT
  split
  · simp
  · split <;> (rw [List.length_append]; simp only [List.length_cons, List.length_nil]; omega)

theorem trnT_le {x : Stg} (hv : StgV x) {t : Nat} (ht : t < x.trans.length) : (trnT x.sigs x.labs t).length ≤ 10 := by
  have h1 := edgT_le (l := x.labs.getD t default) (fun y hy => (hv.nam y hy).2.1) (hv.edg _ (getD_mem (by rw [hv.lab]; exact ht))).2
  have h2 := numS_len (cntL x.labs (x.labs.getD t default) t + 1)
  unfold trnT
  split
  · simp only [List.length_append, List.length_cons, List.length_nil]; omega
  · simp only [List.length_append, List.length_nil]; omega

theorem sgK_le {sg : List Sgn} (hw : ∀ y ∈ sg, y.name.length ≤ 6) (h8 : sg.length ≤ 8) (k : Nat) : (sgK sg k).length ≤ 62 := by
  have h1 := sgLn_le hw k sg.length
  have h2 := kwL_le k
  unfold sgK
  split
  · simp
  · simp only [List.length_append, List.length_cons, List.length_nil]; omega

theorem sgTo_le {sg : List Sgn} (hw : ∀ y ∈ sg, y.name.length ≤ 6) (h8 : sg.length ≤ 8) (k : Nat) : (sgTo sg k).length ≤ 62 * k := by
 induction k with
 | zero => simp [sgTo]
 | succ k ih =>
  have := sgK_le hw h8 (k + 1)
  rw [sgTo_succ, List.length_append]; omega

theorem mrk_one {x : Stg} (h : mrkB x = true) {p : Nat} (hp : p < x.places.toNat) : (usrN x.trans Tra.pre p x.trans.length).length = 1 ∧ (usrN x.trans Tra.post p x.trans.length).length = 1 := by
 have := allB_true.1 h p hp
 unfold mrkAt at this
 simp only [Bool.and_eq_true, decide_eq_true_iff] at this
 exact ⟨by omega, by omega⟩

theorem hd_lt {x : Stg} {f : Tra → List Int} {p : Int} (h : (usrN x.trans f p x.trans.length).length = 1) : hdN (usrN x.trans f p x.trans.length) < x.trans.length := usr_lt 0 (by omega)

theorem arcL_le {x : Stg} (hv : StgV x) (hm : mrkB x = true) {p : Nat} (hp : p < x.places.toNat) : (arcL x p).length ≤ 24 := by
  have h := mrk_one hm hp
  have h1 := trnT_le hv (hd_lt h.1); have h2 := trnT_le hv (hd_lt h.2)
  unfold arcL
  simp only [List.length_append, List.length_cons, List.length_nil]
  split <;> simp only [List.length_cons, List.length_nil] <;> omega

theorem arcTo_le {x : Stg} (hv : StgV x) (hm : mrkB x = true) {k : Nat} (hk : k ≤ x.places.toNat) : (arcTo x k).length ≤ 186 + 24 * k := by
 induction k with
 | zero =>
  have := sgTo_le (fun y hy => (hv.nam y hy).2.1) hv.s8 3
  rw [arcTo_zero]; unfold sgT; omega
 | succ k ih =>
  have h1 := ih (by omega); have h2 := arcL_le hv hm (p := k) (by omega)
  rw [arcTo_succ, List.length_append]; omega

def plcT (l : List Int) (k : Nat) : List UInt8 := (l.take k).flatMap fun p => [32] ++ numS p.toNat

theorem plcT_succ {l : List Int} {k : Nat} (hk : k < l.length) : plcT l k ++ ([32] ++ numS (l.getD k default).toNat) = plcT l (k + 1) := by
 have e : l.getD k default = l[k] := by simp [hk]
 unfold plcT
 rw [List.take_succ_eq_append_getElem hk, e, List.flatMap_append]
 simp only [List.flatMap_cons, List.flatMap_nil, List.append_nil]

theorem plcT_le (l : List Int) (k : Nat) : (plcT l k).length ≤ 3 * k := by
  induction k with
  | zero => simp [plcT]
  | succ k ih =>
    by_cases hk : k < l.length
    · have := numS_len (l.getD k default).toNat
      rw [← plcT_succ hk, List.length_append, List.length_append]; simp only [List.length_cons, List.length_nil]; omega
    · have e : plcT l (k + 1) = plcT l k := by unfold plcT; rw [List.take_of_length_le (by omega), List.take_of_length_le (by omega)]
      rw [e]; omega

def labO (sg : List Sgn) (u : List UInt8) : Lab × Bool :=
 if u = [126] then (Lab.mk (-1) false, true)
 else if u.length < 2 ∨ (u.getD (u.length - 1) 0 ≠ 43 ∧ u.getD (u.length - 1) 0 ≠ 45) then (Lab.mk 0 false, false)
 else (Lab.mk (ixF (fun y => decide (y.name = u.take (u.length - 1))) sg) (decide (u.getD (u.length - 1) 0 = 43)), decide (0 ≤ ixF (fun y => decide (y.name = u.take (u.length - 1))) sg))

theorem labO_t {sg : List Sgn} {u : List UInt8} (h : u = [126]) : labO sg u = (Lab.mk (-1) false, true) := if_pos h

theorem labO_n {sg : List Sgn} {u : List UInt8} (h : ¬ u = [126]) (h2 : u.length < 2 ∨ (u.getD (u.length - 1) 0 ≠ 43 ∧ u.getD (u.length - 1) 0 ≠ 45)) : labO sg u = (Lab.mk 0 false, false) := by rw [labO, if_neg h, if_pos h2]

theorem labO_y {sg : List Sgn} {u : List UInt8} (h : ¬ u = [126]) (h2 : ¬ u.length < 2) (h3 : u.getD (u.length - 1) 0 = 43 ∨ u.getD (u.length - 1) 0 = 45) : labO sg u = (Lab.mk (ixF (fun y => decide (y.name = u.take (u.length - 1))) sg) (decide (u.getD (u.length - 1) 0 = 43)), decide (0 ≤ ixF (fun y => decide (y.name = u.take (u.length - 1))) sg)) := by
  rw [labO, if_neg h, if_neg]
  rintro (h4 | ⟨h4, h5⟩)
  · exact h2 h4
  · rcases h3 with h3 | h3
    · exact h4 h3
    · exact h5 h3

theorem lastI {u : List UInt8} : ((u.length : Int) - 1).toNat = u.length - 1 := by omega

theorem kndB_no {sg : List Sgn} (k : Nat) (hk : k < sg.length) (h0 : (0 : Int) < (k : Int)) (h : (sg.getD k default).kind < (sg.getD (k - 1) default).kind) : kndB sg = false := by
 unfold kndB; exact allB_no k hk (by rw [decide_eq_true h0, decide_eq_true h]; rfl)

theorem sgTo_yes {sg : List Sgn} {k m : Nat} (hm : ¬ m < sg.length) (h : ¬ sgLn sg (k + 1) m = []) : sgTo sg k ++ (kwL.getD (k + 1) default ++ sgLn sg (k + 1) m ++ [10]) = sgTo sg (k + 1) := by
 have e : sgLn sg (k + 1) m = sgLn sg (k + 1) sg.length := by unfold sgLn; rw [List.take_of_length_le (by omega), List.take_of_length_le (Nat.le_refl _)]
 rw [e] at h ⊢
 rw [sgTo_succ, sgK, if_neg h]

theorem sgTo_no {sg : List Sgn} {k m : Nat} (hm : ¬ m < sg.length) (h : sgLn sg (k + 1) m = []) : sgTo sg k = sgTo sg (k + 1) := by
 have e : sgLn sg (k + 1) m = sgLn sg (k + 1) sg.length := by unfold sgLn; rw [List.take_of_length_le (by omega), List.take_of_length_le (Nat.le_refl _)]
 rw [e] at h
 rw [sgTo_succ, sgK, if_pos h, List.append_nil]

theorem stg_sm {x : Stg} (hv : StgV x) : x.sm := by
  refine ⟨⟨by have := hv.p1; omega, by have := hv.p30; omega⟩, ⟨by have := hv.t24; omega, fun t ht => ?_⟩, ⟨by have := hv.s8; omega, fun y hy => ?_⟩, by have := hv.t24; have := hv.lab; omega, by have := hv.st; have := hv.p30; omega⟩
  · have := hv.tra t ht; omega
  · have := hv.nam y hy; omega

theorem mrk_no {x : Stg} (k : Nat) (hk : k < x.places.toNat) (h : mrkAt x k = false) : mrkB x = false := allB_no k hk h

theorem pre_le {x : Stg} (hv : StgV x) {k : Nat} (hk : k < x.trans.length) : ((x.trans.getD k default).pre.length ≤ 30 ∧ ∀ p ∈ (x.trans.getD k default).pre, 0 ≤ p ∧ p < 100) ∧ ((x.trans.getD k default).post.length ≤ 30 ∧ ∀ p ∈ (x.trans.getD k default).post, 0 ≤ p ∧ p < 100) := by
 have h := hv.tra _ (getD_mem (l := x.trans) (d := default) hk)
 have h30 := hv.p30
 have g : ∀ l : List Int, risB l 0 (x.places - 1) = true → ∀ p ∈ l, 0 ≤ p ∧ p < 100 := by
  intro l hl p hp
  obtain ⟨j, hj, rfl⟩ := getD_at hp
  have := ris_ge hl j hj; omega
 exact ⟨⟨h.2.2.1, g _ h.1⟩, ⟨h.2.2.2, g _ h.2.1⟩⟩

theorem mrkAt_1 {x : Stg} {k : Nat} (h : ¬ ((usrN x.trans Tra.pre k x.trans.length).length : Int) = 1) : mrkAt x k = false := by unfold mrkAt; rw [decide_eq_false h]; rfl

theorem mrkAt_2 {x : Stg} {k : Nat} (h : ¬ ((usrN x.trans Tra.post k x.trans.length).length : Int) = 1) : mrkAt x k = false := by unfold mrkAt; rw [decide_eq_false h, Bool.and_false]

theorem mrkAt_y {x : Stg} {k : Nat} (h : ((usrN x.trans Tra.pre k x.trans.length).length : Int) = 1) (h2 : ((usrN x.trans Tra.post k x.trans.length).length : Int) = 1) : mrkAt x k = true := by unfold mrkAt; rw [decide_eq_true h, decide_eq_true h2]; rfl

theorem sgIf_le {sg : List Sgn} (h : (sgTo sg 3).length ≤ 62 * 3) : (if kndB sg then sgT sg else []).length ≤ 186 := by
  split
  · exact h
  · simp

theorem arc_yes {x : Stg} {k : Nat} (h : x.start.getD k 0 = 49) : arcTo x k ++ (trnT x.sigs x.labs ((usrN x.trans Tra.post k x.trans.length).getD 0 default) ++ [32] ++ trnT x.sigs x.labs ((usrN x.trans Tra.pre k x.trans.length).getD 0 default)) ++ [32, 42] ++ [10] = arcTo x (k + 1) := by
 rw [arcTo_succ, arcL, if_pos h]; simp [hdN]

theorem arc_no {x : Stg} {k : Nat} (h : ¬ x.start.getD k 0 = 49) : arcTo x k ++ (trnT x.sigs x.labs ((usrN x.trans Tra.post k x.trans.length).getD 0 default) ++ [32] ++ trnT x.sigs x.labs ((usrN x.trans Tra.pre k x.trans.length).getD 0 default)) ++ [10] = arcTo x (k + 1) := by
 rw [arcTo_succ, arcL, if_neg h]; simp [hdN]

theorem one_lt {x : Stg} {f : Tra → List Int} {p : Int} (h : (usrN x.trans f p x.trans.length).length = 1) : (usrN x.trans f p x.trans.length).getD 0 default < x.trans.length := hd_lt h

theorem frm_3 {x : Stg} (h : (stgB x && mrkB x) = true) (h2 : (stgB x && kndB x.sigs) = true) : StgV x ∧ mrkB x = true ∧ kndB x.sigs = true ∧ frmB x = true := by
 simp only [Bool.and_eq_true] at h h2
 exact ⟨stg_v h.1, h.2, h2.2, by rw [frmB, h.1, h.2, h2.2]; rfl⟩

theorem frm_n1 {x : Stg} (h : (stgB x && mrkB x) = false) : frmB x = false := by
  unfold frmB; revert h; cases stgB x <;> cases mrkB x <;> simp

theorem frm_n2 {x : Stg} (h : (stgB x && kndB x.sigs) = false) : frmB x = false := by
  unfold frmB; revert h; cases stgB x <;> cases kndB x.sigs <;> simp

def frmT (x : Stg) : List UInt8 := if frmB x then arcsT x else []

theorem frmT_no {x : Stg} (h : frmB x = false) : frmT x = [] := by rw [frmT, h]; rfl

theorem frmT_yes {x : Stg} (h : frmB x = true) : frmT x = arcsT x := by rw [frmT, h]; rfl

theorem sp_impl_edgeText (sg : List Sgn) (l : Lab) (hn : sg.length ≤ 1048576) (hs : l.sig.toNat < sg.length) (hw : ∀ y ∈ sg, y.name.length ≤ 1048576) : Sp Tryz.prog 69 [(.slice false 2 (sg.map Sgn.d)), (.agg [(.int .i64 l.sig), (.bool (l.up))])] [.any, .any] (.str (edgT sg l)) := by
 refine Sp_intro (lend := true) Tryz.func69 rfl rfl rfl (fun _ => rfl) (fun c hc hX => ?_)
 refine Ts hc (Ch.s (.ptr 3000 0) (.box 3000 _ _ rfl (.aggD _)) (Ch.s (dS []) pa (Ch.nil (Tq (Tb (Tq ?_))))))
 refine Tz hc (Ch.s (.ptr 3000 0) (fP fld67_0 rfl) (Ch.s (dI l.sig) (lP ag3 rfl rfl rfl) (Ch.s (dB (decide (l.sig < 0))) (iX rfl rfl rfl) (Ch.s (dB (decide (l.sig < 0))) pa (Ch.nil ?_)))))
 refine T_condD (p := (l.sig < 0)) rfl (fun h1 => ?_) (fun h1 => ?_)
 ·
  try have hwk := hw _ (getD_mem (l := sg) (j := l.sig.toNat) (d := default) (by omega))
  refine Ts hc (Ch.s (dS [126]) pa (Ch.nil (T_ret ?_)))
  exact eR [(dS [126])] [] [] (.cons (.tmp 4 rfl) .nil) eB (Exp.of (congrArg D.str a24) (.d _))
 ·
  try have hwk := hw _ (getD_mem (l := sg) (j := l.sig.toNat) (d := default) (by omega))
  refine Ts hc (Ch.s (.ptr 3000 1) (fP fld67_1 rfl) (Ch.s (dB (l.up)) (lP ag4 rfl rfl rfl) (Ch.s (dB (l.up)) pa (Ch.nil ?_))))
  refine T_cond (b := (l.up)) rfl (fun h2 => ?_) (fun h2 => ?_)
  ·
   refine Ts hc (Ch.s (.d (.slice false 2 (sg.map Sgn.d))) pm (Ch.s (.ptr 3000 0) (fP fld67_0 rfl) (Ch.s (dI l.sig) (lP ag3 rfl rfl rfl) (Ch.s (.d (.ref (.agg [(.str ((sg.getD ((l.sig).toNat) default).name)), (.int .i64 ((sg.getD ((l.sig).toNat) default).kind))]))) (.pure (.idx _ _ _ 77 ((l.sig).toNat) rfl Tryz.underlying25 sz77 rfl rfl (by omega) get_mapA)) (Ch.s (.d (.ref (.str ((sg.getD ((l.sig).toNat) default).name)))) (.pure (.fldRef _ _ _ rfl fld77_0 rfl rfl rfl)) (Ch.s (dS ((sg.getD ((l.sig).toNat) default).name)) (rF ag9 rfl rfl) ?_))))))
   refine Ch.s (dS (((sg.getD ((l.sig).toNat) default).name) ++ [43])) (.pure (.str _ _ _ _ _ rfl rfl rfl (strV_add a26))) (Ch.s (dS (((sg.getD ((l.sig).toNat) default).name) ++ [43])) pa (Ch.nil (T_ret ?_)))
   exact eR [(dS (((sg.getD ((l.sig).toNat) default).name) ++ [43]))] [] [] (.cons (.tmp 4 rfl) .nil) eB (Exp.of (congrArg D.str a24) (.d _))
  ·
   refine Tk (Ts hc (Ch.s (.d (.slice false 2 (sg.map Sgn.d))) pm (Ch.s (.ptr 3000 0) (fP fld67_0 rfl) (Ch.s (dI l.sig) (lP ag3 rfl rfl rfl) (Ch.s (.d (.ref (.agg [(.str ((sg.getD ((l.sig).toNat) default).name)), (.int .i64 ((sg.getD ((l.sig).toNat) default).kind))]))) (.pure (.idx _ _ _ 77 ((l.sig).toNat) rfl Tryz.underlying25 sz77 rfl rfl (by omega) get_mapA)) (Ch.s (.d (.ref (.str ((sg.getD ((l.sig).toNat) default).name)))) (.pure (.fldRef _ _ _ rfl fld77_0 rfl rfl rfl)) ?_))))))
   refine Ch.s (dS ((sg.getD ((l.sig).toNat) default).name)) (rF ag9 rfl rfl) (Ch.s (dS (((sg.getD ((l.sig).toNat) default).name) ++ [45])) (.pure (.str _ _ _ _ _ rfl rfl rfl (strV_add a26))) (Ch.s (dS (((sg.getD ((l.sig).toNat) default).name) ++ [45])) pa (Ch.nil (T_ret ?_))))
   exact eR [(dS (((sg.getD ((l.sig).toNat) default).name) ++ [45]))] [] [] (.cons (.tmp 4 rfl) .nil) eB (Exp.of (congrArg D.str a24) (.d _))

theorem sp_spec_l2Word (x : Stg) (l : Lab) (hv : StgV x) (hs : l.sig.toNat < x.sigs.length) : Sp Tryz.prog 60 [(.agg [(.int .i64 x.places), (.slice false 2 (x.trans.map Tra.d)), (.slice false 2 (x.sigs.map Sgn.d)), (.slice false 2 (x.labs.map Lab.d)), (.str x.start)]), (.agg [(.int .i64 l.sig), (.bool (l.up))])] [.any, .any] (.str (edgT x.sigs l)) := by
 refine Sp_intro (lend := true) Tryz.func60 rfl rfl rfl (fun _ => rfl) (fun c hc hX => ?_)
 have hx := stg_sm hv; obtain ⟨⟨h0, h0u⟩, hts, hsg, hlb, hst⟩ := hx; have hn1 := hts.1; have hn2 := hsg.1; have v1 := hv.p1; have v2 := hv.p30; have v3 := hv.t24; have v4 := hv.s1; have v5 := hv.s8; have v6 := hv.lab; have v7 := hv.st
 refine Ts hc (Ch.s (.ptr 2000 0) (.box 2000 _ _ rfl (.aggD _)) (Ch.s (.ptr 3000 0) (.box 3000 _ _ rfl (.aggD _)) (Ch.s (dS []) pa (Ch.nil (Tq (Tb ?_))))))
 refine Ts hc (Ch.s (.ptr 3000 0) (fP fld67_0 rfl) (Ch.s (dI l.sig) (lP ag3 rfl rfl rfl) (Ch.s (dB (decide (l.sig < 0))) (iX rfl rfl rfl) (Ch.s (dB (decide (l.sig < 0))) pa (Ch.nil ?_)))))
 refine T_condD (p := (l.sig < 0)) rfl (fun h1 => ?_) (fun h1 => ?_)
 ·
  try have hwk := hsg.2 _ (getD_mem (l := x.sigs) (j := l.sig.toNat) (d := default) (by omega))
  refine Ts hc (Ch.s (dS [126]) pa (Ch.nil (T_ret ?_)))
  exact eR [(dS [126])] [] [] (.cons (.tmp 4 rfl) .nil) eB (Exp.of (congrArg D.str a24) (.d _))
 ·
  try have hwk := hsg.2 _ (getD_mem (l := x.sigs) (j := l.sig.toNat) (d := default) (by omega))
  refine Ts hc (Ch.s (.ptr 3000 1) (fP fld67_1 rfl) (Ch.s (dB (l.up)) (lP ag4 rfl rfl rfl) (Ch.s (dB (l.up)) pa (Ch.nil ?_))))
  refine T_cond (b := (l.up)) rfl (fun h2 => ?_) (fun h2 => ?_)
  ·
   refine Ts hc (Ch.s (.ptr 2000 2) (fP fld28_1 rfl) (Ch.s (.d (.slice false 2 (x.sigs.map Sgn.d))) (lP ag25 rfl rfl rfl) (Ch.s (.ptr 3000 0) (fP fld67_0 rfl) (Ch.s (dI l.sig) (lP ag3 rfl rfl rfl) (Ch.s (.d (.ref (.agg [(.str ((x.sigs.getD ((l.sig).toNat) default).name)), (.int .i64 ((x.sigs.getD ((l.sig).toNat) default).kind))]))) (.pure (.idx _ _ _ 77 ((l.sig).toNat) rfl Tryz.underlying25 sz77 rfl rfl (by omega) get_mapA)) (Ch.s (.d (.ref (.str ((x.sigs.getD ((l.sig).toNat) default).name)))) (.pure (.fldRef _ _ _ rfl fld77_0 rfl rfl rfl)) ?_))))))
   refine Ch.s (dS ((x.sigs.getD ((l.sig).toNat) default).name)) (rF ag9 rfl rfl) (Ch.s (dS (((x.sigs.getD ((l.sig).toNat) default).name) ++ [43])) (.pure (.str _ _ _ _ _ rfl rfl rfl (strV_add a26))) (Ch.s (dS (((x.sigs.getD ((l.sig).toNat) default).name) ++ [43])) pa (Ch.nil (T_ret ?_))))
   exact eR [(dS (((x.sigs.getD ((l.sig).toNat) default).name) ++ [43]))] [] [] (.cons (.tmp 4 rfl) .nil) eB (Exp.of (congrArg D.str a24) (.d _))
  ·
   refine Tk (Ts hc (Ch.s (.ptr 2000 2) (fP fld28_1 rfl) (Ch.s (.d (.slice false 2 (x.sigs.map Sgn.d))) (lP ag25 rfl rfl rfl) (Ch.s (.ptr 3000 0) (fP fld67_0 rfl) (Ch.s (dI l.sig) (lP ag3 rfl rfl rfl) (Ch.s (.d (.ref (.agg [(.str ((x.sigs.getD ((l.sig).toNat) default).name)), (.int .i64 ((x.sigs.getD ((l.sig).toNat) default).kind))]))) (.pure (.idx _ _ _ 77 ((l.sig).toNat) rfl Tryz.underlying25 sz77 rfl rfl (by omega) get_mapA)) ?_))))))
   refine Ch.s (.d (.ref (.str ((x.sigs.getD ((l.sig).toNat) default).name)))) (.pure (.fldRef _ _ _ rfl fld77_0 rfl rfl rfl)) (Ch.s (dS ((x.sigs.getD ((l.sig).toNat) default).name)) (rF ag9 rfl rfl) (Ch.s (dS (((x.sigs.getD ((l.sig).toNat) default).name) ++ [45])) (.pure (.str _ _ _ _ _ rfl rfl rfl (strV_add a26))) (Ch.s (dS (((x.sigs.getD ((l.sig).toNat) default).name) ++ [45])) pa (Ch.nil (T_ret ?_)))))
   exact eR [(dS (((x.sigs.getD ((l.sig).toNat) default).name) ++ [45]))] [] [] (.cons (.tmp 4 rfl) .nil) eB (Exp.of (congrArg D.str a24) (.d _))

theorem sp_impl_labelled (x : Stg) (l : Lab) (hx : x.sm) : Sp Tryz.prog 72 [(.agg [(.int .i64 x.places), (.slice false 2 (x.trans.map Tra.d)), (.slice false 2 (x.sigs.map Sgn.d)), (.slice false 2 (x.labs.map Lab.d)), (.str x.start)]), (.agg [(.int .i64 l.sig), (.bool (l.up))])] [.any, .any] (.slice true 1 ((labI x.labs l x.labs.length).map (fun n : Int => D.int .i64 n))) := by
 refine Sp_intro (lend := true) Tryz.func72 rfl rfl rfl (fun _ => rfl) (fun c hc hX => ?_)
 obtain ⟨⟨h0, h0u⟩, hts, hsg, hlb, hst⟩ := hx; have hn1 := hts.1; have hn2 := hsg.1
 refine Ts hc (Ch.s (.ptr 2000 0) (.box 2000 _ _ rfl (.aggD _)) (Ch.s (.ptr 3000 0) (.box 3000 _ _ rfl (.aggD _)) (Ch.s (.c (.slice none 0 0)) pa (Ch.nil (Tq (Tz hc ?_))))))
 refine Ch.s (.row 8000) (.slice 8000 _ 3 _ rfl sty62 (xs := []) rfl rfl .nil rfl rfl (by decide)) (Ch.s (.row 8000) pa (Ch.nil (Tq (Ts hc (Ch.s (.ptr 2000 3) (fP fld28_2 rfl) (Ch.s (.d (.slice false 2 (x.labs.map Lab.d))) (lP ag26 rfl rfl rfl) ?_))))))
 refine Ch.s (dI (x.labs.length : Int)) (.pure (.len _ _ 67 rfl Tryz.underlying26 (.sh _ _) (by simp))) (Ch.s (dI 0) pm (Ch.nil (Tb ?_)))
 refine T_loop (ι := Nat) (fun k => { n := 26, sl := [(3, (.ptr 3000 0)), (5, (.row 5)), (10, (.d (.slice false 2 (x.labs.map Lab.d)))), (11, (dI (x.labs.length : Int))), (12, (dI (k : Int)))], hp := [(5, (some (.row 1 ((labI x.labs l k).map (fun n : Int => D.int .i64 n))))), (3000, (some (.box [(dI l.sig), (dB (l.up))])))], pin := [] }) (fun k => k ≤ x.labs.length) (fun k => x.labs.length - k) ⟨0, (by omega), (Wk.ren [(5, 8000)] rfl rfl rfl rfl (ar (ar (ar (ar (ai (vI a87) trivial))))) (ai (oR a33) (ar trivial)))⟩ (fun k hp0 => ?_)
 have hll := labI_len x.labs l k; have hcl := cntL_le x.labs l k
 refine Ts hc (Ch.s (dB (decide ((k : Int) < (x.labs.length : Int)))) (iX rfl rfl rfl) (Ch.nil (Tq ?_)))
 refine T_condD (p := ((k : Int) < (x.labs.length : Int))) rfl (fun h1 => ?_) (fun h1 => ?_)
 ·
  refine Tk (Tq (Tb (Ts hc (Ch.s (dI (k : Int)) pm (Ch.s (.d (.ref (.agg [(.int .i64 ((x.labs.getD k default).sig)), (.bool ((x.labs.getD k default).up))]))) (.pure (.idx _ _ _ 67 (k) rfl Tryz.underlying26 sz67 rfl rfl rfl get_mapA)) (Ch.s (.d (.agg [(.int .i64 ((x.labs.getD k default).sig)), (.bool ((x.labs.getD k default).up))])) (.pure (.loadRefA _ _ rfl ag67 sz67 rfl)) ?_))))))
  refine Ch.s (.ptr 7000 0) (.alloc 7000 _ rfl zer67) (Ch.s (dI (k : Int)) pa (Ch.s .junk (.storePtr _ _ _ rfl rfl rfl (.aggD _) sz67 (lb rfl)) (Ch.nil (Ts hc (Ch.s (.agg [(dI ((x.labs.getD k default).sig)), (dB ((x.labs.getD k default).up))]) (lA ag67 sz67 rfl rfl (lb rfl) rfl) (Ch.s (.agg [(dI l.sig), (dB (l.up))]) (lA ag67 sz67 rfl rfl (lb rfl) rfl) ?_))))))
  refine Ch.s (dB (decide ((x.labs.getD k default) = l))) (.pure (.eqA _ _ _ _ rfl (eqa67 _ _ _ _) (.v [(.int .i64 ((x.labs.getD k default).sig)), (.bool ((x.labs.getD k default).up))]) (.v [(.int .i64 l.sig), (.bool (l.up))]) (Lab.eqv (x.labs.getD k default) l))) (Ch.nil ?_)
  refine T_condD (p := ((x.labs.getD k default) = l)) rfl (fun h2 => ?_) (fun h2 => ?_)
  ·
   refine Tz hc (Ch.s (.row 5) pm (Ch.s (dI (k : Int)) pm (Ch.s (.row 22000) (.slice 22000 _ 3 _ rfl sty62 (xs := [.tmp 21]) rfl rfl (.cons (.d _) .nil) rfl rfl (by decide)) ?_)))
   refine Ch.step (v := (.row 23000)) rfl (.append 23000 _ _ _ 3 rfl sty62 (by decide) (.rowK rfl) (.inr ⟨_, rfl, rfl⟩) (.row rfl rfl) rfl a30) rfl rfl ?_
   refine Ch.s (.row 23000) pa (Ch.nil (Tz hc (Ch.s (dI ((k : Int) + 1)) (iX rfl rfl intV_addA) (Ch.s (dI ((k : Int) + 1)) pm (Ch.nil ?_)))))
   exact nx (k + 1) (by omega) (Wk.ren [(5, 23000)] rfl rfl rfl rfl (ar (ar (ar (ar (ai (vI a87) trivial))))) (ai (oR a33) (ar trivial)))
  ·
   refine Tk (Tz hc (Ch.s (dI ((k : Int) + 1)) (iX rfl rfl intV_addA) (Ch.s (dI ((k : Int) + 1)) pm (Ch.nil ?_))))
   exact nx (k + 1) (by omega) (Wk.of rfl rfl (ar (ar (ar (ar (ai (vI a87) trivial))))) (ai (oR a33) (ar trivial)))
 ·
  refine T_exit (Ts hc (Ch.s (.row 5) pm (Ch.s (.row 5) pa (Ch.nil (T_ret ?_)))))
  exact eR [(.row 5)] [] [5] (.cons (.tmp 4 rfl) .nil) eB (Exp.of (congrArg (D.slice true 1) (by rw [show k = x.labs.length by omega])) (.row rfl))

theorem sp_Index_lab (labs : List Lab) (l : Lab) (t n : Nat) (ht : t < n) (h : labs.getD t default = l) (hn : n ≤ 1048576) : Sp Tryz.prog 74 [(.slice false 1 ((labI labs l n).map (fun n : Int => D.int .i64 n))), (.int .i64 (t : Int))] [.any, .any] (.int .i64 (cntL labs l t : Int)) := by
 have h1 := sp_Index_int (labI labs l n) (t : Int) (by rw [labI_len]; have := cntL_le labs l n; omega)
 rw [labI_ix ht h] at h1; exact h1

end Go.AM
