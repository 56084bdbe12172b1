/-
  The contracts that the law FnExactGeneralizedCCircuit needs.
-/
import Derived.Test.YtnmlcebejnlikaaGreatAmO
import Derived.Test.YtnmlcebejnlikaaGreatProg
import Derived.KernelRfl
import Derived.Test.YtnmlcebejnlikaaGreatAmP
import Derived.Test.YtnmlcebejnlikaaGreatAmW
import Derived.Test.YtnmlcebejnlikaaGreatAmX
import Derived.Test.YtnmlcebejnlikaaGreatAmY
import Derived.Test.YtnmlcebejnlikaaGreatAmZ
namespace Go.AM
open Go.Proofs
set_option linter.unusedVariables false
set_option linter.unusedSimpArgs false

theorem iX {P : Program} {ρ : Operand → V} {h : Nat → Option Ob} {dst : Option Nat} {op t x y t' a2 b2 c2 d2} {k a b r} (hx : ρ x = .d (.int k a)) (hy : ρ y = .d (.int k b)) (hv : intV op k a b = some r) : Ev P ρ h (Oper.mk dst (.binOp op t x y t') a2 b2 c2 d2) (.d r) {} := .pure (.int _ _ _ _ _ rfl hx hy hv)
theorem lb {n m : Nat} (h : Nat.ble n m = true) : n ≤ m := Nat.le_of_ble_eq_true h
theorem T_condD {P : Program} {c : Ctx} {Q : Exit → St → Prop} {α : St} {k : Operand} {x y : Code} {p : Prop} [Decidable p] (hk : α.ev k = .d (.bool (decide p))) (ht : p → T P c x Q α) (hf : ¬p → T P c y Q α) : T P c (.cond k x y) Q α := T_cond hk (fun h => ht (of_decide_eq_true h)) (fun h => hf (of_decide_eq_false h))
theorem T_condN {P : Program} {c : Ctx} {Q : Exit → St → Prop} {α : St} {k : Operand} {x y : Code} {b : Bool} (hk : α.ev k = .d (.bool (!b))) (ht : b = false → T P c x Q α) (hf : b = true → T P c y Q α) : T P c (.cond k x y) Q α := T_cond hk (fun h => ht (nott h)) (fun h => hf (notf h))
theorem ar {α : Sort _} {x : α} {b : Prop} (k : b) : x = x ∧ b := ⟨rfl, k⟩
theorem eR {P : Program} {rs : List ResultVar} {pvs : List V} {ds' : List D} {r : D} {lend : Bool} {α : St} (vs : List V) (k1 k2 : List Nat) (h1 : ResVs P α rs vs) (h2 : Exps α.ob (fun _ => none) pvs ds' k1) (h3 : Exp α.ob (fun id => if lend = true ∧ id ∉ k1 ++ k2 then α.ob id else none) (packV vs) r k2) (h4 : nodupB (k1 ++ k2) = true := by rfl) (h5 : ((idss pvs).all fun i => α.pin.contains i) = true := by rfl) : (Exit.ret = .normal ∨ Exit.ret = .ret) ∧ Ret P rs pvs ds' r lend α := endR vs k1 k2 h1 h2 h3 h4 h5
theorem odt {p : Prop} [Decidable p] (h : decide p = true) : p := of_decide_eq_true h
theorem odf {p : Prop} [Decidable p] (h : decide p = false) : ¬p := of_decide_eq_false h
@[reducible] def dI (n : Int) : V := .d (.int .i64 n)
@[reducible] def dB (b : Bool) : V := .d (.bool b)
@[reducible] def dS (s : List UInt8) : V := .d (.str s)
theorem pT {P : Program} {ρ : Operand → V} {h : Nat → Option Ob} {dst : Option Nat} {a2 b2 c2 d2} {c x y} (hc : ρ c = .d (.bool true)) : Ev P ρ h (Oper.mk dst (.pick c x y) a2 b2 c2 d2) (ρ x) {} := .pure (.pickT _ _ _ rfl hc rfl)
theorem pF {P : Program} {ρ : Operand → V} {h : Nat → Option Ob} {dst : Option Nat} {a2 b2 c2 d2} {c x y} (hc : ρ c = .d (.bool false)) : Ev P ρ h (Oper.mk dst (.pick c x y) a2 b2 c2 d2) (ρ y) {} := .pure (.pickF _ _ _ rfl hc rfl)
theorem nT {P : Program} {ρ : Operand → V} {h : Nat → Option Ob} {dst : Option Nat} {a2 b2 c2 d2} {t x b} (hx : ρ x = .d (.bool b)) : Ev P ρ h (Oper.mk dst (.unOp .not t x) a2 b2 c2 d2) (.d (.bool (!b))) {} := .pure (.not _ _ rfl hx)
theorem lP {P : Program} {ρ : Operand → V} {h : Nat → Option Ob} {dst : Option Nat} {a2 b2 c2 d2} {t x id off cs v} (ht : AggIs P t false) (hx : ρ x = .ptr id off) (hob : h id = some (.box cs)) (hv : cs[off]? = some v) : Ev P ρ h (Oper.mk dst (.load t x) a2 b2 c2 d2) v {} := .pure (.loadPtr1 _ _ rfl ht hx hob hv)
theorem fP {P : Program} {ρ : Operand → V} {h : Nat → Option Ob} {dst : Option Nat} {a2 b2 c2 d2} {s x f id o0 off n agg} (hf : FieldIs P s f off n agg) (hx : ρ x = .ptr id o0) : Ev P ρ h (Oper.mk dst (.fieldAddr s x f) a2 b2 c2 d2) (.ptr id (o0 + off)) {} := .pure (.fldPtr _ _ _ rfl hf hx)
theorem lA {P : Program} {ρ : Operand → V} {h : Nat → Option Ob} {dst : Option Nat} {a2 b2 c2 d2} {t x id off cs n vs} (ht : AggIs P t true) (hsz : SizeIs P t n) (hx : ρ x = .ptr id off) (hob : h id = some (.box cs)) (hn : off + n ≤ cs.length) (hv : (cs.drop off).take n = vs) : Ev P ρ h (Oper.mk dst (.load t x) a2 b2 c2 d2) (.agg vs) {} := .pure (.loadPtrA _ _ rfl ht hsz hx hob hn hv)
theorem rF {P : Program} {ρ : Operand → V} {h : Nat → Option Ob} {dst : Option Nat} {a2 b2 c2 d2} {t x y} (ht : AggIs P t false) (hx : ρ x = .d (.ref y)) (h1 : y.one = true) : Ev P ρ h (Oper.mk dst (.load t x) a2 b2 c2 d2) (.d y) {} := .pure (.loadRef1 _ _ rfl ht hx h1)
theorem xT {P : Program} {ρ : Operand → V} {h : Nat → Option Ob} {dst : Option Nat} {a2 b2 c2 d2} {x n vs v} (hx : ρ x = .tup vs) (hv : vs[n]? = some v) : Ev P ρ h (Oper.mk dst (.extract x n) a2 b2 c2 d2) v {} := .pure (.extract _ rfl hx hv)
theorem Tz {P : Program} {c : Ctx} {Q : Exit → St → Prop} {α : St} {id : Nat} {l : List Oper} (hc : CtxOK c) (h : Ch P l.toArray (fun α' => Q .normal α') l α) : T P c (.region id l.toArray false) Q α := T_region hc h
theorem Tb {P : Program} {c : Ctx} {Q : Exit → St → Prop} {α : St} {id : Nat} {x : Code} (h : T P c x (blockQ id Q) α) : T P c (.block id x) Q α := T_block h
theorem Tk {P : Program} {c : Ctx} {Q : Exit → St → Prop} {α : St} (h : Q .normal α) : T P c .skip Q α := T_skip h
theorem Tq {P : Program} {c : Ctx} {Q : Exit → St → Prop} {α : St} {x y : Code} (h : T P c x (thenQ (T P c y Q) Q) α) : T P c (.seq x y) Q α := T_seq h
theorem Ts {P : Program} {c : Ctx} {Q : Exit → St → Prop} {α : St} {id : Nat} {l : List Oper} {y : Code} (hc : CtxOK c) (h : Ch P l.toArray (fun α' => thenQ (T P c y Q) Q .normal α') l α) : T P c (.seq (.region id l.toArray false) y) Q α := T_seq (T_region hc h)
theorem Ck {P : Program} {all : Array Oper} {K : St → Prop} {o : Oper} {rest : List Oper} {α : St} (r : Ch P all K rest (α.put o.dst (.c undef))) (hw : wantA all α o = some false := by rfl) (hd : dstB o α.n = true := by rfl) : Ch P all K (o :: rest) α := .skip hw hd r
theorem eA {h hb : Nat → Option Ob} {v : V} : Exps h hb [v] [D.any] [] := .cons (.any _) .nil
theorem eB {h hb : Nat → Option Ob} {v w : V} : Exps h hb [v, w] [D.any, D.any] [] := .cons (.any _) (.cons (.any _) .nil)
theorem eC {h hb : Nat → Option Ob} {v w x : V} : Exps h hb [v, w, x] [D.any, D.any, D.any] [] := .cons (.any _) (.cons (.any _) (.cons (.any _) .nil))
theorem a137 {p : Prop} (h : p := by first | assumption | omega) : p := h
theorem a136 {p : Prop} (h : p := by cases x; cases y; simp_all) : p := h
theorem a135 {p : Prop} (h : p := by intro S w; exact nil_reads true 1) : p := h
theorem a134 {p : Prop} (h : p := by intro S w; rw [DR]; exact ⟨rfl, rfl⟩) : p := h
theorem a133 {p : Prop} (h : p := by first | rfl | omega | (exfalso; omega)) : p := h
theorem a132 {p : Prop} (h : p := by exact eqL_at default k (by assumption)) : p := h
theorem a131 {p : Prop} (h : p := by first | rfl | (rw [List.map_set]; done)) : p := h
theorem a130 {p : Prop} (h : p := by first | omega | (simp; done) | assumption) : p := h
theorem a129 {p : Prop} (h : p := by rw [D.solid]; exact solids_c (Cir.sol _) rfl) : p := h
theorem a128 {p : Prop} (h : p := by first | (rw [whyV, h1]; rfl) | (rw [h1]; done)) : p := h
theorem a127 {p : Prop} (h : p := by first | rfl | (rw [cubesMid_all (by omega)]; done)) : p := h
theorem a126 {p : Prop} (h : p := by first | rfl | omega | (simp; done) | (simp; omega)) : p := h
theorem a125 {p : Prop} (h : p := by rw [List.length_append, List.length_singleton]; omega) : p := h
theorem a124 {p : Prop} (h : p := by exact any_no default (fun j hj => hp0.2 j (by omega))) : p := h
theorem a123 {p : Prop} (h : p := by first | (rw [put15, h1]; rfl) | (rw [put15, h1]; done)) : p := h
theorem a122 {p : Prop} (h : p := by first | rfl | (exact push rfl (steps_take (by omega)))) : p := h
theorem a121 {p : Prop} (h : p := by first | rfl | (rw [prM_end (by omega) (by omega)]; done)) : p := h
theorem a120 {p : Prop} (h : p := by first | (simp_all [upB]; done) | (simp_all [upB]; omega)) : p := h
theorem a119 {p : Prop} (h : p := by first | assumption | (unfold arcB codeAt; simp_all; done)) : p := h
theorem a118 {p : Prop} (h : p := by first | rfl | (rw [List.set_set, smTo, List.map_set]; rfl)) : p := h
theorem a117 {p : Prop} (h : p := by first | rfl | (simp only [List.set_set, hmg]; exact gm_set)) : p := h
theorem a116 {p : Prop} (h : p := by first | (rw [hasSigB, h1]; rfl) | (simp_all [hasSigB]; done)) : p := h
theorem a115 {p : Prop} (h : p := by rw [D.solid]; exact solids_c (solid_row (fun _ => rfl) _) rfl) : p := h
theorem a114 {p : Prop} (h : p := by first | (rw [ixF_all h1]; done) | (exact dl_end hp0 (by omega))) : p := h
theorem a113 {p : Prop} (h : p := by first | rfl | (exact congrArg (List.map _) (pvA_end (by omega)))) : p := h
theorem a112 {p : Prop} (h : p := by exact eqL_all default (by omega) (fun j hj => hp0.2 j (by omega))) : p := h
theorem a111 {p : Prop} (h : p := by first | (exact metIt_start x) | (rw [metTo_all x k (by omega)]; done)) : p := h
theorem a110 {p : Prop} (h : p := by exact (ixF_some (d := default) (by omega) hp0.2 (by assumption)).symm) : p := h
theorem a109 {p : Prop} (h : p := by first | (rw [primP]; simp_all; done) | (unfold primP; simp_all; done)) : p := h
theorem a108 {p : Prop} (h : p := by first | rfl | (rw [← cubesMid_succ (by omega), List.map_append]; rfl)) : p := h
theorem a107 {p : Prop} (h : p := by exact (ixF_none (d := default) (fun j hj => hp0.2 j (by omega))).symm) : p := h
theorem a106 {p : Prop} (h : p := by rw [cubeN, cubeS, allB_of (fun j hj => hp0.2 j (by omega))]; simp_all) : p := h
theorem a105 {p : Prop} (h : p := by first | (rw [sumF_zero]; omega) | (rw [sumF_succ _ (by omega)]; omega)) : p := h
theorem a104 {p : Prop} (h : p := by first | (rw [sumTo_zero]; omega) | (rw [sumTo_succ (by omega)]; omega)) : p := h
theorem a103 {p : Prop} (h : p := by first | (simp_all; done) | (exact decide_eq_false (fun e => h2 e.symm))) : p := h
theorem a102 {p : Prop} (h : p := by first | (rw [nxTo, List.map_replicate]; rfl) | (rw [nxTo]; exact set_holeI)) : p := h
theorem a101 {p : Prop} (h : p := by first | omega | (exfalso; omega) | (exfalso; simp_all; done) | contradiction) : p := h
theorem a100 {p : Prop} (h : p := by rw [D.solid]; exact solids_c rfl (solids_c (solid_row (fun _ => rfl) _) rfl)) : p := h
theorem a99 {p : Prop} (h : p := by first | (simp_all [edgeB, lab_eq]; done) | (simp_all [edgeB, lab_eq]; omega)) : p := h
theorem a98 {p : Prop} (h : p := by first | assumption | (show (smk _ _).length ≤ 1048576; rw [smk_len]; assumption)) : p := h
theorem a97 {p : Prop} (h : p := by show GHeld (gmk _ _) (1 + 2 * (smk _ _).length); rw [smk_len]; exact gmk_held _ _) : p := h
theorem a96 {p : Prop} (h : p := by first | omega | (simp only [List.length_map, List.length_set]; omega) | (simp; omega)) : p := h
theorem a95 {p : Prop} (h : p := by unfold inputB; simp only [*, decide_true, decide_false, Bool.true_and, Bool.false_and]) : p := h
theorem a94 {p : Prop} (h : p := by show _ = szR (bulkF Sgn.bulk x.sigs + bulkS x.codes + bulkF Arc.bulk x.arcs) left; omega) : p := h
theorem a93 {p : Prop} (h : p := by first | (rw [marked_zero]; done) | (rw [← marked_set xs k (by omega), List.map_set]; done)) : p := h
theorem a92 {p : Prop} (h : p := by first | rfl | (rw [litTo_succ, litOf, show (xs.getD k default).length = m by omega]; done)) : p := h
theorem a91 {p : Prop} (h : p := by rw [D.solid]; exact solids_c rfl (solids_c rfl (solids_c (solid_row (fun _ => rfl) _) rfl))) : p := h
theorem a90 {p : Prop} (h : p := by first | rfl | (rw [gml_succ (by omega)]; rw [hmg]; omega) | (rw [gml_succ (by omega)]; omega)) : p := h
theorem a89 {p : Prop} (h : p := by first | (rw [lmask, if_pos (by assumption)]; done) | (rw [lmask, if_neg (by simp_all)]; done)) : p := h
theorem a88 {p : Prop} (h : p := by first | rfl | contradiction | (exfalso; omega) | (simp_all; done) | (exfalso; simp_all; omega)) : p := h
theorem a87 {p : Prop} (h : p := by first | (simp [List.map_take, List.map_drop]; done) | (rw [List.take_length, List.map_drop]; done)) : p := h
theorem a86 {p : Prop} (h : p := by first | exact (hp0.keep (by omega) (by assumption)).1 | exact (hp0.skip (by omega) (by assumption)).1) : p := h
theorem a85 {p : Prop} (h : p := by first | (rw [onoff_impl, h1, h2, h3]; rfl) | (rw [onoff_impl, h1, h2]; rfl) | (rw [onoff_impl, h1]; rfl)) : p := h
theorem a84 {p : Prop} (h : p := by first | (rw [adjTo_zero, List.map_replicate]; rfl) | (rw [adjTo_succ (by omega), linked]; exact set_holeI)) : p := h
theorem a83 {p : Prop} (h : p := by first | assumption | omega | (rw [List.length_mergeSort]; assumption) | (rw [List.length_mergeSort]; omega)) : p := h
theorem a82 {p : Prop} (h : p := by first | (rw [gml_all (m := m) (by omega)]; done) | (exfalso; omega) | (exfalso; simp_all; done) | contradiction) : p := h
theorem a81 {p : Prop} (h : p := by first | rfl | omega | (rw [cntB_yes (by simp_all [isLit])]; omega) | (rw [cntB_no (by simp_all [isLit])]; done)) : p := h
theorem a80 {p : Prop} (h : p := by first | (rw [fill_zero, List.map_replicate]; done) | (rw [← fill_set xs [] default (by omega), List.map_set]; done)) : p := h
theorem a79 {p : Prop} (h : p := by first | (rw [ixF_all h1]; done) | (rw [take_cut (by simp; omega), ← List.map_take, hp0.done (by omega)]; done) | skip) : p := h
theorem a78 {p : Prop} (h : p := by first | (rw [fill_zero, List.map_replicate]; rfl) | (rw [← fill_set xs default default (by omega), List.map_set]; rfl)) : p := h
theorem a77 {p : Prop} (h : p := by first | rfl | (rw [show m = ((adjTo n l l.length).getD (q.1.2.getD q.2 default).toNat default).length by omega] <;> rfl)) : p := h
theorem a76 {p : Prop} (h : p := by first | (rw [sigOk, h2, h3, any_take (by omega) (by omega) hp1.2]; rfl) | (simp_all [sigOk]; done) | (simp_all [sigOk]; omega)) : p := h
theorem a75 {p : Prop} (h : p := by first | rfl | (exact push rfl (selTo_yes (by simp_all [outP]))) | (exact congrArg (List.map _) (selTo_no (by simp_all [outP])))) : p := h
theorem a74 {p : Prop} (h : p := by first | rfl | (exact metTo_yes (by omega) (by assumption)) | (exact congrArg (List.map _) (metTo_no (by omega) (by assumption)))) : p := h
theorem a73 {p : Prop} (h : p := by first | exact (dl_start h1).1 | exact (dl_keep hp0 (by omega) (by assumption)).1 | exact (dl_skip hp0 (by omega) (by assumption)).1) : p := h
theorem a72 {p : Prop} (h : p := by first | (rw [hasB, allB_no k (by omega) (by simp_all [hasCh])]; done) | (rw [hasB, allB_of (fun j hj => hp0.2 j (by omega))]; done)) : p := h
theorem a71 {p : Prop} (h : p := by first | rfl | (exact push rfl (selTo_yes (out_in (by assumption)))) | (exact congrArg (List.map _) (selTo_no (out_not (by assumption))))) : p := h
theorem a70 {p : Prop} (h : p := by first | (rw [selC_zero]; rfl) | (exact push rfl (selC_yes (by assumption))) | (exact congrArg (List.map D.str) (selC_no (by assumption)))) : p := h
theorem a69 {p : Prop} (h : p := by first | omega | (simp only [List.length_append, List.length_map, List.length_cons, List.length_nil]; omega) | (simp; omega) | (simp; done)) : p := h
theorem a68 {p : Prop} (h : p := by rw [D.solid]; exact solids_c (by rw [D.solid]; exact solids_c (solid_row (fun _ => rfl) _) (solids_c (solid_row (fun _ => rfl) _) rfl)) rfl) : p := h
theorem a67 {p : Prop} (h : p := by first | (have hal := sumF_all Sgn.bulk (xs := xs) (k := k) (by omega); rw [szR, bulkF]; split <;> omega) | (rw [szR, bulkF]; split <;> omega)) : p := h
theorem a66 {p : Prop} (h : p := by first | (rw [codeN, allB_no k (by omega) (by simp_all [codeCh])]; rfl) | (rw [codeN, allB_of (fun j hj => hp0.2 j (by omega)), Bool.true_and])) : p := h
theorem a65 {p : Prop} (h : p := by first | (rw [primeB, allB_no k (by omega) (by simp_all [isLit, dashAt])]; done) | (rw [primeB, allB_of (fun j hj => hp0.2 j (by omega))]; done)) : p := h
theorem a64 {p : Prop} (h : p := by first | (rw [codeN, allB_no k (by omega) (by simp_all [codeCh])]; rfl) | (rw [codeN, allB_of (fun j hj => hp0.2 j (by omega)), Bool.true_and]; done)) : p := h
theorem a63 {p : Prop} (h : p := by first | rfl | (rw [List.map_set]; done) | (rw [show m = ((adjTo n l l.length).getD (q.1.2.getD q.2 default).toNat default).length by omega] <;> rfl)) : p := h
theorem a62 {p : Prop} (h : p := by first | (rw [heldR, heldB, allB_no m (by omega) (by simp_all)]; rfl) | (rw [heldR, heldB, allB_of (fun j hj => hp0.2 j (by omega)), if_pos rfl]; omega)) : p := h
theorem a61 {p : Prop} (h : p := by first | rfl | (rw [relaxTo_succ (by omega), relax, if_pos (by assumption), List.map_set]) | (rw [relaxTo_succ (by omega), relax, if_neg (by assumption)])) : p := h
theorem a60 {p : Prop} (h : p := by first | (rw [minS_no (fun j hj => hp0.2 j (by omega))]; first | done | rfl) | (rw [minS_yes (m := m) (by omega) hp0.2 (by assumption)]; first | done | rfl)) : p := h
theorem a59 {p : Prop} (h : p := by (rw [← put14_new (k := k) (by omega) hp0.2 (fun hl => by first | assumption | (exfalso; omega))]; simp only [List.map_append, List.map_take, List.map_drop]; rfl)) : p := h
theorem a58 {p : Prop} (h : p := by first | rfl | (rw [relaxTo_succ (by omega), relax, if_pos (by assumption), List.map_append]; rfl) | (rw [relaxTo_succ (by omega), relax, if_neg (by assumption)])) : p := h
theorem a57 {p : Prop} (h : p := by first | (rw [why_hid h1]; done) | (rw [why_two h1 h2]; done) | (rw [why_brk h1 h2 h3]; done) | (rw [why_cf h1 h2 h3 h4]; done) | (rw [why_made h1 h2 h3 h4]; done)) : p := h
theorem a56 {p : Prop} (h : p := by first | rfl | (exact push rfl (ftake_yes (by omega) (by rw [primP]; simp_all))) | (exact congrArg (List.map D.str) (ftake_no (by omega) (by rw [primP]; simp_all)))) : p := h
theorem a55 {p : Prop} (h : p := by first | (rw [inputB_lt (by omega)]; rfl) | (rw [inputB_yes (by omega) (by assumption)]; rfl) | (rw [inputB_no (by assumption)]; rfl) | (unfold inputB; simp_all; done)) : p := h
theorem a54 {p : Prop} (h : p := by first | assumption | omega | trivial | (simp_all; done) | (exact fun _ _ => trivial) | (exact hx _ (by assumption)) | (refine ⟨?_, ?_⟩ <;> first | assumption | omega)) : p := h
theorem a53 {p : Prop} (h : p := by first | (rw [outSig, h1]; done) | (rw [outSig, h1]; rfl) | (rw [outSig, sig_both h1 h2]; done) | (rw [outSig, sig_both h1 h2]; rfl) | (simp_all [outSig, hasSigB]; done)) : p := h
theorem a52 {p : Prop} (h : p := by first | omega | (simp only [List.length_map, List.length_append, List.length_take, List.length_drop, List.length_cons, List.length_nil]; omega) | (simp; omega) | (simp; done)) : p := h
theorem a51 {p : Prop} (h : p := by first | assumption | (show Sgr.bulk (Sgr.mk _ [] []) ≤ 1048576; unfold Sgr.bulk bulkS bulkF; simp only [List.length_nil, List.map_nil, List.sum_nil]; unfold bulkF at *; omega)) : p := h
theorem a50 {p : Prop} (h : p := by first | (rw [codesB, allB_no k (by omega) a120]; done) | (rw [codesB, allB_of (fun j hj => hp0.2 j (by omega))]; done)) : p := h
theorem a49 {p : Prop} (h : p := by first | rfl | (rw [List.set_set, List.map_set]; rfl) | (rw [List.set_set, List.set_set, List.map_set]; rfl) | (rw [List.set_set, List.set_set, List.set_set, List.map_set]; rfl)) : p := h
theorem a48 {p : Prop} (h : p := by first | rfl | (rw [betI_eq]; simp only [*, Int.lt_irrefl, decide_true, decide_false, Bool.not_true, Bool.not_false, Bool.true_or, Bool.false_or, Bool.true_and, Bool.false_and]; done)) : p := h
theorem a47 {p : Prop} (h : p := by first | (rw [mem_yes hf hcb (by assumption)]; done) | (rw [mem_no hf hcb (by assumption)]; done) | (rw [mem_off hf hcb]; done) | (exact mem_off hf hcb) | (exact (mem_off hf hcb).symm)) : p := h
theorem a46 {p : Prop} (h : p := by first | assumption | omega | (rw [List.length_take]; omega) | (have := bulkF_mem hb _ (getD_mem (d := default) (by omega)); assumption) | (unfold bulkS at *; omega) | (simp_all; done)) : p := h
theorem a45 {p : Prop} (h : p := by first | (rw [osOn, h1, if_pos rfl]; done) | (rw [osOff, h1, if_pos rfl]; done) | (rw [osOk, h1, Bool.true_and]; done) | (rw [osOn, h1]; rfl) | (rw [osOff, h1]; rfl) | (rw [osOk, h1]; rfl)) : p := h
theorem a44 {p : Prop} (h : p := by first | (rw [codesI, allB_no k (by omega) a120]; rfl) | (rw [codesI, allB_of (fun j hj => hp0.2 j (by omega)), Bool.true_and]; done)) : p := h
theorem a43 {p : Prop} (h : p := by first | (simp_all [cmpS]; done) | (unfold cmpS; simp_all; done) | (have hb := @bl_tri u v; have hi := bl_irr v; cases h3 : Op.bytesLess u v <;> cases h4 : Op.bytesLess v u <;> simp_all [cmpS])) : p := h
theorem a42 {p : Prop} (h : p := by first | (exact congrArg (List.map _) (prM_start _ _ _)) | (exact push rfl (prM_yes (by omega) (decide_eq_true (by omega)))) | (exact congrArg (List.map _) (prM_no (decide_eq_false (by omega))))) : p := h
theorem a41 {p : Prop} (h : p := by first | (rw [sigsB, allB_no k (by omega) (by first | (simp_all [sigOk]; done) | (simp_all [sigOk]; omega))] <;> rfl) | (rw [sigsB, allB_of (fun j hj => hp0.2 j (by omega)), Bool.true_and]; done)) : p := h
theorem a40 {p : Prop} (h : p := by first | rfl | (rw [srF_all huh.2 (by omega : pr.length ≤ e)]; done) | (rw [srF_fin hnil, endS_yes (by assumption)]; first | done | rfl) | (rw [srF_fin hnil, endS_no (by assumption)]; first | done | rfl)) : p := h
theorem a39 {p : Prop} (h : p := by first | (rw [masksTo_zero, List.map_replicate]; rfl) | (rw [masksTo_succ (by omega), maskStep, if_pos (by assumption), List.map_set]; done) | (rw [masksTo_succ (by omega), maskStep, if_neg (by assumption)])) : p := h
theorem a38 {p : Prop} (h : p := by first | (simp only [fitCh, *, if_true, if_false, reduceIte, decide_true, decide_false, Bool.and_true, Bool.true_and, Bool.and_false, Bool.false_and, Bool.not_true, Bool.not_false]; done) | (simp_all [fitCh]; done)) : p := h
theorem a37 {p : Prop} (h : p := by first | rfl | (rw [unM_succ (by omega), (by assumption : unM x ((prA x).getD q.1 default) m = true)]; rfl) | (rw [unM_succ (by omega), (by assumption : unM x ((prA x).getD q.1 default) m = false), Bool.false_or]; done)) : p := h
theorem a36 {p : Prop} (h : p := by first | (rw [mcvF_no0 (by assumption)]; first | done | rfl) | (rw [mcvF_no (by assumption)]; first | done | rfl) | (rw [mcvF_min (by assumption)]; first | done | rfl) | (rw [mcvF_yes (by assumption)]; first | done | rfl)) : p := h
theorem a35 {p : Prop} (h : p := by first | exact (dl_keep (u := default) hp0 (by omega) (by assumption)).2 | exact (dl_skip (u := default) hp0 (by omega) (by assumption)).2 | exact (dl_keep hp0 (by omega) (by assumption)).2 | exact (dl_skip hp0 (by omega) (by assumption)).2) : p := h
theorem a34 {p : Prop} (h : p := by first | rfl | (rw [← chTo_yes (pr := pr) (m := m - 1) (on := on) (l := l) (p := p) (k := k) (by omega) (by assumption)]; done) | (rw [← chTo_no (pr := pr) (m := m - 1) (on := on) (l := l) (p := p) (k := k) (by omega) (by assumption)]; done)) : p := h
theorem a33 {p : Prop} (h : p := by first | (rw [osTo_zero]; rfl) | (exact congrArg (List.map D.str) (osTo_yes (by simp_all [onQ, offQ, wayOn, wayOff, wayN, bitQ]; done))) | (exact congrArg (List.map D.str) (osTo_no (by simp_all [onQ, offQ, wayOn, wayOff, wayN, bitQ]; done)))) : p := h
theorem a32 {p : Prop} (h : p := by first | (simp_all [onoffB]; done) | (simp_all [onoffB]; omega) | (rw [onoffB, allOf, allB_no k (by omega) (by simp_all)]; simp; done) | (rw [onoffB, allOf, allB_of (fun j hj => hp0.2 j (by omega))]; first | (simp_all; done) | (simp_all; omega))) : p := h
theorem a31 {p : Prop} (h : p := by first | (rw [hp0.2.2, cmpL_end1 (by omega) (by omega)]; done) | (rw [hp0.2.2, cmpL_next (by omega) (by omega), if_neg (by omega)]; done) | (rw [hp0.2.2, cmpL_end2 (by omega) (by omega)]; done) | (rw [hp0.2.2, cmpL_end3 (by omega) (by omega)]; done)) : p := h
theorem a30 {p : Prop} (h : p := by first | (rw [sigsB, allB_no k (by omega) (by first | (rw [sigOk, h2, h3, ← hy]; done) | (rw [sigOk, h2, h3, ← hy]; rfl) | (simp_all [sigOk]; done) | (simp_all [sigOk]; omega))] <;> rfl) | (rw [sigsB, allB_of (fun j hj => hp0.2 j (by omega)), Bool.true_and]; done)) : p := h
theorem a29 {p : Prop} (h : p := by first | (rw [minI, decide_eq_false h1]; rfl) | (rw [minI, decide_eq_true h1, if_pos rfl, min_no (fun j hj => hp0.2 j (by omega))]; first | done | rfl) | (rw [minI, decide_eq_true h1, if_pos rfl, min_yes (m := m) (by omega) hp0.2 (by assumption)]; first | done | rfl)) : p := h
theorem a28 {p : Prop} (h : p := by first | rfl | (exact push rfl (unK_yes (by omega) (by rw [← unM_all (m := m) (by omega)]; assumption))) | (exact congrArg (List.map _) (unK_no (by omega) (by rw [← unM_all (m := m) (by omega)]; assumption))) | (exact mg_set (f := intsU) (xs := prA x) hp0.2 (by omega))) : p := h
theorem a27 {p : Prop} (h : p := by first | rfl | (exact push (congrArg Gat.u (congrArg Prod.fst (gtK_c (by assumption) (by assumption)))) (gt_succ (by omega))) | (exact push (congrArg Gat.u (congrArg Prod.fst (gtK_m (by assumption) (by assumption) (by assumption)))) (gt_succ (by omega))) | (exfalso; contradiction)) : p := h
theorem a26 {p : Prop} (h : p := by first | omega | assumption | (exact hx _ (getD_mem (by omega))) | (exact hx _ (by assumption)) | (exact Nat.le_trans (hx _ (by assumption)) (by omega)) | (simp only [List.length_append, List.length_take, List.length_drop, List.length_cons, List.length_nil]; omega) | (simp_all; done)) : p := h
theorem a25 {p : Prop} (h : p := by first | (rw [gtK_m rfl (by assumption) (by assumption)]; first | done | rfl) | (rw [gtK_m rfl (by assumption) (by assumption)]; simp_all [mcW]; done) | (exact (gtK_no_m1 rfl (.inl (by assumption))).symm) | (exact (gtK_no_m1 rfl (.inr (by assumption))).symm) | (simp_all [gtK, gtM]; done)) : p := h
theorem a24 {p : Prop} (h : p := by first | (rw [cirV_no (cir_no1 (by first | assumption | exact made_no0 (by assumption) | exact made_no1 (by assumption)))]; rfl) | (exact (cir_no1 (by first | assumption | exact made_no0 (by assumption) | exact made_no1 (by assumption))).symm) | (rw [cir_made hmd]; done) | (rw [cirB_made hmd]; done)) : p := h
theorem a23 {p : Prop} (h : p := by first | (exact met_no hn hen (k := k) (by omega) m (by omega) (by assumption)) | (exact met_yes hn hen (k := k) (by omega) (fun j hj => hp2.2 j (by clear hp2; omega))) | (have hge : x.codes.length ≤ m := (by omega); exact met_yes hn hen (k := k) (by omega) (fun j hj => hp2.2 j (Nat.lt_of_lt_of_le hj hge)))) : p := h
theorem a22 {p : Prop} (h : p := by first | (rw [sgB, h1]; rfl) | (rw [sgB, h1, h2]; rfl) | (rw [sgB, h1, h2, decide_eq_true (by omega)]; rfl) | (exact (sg_no_code (k := k) (by omega) (by assumption)).symm) | (exact (sg_no_arc (k := m) (by omega) a119).symm) | (exact sg_end h1 h2 (by omega) hcl hal)) : p := h
theorem a21 {p : Prop} (h : p := by first | (obtain ⟨k0, hk0, hk1, hk2⟩ := ixF_first h1; have e : (ixF p xs).toNat = k0 := (by omega); dsimp only; rw [e, hk2, hk1, List.length_take, Nat.min_eq_left (by omega)]; done) | (have e := (hp0.keep (by omega) (by assumption)).2; dsimp only; omega) | (have e := (hp0.skip (by omega) (by assumption)).2; dsimp only; omega)) : p := h
theorem a20 {p : Prop} (h : p := by first | (rw [fitB, allB_no k (by omega) a38]; done) | (rw [fitB, allB_of (fun j hj => hp0.2 j (by omega))]; done)) : p := h
theorem a19 {p : Prop} (h : p := by first | (simp only [isArc, *, decide_true, decide_false, Bool.and_true, Bool.true_and, Bool.and_false, Bool.false_and, Bool.or_false, Bool.false_or, Bool.or_true, Bool.true_or, Bool.not_true, Bool.not_false, not_false_eq_true, Bool.false_eq_true, if_true, if_false, reduceIte, ite_true, ite_false]; done) | (simp_all [isArc]; done)) : p := h
theorem a18 {p : Prop} (h : p := by first | (have e := (dl_start (u := u0) h1).2.2.1; dsimp only; omega) | (have e := keepTo_yes (by omega) (by assumption : p (xs.getD q.1 default) = false); dsimp only; rw [e, List.length_append, List.length_singleton]; omega) | (have e := keepTo_no (by omega) (by assumption : p (xs.getD q.1 default) = true); dsimp only; rw [e]; done)) : p := h
theorem a17 {p : Prop} (h : p := by first | (exact congrArg (List.map _) (pvA_zero x k)) | (exact congrArg (List.map _) (pvA_no (by first | assumption | exact two_n0 hx (by omega) (by assumption)))) | (exact congrArg (List.map _) (pvB_end hx (by omega) (two_n1 hx (by omega) (by assumption)) (by omega))) | (exact congrArg (List.map _) (pvC_end (by assumption) (by omega)))) : p := h
theorem a16 {p : Prop} (h : p := by first | (exact congrArg (List.map _) (prM_start _ _ _)) | (exact push rfl (prM_yes (by omega) (by first | exact decide_eq_true (by assumption) | exact decide_eq_true (Eq.symm (by assumption))))) | (exact congrArg (List.map _) (prM_no (by first | exact decide_eq_false (by assumption) | exact decide_eq_false (fun e => (by assumption : ¬ _) e.symm))))) : p := h
theorem a15 {p : Prop} (h : p := by first | (rw [sgB, h1]; rfl) | (rw [sgB, h1, h2]; rfl) | (rw [sgB, h1, h2, decide_eq_true (by omega)]; rfl) | (exact (sg_no_code (k := k) (by omega) (by assumption)).symm) | (exact (sg_no_arc (k := m) (by omega) a119).symm) | (rw [← sg_end h1 h2 (by omega) hcl hal]; done) | (exact sg_end h1 h2 (by omega) hcl hal)) : p := h
theorem a14 {p : Prop} (h : p := by first | rfl | (rw [chF_end m (by omega), endI_yes (by omega) (by omega) (by assumption)]; done) | (rw [chF_end m (by omega), endI_no1 (by omega)]; done) | (rw [chF_end m (by omega), endI_no2 (by omega)]; done) | (rw [chF_end m (by omega), endI_no3 (by assumption)]; done) | (rw [chF_z (by omega) (by omega)]; done) | (rw [chF_nx (k := k) (by omega) (by omega) (by omega)]; done)) : p := h
theorem a13 {p : Prop} (h : p := by first | rfl | (exact congrArg (fun x : List (List UInt8) × Bool => [V.d (.hole u), V.row _, V.d (.bool x.2)]) (chTo_yes (pr := pr) (m := m - 1) (on := on) (l := l) (p := p) (k := k) (by omega) (by assumption))) | (exact congrArg (fun x : List (List UInt8) × Bool => [V.d (.hole u), V.row _, V.d (.bool x.2)]) (chTo_no (pr := pr) (m := m - 1) (on := on) (l := l) (p := p) (k := k) (by omega) (by assumption)))) : p := h
theorem a12 {p : Prop} (h : p := by first | (rw [arcB, h1]; rfl) | (rw [arcB, h1, h2]; rfl) | (rw [arcB, h1, h2, h3]; rfl) | (rw [arcB, h1, h2, h3, hf4]; rfl) | (rw [arcB, h1, h2, h3, hf5]; unfold codeAt setCh; simp only [*, decide_true, decide_false, Bool.true_and, Bool.false_and]; done) | (rw [arcB, h1, h2, h3, hf5]; unfold codeAt setCh; rw [decide_eq_true h5]; rfl) | (rw [arcB, h1, h2, h3, hf5]; unfold codeAt setCh; rw [decide_eq_false h5]; rfl)) : p := h
theorem a11 {p : Prop} (h : p := by first | (have hk : setsOk x (onQ x sig (wayN w)) (offQ x sig (wayN w)) = true := h2; first | (rw [osOn, h1, if_pos rfl, setsOn, hk]; rfl) | (rw [osOff, h1, if_pos rfl, setsOff, hk]; rfl) | (rw [osOk, h1, hk]; rfl)) | (have hk : setsOk x (onQ x sig (wayN w)) (offQ x sig (wayN w)) = false := h2; first | (rw [osOn, h1, if_pos rfl, setsOn_no hk]; rfl) | (rw [osOff, h1, if_pos rfl, setsOff_no hk]; rfl) | (rw [osOk, h1, hk]; rfl)) | (rw [osOn, h1]; rfl) | (rw [osOff, h1]; rfl) | (rw [osOk, h1]; rfl)) : p := h
theorem a10 {p : Prop} (h : p := by first | (rw [nameCh, letB, digB]; simp only [*, decide_true, decide_false, Bool.and_true, Bool.true_and, Bool.and_false, Bool.false_and, Bool.or_false, Bool.false_or, Bool.or_true, Bool.true_or, Bool.not_true, Bool.not_false, not_false_eq_true]; done) | (rw [nameCh, letB, digB_n]; simp only [*, decide_true, decide_false, Bool.and_true, Bool.true_and, Bool.and_false, Bool.false_and, Bool.or_false, Bool.false_or, Bool.or_true, Bool.true_or, Bool.not_true, Bool.not_false, not_false_eq_true]; done)) : p := h
theorem a9 {p : Prop} (h : p := by first | (rw [cirV_no (cir_no1 (by first | assumption | exact made_no0 (by assumption) | exact made_no1 (by assumption)))]; rfl) | (exact (cir_no1 (by first | assumption | exact made_no0 (by assumption) | exact made_no1 (by assumption))).symm) | (rw [cirV_no (cir_no2 (gtB_no k (by omega) (by assumption)))]; rfl) | (exact (cir_no2 (gtB_no k (by omega) (by assumption))).symm) | (rw [cirV_yes (k := k) (cir_yes (by assumption) (gtB_yes (fun j hj => hp0.2 j (by omega)))) (by omega)]; done) | (exact (cir_yes (by assumption) (gtB_yes (fun j hj => hp0.2 j (by omega)))).symm)) : p := h
theorem a8 {p : Prop} (h : p := by first | (exact congrArg (List.map _) (pvB_zero x k s _)) | (exact push rfl (pvB_yes (by omega) (by omega) (pvQ_yes (by assumption) (by first | assumption | exact two_i0 hx (by omega) (by assumption)) (by first | exact .inl (by assumption) | exact .inr (by assumption))))) | (exact congrArg (List.map _) (pvB_no (by omega) (pvQ_no1 (by assumption)))) | (exact congrArg (List.map _) (pvB_no (by omega) (pvQ_no2 (by first | assumption | exact two_i1 hx (by omega) (by assumption))))) | (exact congrArg (List.map _) (pvB_no (by omega) (pvQ_no3 (by assumption) (by assumption))))) : p := h
theorem a7 {p : Prop} (h : p := by first | rfl | (exact congrArg (fun x : List (List UInt8) × Bool => x.1.map D.str) (srT_zero.symm)) | (exact congrArg (fun x : List (List UInt8) × Bool => x.1.map D.str) (srT_yes (pr := pr) (on := on) (m := m) (t := t) (p := p) (v := e) (by omega) (by omega) huh.1 (by assumption))) | (exact congrArg (fun x : List (List UInt8) × Bool => x.1.map D.str) (srT_no1 (pr := pr) (on := on) (m := m) (t := t) (p := p) (v := e) (by omega))) | (exact congrArg (fun x : List (List UInt8) × Bool => x.1.map D.str) (srT_no2 (pr := pr) (on := on) (m := m) (t := t) (p := p) (v := e) (by omega) huh.1 (by assumption)))) : p := h
theorem a6 {p : Prop} (h : p := by first | (rw [nameB, allB_no k (by omega) a10]; rfl) | (rw [nameB, allB_of (fun j hj => hp0.2 j (by omega)), Bool.true_and]; done)) : p := h
theorem a5 {p : Prop} (h : p := by first | (rw [primR, primOk, h1]; rfl) | (rw [primR, primOk, h1, decide_eq_true h2]; rfl) | (rw [primR, primOk, h1, decide_eq_false h2]; rfl) | (rw [primR, primOk, h1, decide_eq_true (show ((primL n.toNat on off).length : Int) ≤ 60 by omega)]; rfl) | (rw [primR, primOk, h1, decide_eq_false (show ¬ ((primL n.toNat on off).length : Int) ≤ 60 by omega)]; rfl) | (rw [primOk, h1]; rfl) | (rw [primOk, h1, decide_eq_true h2]; rfl) | (rw [primOk, h1, decide_eq_false h2]; rfl) | (rw [primOk, h1, decide_eq_true (show ((primL n.toNat on off).length : Int) ≤ 60 by omega)]; rfl) | (rw [primOk, h1, decide_eq_false (show ¬ ((primL n.toNat on off).length : Int) ≤ 60 by omega)]; rfl)) : p := h
theorem a4 {p : Prop} (h : p := by first | (exact congrArg (List.map _) (pvC_zero x k s)) | (exact push rfl (pvC_yes (pvP_of (by assumption) (pvQ_yes (by assumption) (by first | assumption | exact two_i0 hx (by omega) (by assumption)) (by first | exact .inl (by assumption) | exact .inr (by assumption)))))) | (exact congrArg (List.map _) (pvC_no (pvP_no (by assumption)))) | (exact congrArg (List.map _) (pvC_no (pvP_of (by assumption) (pvQ_no1 (by assumption))))) | (exact congrArg (List.map _) (pvC_no (pvP_of (by assumption) (pvQ_no2 (by first | assumption | exact two_i1 hx (by omega) (by assumption)))))) | (exact congrArg (List.map _) (pvC_no (pvP_of (by assumption) (pvQ_no3 (by assumption) (by assumption)))))) : p := h
theorem a3 {p : Prop} (h : p := by first | rfl | (rw [betB_eq, hp0.2, lexB_end (by omega)]; simp only [*, Int.lt_irrefl, decide_true, decide_false, Bool.not_true, Bool.not_false, Bool.true_or, Bool.false_or, Bool.true_and, Bool.false_and, Bool.or_false, Bool.or_true]; done) | (rw [betB_eq, hp0.2, lexB_next (by omega) (by omega), if_neg (by assumption)]; simp only [*, Int.lt_irrefl, decide_true, decide_false, Bool.not_true, Bool.not_false, Bool.true_or, Bool.false_or, Bool.true_and, Bool.false_and, Bool.or_false, Bool.or_true]; done) | (rw [betB_eq]; simp only [*, Int.lt_irrefl, decide_true, decide_false, Bool.not_true, Bool.not_false, Bool.true_or, Bool.false_or, Bool.true_and, Bool.false_and, Bool.or_false, Bool.or_true]; done)) : p := h
theorem a2 {p : Prop} (h : p := by first | rfl | (exact congrArg (fun x : List (List UInt8) × Bool => [V.d (.hole u), V.d (.hole v), V.row _, V.d (.bool x.2)]) (srT_zero.symm)) | (exact congrArg (fun x : List (List UInt8) × Bool => [V.d (.hole u), V.d (.hole v), V.row _, V.d (.bool x.2)]) (srT_yes (pr := pr) (on := on) (m := m) (t := t) (p := p) (v := e) (by omega) (by omega) huh.1 (by assumption))) | (exact congrArg (fun x : List (List UInt8) × Bool => [V.d (.hole u), V.d (.hole v), V.row _, V.d (.bool x.2)]) (srT_no1 (pr := pr) (on := on) (m := m) (t := t) (p := p) (v := e) (by omega))) | (exact congrArg (fun x : List (List UInt8) × Bool => [V.d (.hole u), V.d (.hole v), V.row _, V.d (.bool x.2)]) (srT_no2 (pr := pr) (on := on) (m := m) (t := t) (p := p) (v := e) (by omega) huh.1 (by assumption)))) : p := h
theorem a1 {p : Prop} (h : p := by first | (rw [mkV_no (gtB_no k (by omega) (by first | exact gtK_no_c1 (by assumption) (by assumption) | exact gtK_no_c2 (by assumption) (by assumption) | exact gtK_no_m1 (by assumption) (.inl (by assumption)) | exact gtK_no_m1 (by assumption) (.inr (by assumption)) | exact gtK_no_m2 (by assumption) (.inl (by assumption)) | exact gtK_no_m2 (by assumption) (.inr (by assumption)) | (exfalso; contradiction)))]; rfl) | (exact ((gtB_no k (by omega) (by first | exact gtK_no_c1 (by assumption) (by assumption) | exact gtK_no_c2 (by assumption) (by assumption) | exact gtK_no_m1 (by assumption) (.inl (by assumption)) | exact gtK_no_m1 (by assumption) (.inr (by assumption)) | exact gtK_no_m2 (by assumption) (.inl (by assumption)) | exact gtK_no_m2 (by assumption) (.inr (by assumption)) | (exfalso; contradiction))) : gtB (gtK x kd) (outsL x.sigs) = false).symm) | (rw [mkV_yes (k := k) (gtB_yes (fun j hj => hp0.2 j (by omega))) (by omega)]; done) | (exact ((gtB_yes (fun j hj => hp0.2 j (by omega))) : gtB (gtK x kd) (outsL x.sigs) = true).symm)) : p := h

def bitN (up : Bool) : UInt8 := if up then 49 else 48

def withinB (n lo hi : Int) : Bool := decide (lo ≤ n) && decide (n ≤ hi)

theorem sp_impl_within (n lo hi : Int) : Sp Tryz.prog 91 [(.int .i64 n), (.int .i64 lo), (.int .i64 hi)] [.any, .any, .any] (.bool (withinB n lo hi)) := by
 refine Sp_intro (lend := true) Tryz.func91 rfl rfl rfl (fun _ => rfl) (fun c hc hX => ?_)
 refine Ts hc (Ch.s (dB false) pa (Ch.nil (Ts hc (Ch.s (dI lo) pm (Ch.s (dI n) pm ?_)))))
 refine Ch.s (dB (decide (lo ≤ n))) (iX rfl rfl rfl) (Ch.s (dB (decide (lo ≤ n))) pm ?_)
 cases h1 : (decide (lo ≤ n)) with
 | true =>
  replace h1 := odt h1
  refine Ch.s (dI n) pm (Ch.s (dI hi) pm (Ch.s (dB (decide (n ≤ hi))) (iX rfl rfl rfl) (Ch.s (dB (decide (n ≤ hi))) (pT rfl) (Ch.s (dB (decide (n ≤ hi))) pa (Ch.nil (T_ret ?_))))))
  exact eR [(dB (decide (n ≤ hi)))] [] [] (.cons (.tmp 6 rfl) .nil) eC (Exp.of (congrArg D.bool (by simp [withinB] <;> omega)) (.d _))
 | false =>
  replace h1 := odf h1
  refine Ck (Ck (Ck (Ch.s (dB false) (pF rfl) (Ch.s (dB false) pa (Ch.nil (T_ret ?_))))))
  exact eR [(dB false)] [] [] (.cons (.tmp 6 rfl) .nil) eC (Exp.of (congrArg D.bool (by simp [withinB] <;> omega)) (.d _))

theorem sp_spec_l1In (n lo hi : Int) : Sp Tryz.prog 89 [(.int .i64 n), (.int .i64 lo), (.int .i64 hi)] [.any, .any, .any] (.bool (withinB n lo hi)) := by
 refine Sp_intro (lend := true) Tryz.func89 rfl rfl rfl (fun _ => rfl) (fun c hc hX => ?_)
 refine Ts hc (Ch.s (dB false) pa (Ch.nil (Ts hc (Ch.s (dI n) pm (Ch.s (dI lo) pm ?_)))))
 refine Ch.s (dB (decide (lo ≤ n))) (iX rfl rfl rfl) (Ch.s (dB (decide (lo ≤ n))) pm ?_)
 cases h1 : (decide (lo ≤ n)) with
 | true =>
  replace h1 := odt h1
  refine Ch.s (dI n) pm (Ch.s (dI hi) pm (Ch.s (dB (decide (n ≤ hi))) (iX rfl rfl rfl) (Ch.s (dB (decide (n ≤ hi))) (pT rfl) (Ch.s (dB (decide (n ≤ hi))) pa (Ch.nil (T_ret ?_))))))
  exact eR [(dB (decide (n ≤ hi)))] [] [] (.cons (.tmp 6 rfl) .nil) eC (Exp.of (congrArg D.bool (by simp [withinB] <;> omega)) (.d _))
 | false =>
  replace h1 := odf h1
  refine Ck (Ck (Ck (Ch.s (dB false) (pF rfl) (Ch.s (dB false) pa (Ch.nil (T_ret ?_))))))
  exact eR [(dB false)] [] [] (.cons (.tmp 6 rfl) .nil) eC (Exp.of (congrArg D.bool (by simp [withinB] <;> omega)) (.d _))

theorem en89 : Enters Tryz.prog 89 := ⟨_, Tryz.func89, by kernel_rfl, rfl⟩

theorem en91 : Enters Tryz.prog 91 := ⟨_, Tryz.func91, by kernel_rfl, rfl⟩

def cubeCh (x : UInt8) : Bool := x == 48 || x == 49 || x == 45

def cubeS (s : List UInt8) : Bool := allB s.length (fun j => cubeCh (s.getD j 0))

def cubeN (s : List UInt8) (n : Int) : Bool := cubeS s && decide ((s.length : Int) = n) && withinB n 1 8

theorem sp_impl_isCube (s : List UInt8) (n : Int) (hs : s.length ≤ 1048576) : Sp Tryz.prog 127 [(.str s), (.int .i64 n)] [.any, .any] (.bool (cubeN s n)) := by
 refine Sp_intro (lend := true) Tryz.func127 rfl rfl rfl (fun _ => rfl) (fun c hc hX => ?_)
 refine Ts hc (Ch.s (dB false) pa (Ch.nil (Tq (Ts hc (Ch.s (dI 0) pa ?_)))))
 refine Ch.nil (Tb ?_)
 refine T_loop (ι := Nat) (fun k => { n := 36, sl := [(0, (dS s)), (1, (dI n)), (5, (dI (k : Int)))], hp := [], pin := [] }) (fun k => k ≤ s.length ∧ ∀ j, j < k → cubeCh (s.getD j 0) = true) (fun k => s.length - k) ⟨0, ⟨by omega, fun j hj => by omega⟩, (Wk.of rfl rfl (ar (ar (ai (vI a126) trivial))) trivial)⟩ (fun k hp0 => ?_)
 refine Tq (Ts hc (Ch.s (dI (k : Int)) pm (Ch.s (dS s) pm (Ch.s (dI (s.length : Int)) (.pure (.lenStr _ _ rfl Tryz.underlying9 rfl)) (Ch.s (dB (decide ((k : Int) < (s.length : Int)))) (iX rfl rfl rfl) (Ch.nil ?_))))))
 refine T_condD (p := ((k : Int) < (s.length : Int))) rfl (fun h1 => ?_) (fun h1 => ?_)
 ·
  refine Tk (Tq (Tb (Ts hc (Ch.s (dS s) pm (Ch.s (dI (k : Int)) pm (Ch.s (.d (.int .u8 ((s.getD k 0).toNat : Int))) (.pure (.idxStr _ _ _ (k) rfl Tryz.underlying9 rfl rfl rfl get_strA)) ?_))))))
  refine Ch.s (dB (!(decide (((s.getD k 0) : UInt8) = 48)))) (iX rfl rfl (u8_neq ((s.getD k 0) : UInt8) 48 rfl rfl)) (Ch.s (dB (!(decide (((s.getD k 0) : UInt8) = 48)))) pm ?_)
  cases h2 : (decide (((s.getD k 0) : UInt8) = 48)) with
  | true =>
   replace h2 := odt h2
   refine Ck (Ck (Ck (Ck (Ch.s (dB false) (pF rfl) (Ch.s (dB false) pm (Ck (Ch.skip rfl rfl ?_)))))))
   refine Ck (Ck (Ch.s (dB false) (pF rfl) (Ch.nil ?_)))
   refine T_cond (b := false) rfl (fun h => nomatch h) (fun _ => ?_)
   refine Tk (Tz hc (Ch.s (dI (k : Int)) pm (Ch.s (dI ((k : Int) + 1)) (iX rfl rfl intV_addA) (Ch.s (dI ((k : Int) + 1)) pa (Ch.nil ?_)))))
   exact nx (k + 1) ⟨by omega, upto_succ hp0.2 (by simp_all [cubeCh])⟩ (Wk.of rfl rfl (ar (ar (ai (vI a126) trivial))) trivial)
  | false =>
   replace h2 := odf h2
   refine Ch.s (dS s) pm (Ch.s (dI (k : Int)) pm (Ch.s (.d (.int .u8 ((s.getD k 0).toNat : Int))) (.pure (.idxStr _ _ _ (k) rfl Tryz.underlying9 rfl rfl rfl get_strA)) (Ch.s (dB (!(decide (((s.getD k 0) : UInt8) = 49)))) (iX rfl rfl (u8_neq ((s.getD k 0) : UInt8) 49 rfl rfl)) (Ch.s (dB (!(decide (((s.getD k 0) : UInt8) = 49)))) (pT rfl) (Ch.s (dB (!(decide (((s.getD k 0) : UInt8) = 49)))) pm ?_)))))
   cases h3 : (decide (((s.getD k 0) : UInt8) = 49)) with
   | true =>
    replace h3 := odt h3
    refine Ck (Ck (Ck (Ck (Ch.s (dB false) (pF rfl) (Ch.nil ?_)))))
    refine T_cond (b := false) rfl (fun h => nomatch h) (fun _ => ?_)
    refine Tk (Tz hc (Ch.s (dI (k : Int)) pm (Ch.s (dI ((k : Int) + 1)) (iX rfl rfl intV_addA) (Ch.s (dI ((k : Int) + 1)) pa (Ch.nil ?_)))))
    exact nx (k + 1) ⟨by omega, upto_succ hp0.2 (by simp_all [cubeCh])⟩ (Wk.of rfl rfl (ar (ar (ai (vI a126) trivial))) trivial)
   | false =>
    replace h3 := odf h3
    refine Ch.s (dS s) pm (Ch.s (dI (k : Int)) pm (Ch.s (.d (.int .u8 ((s.getD k 0).toNat : Int))) (.pure (.idxStr _ _ _ (k) rfl Tryz.underlying9 rfl rfl rfl get_strA)) (Ch.s (dB (!(decide (((s.getD k 0) : UInt8) = 45)))) (iX rfl rfl (u8_neq ((s.getD k 0) : UInt8) 45 rfl rfl)) (Ch.s (dB (!(decide (((s.getD k 0) : UInt8) = 45)))) (pT rfl) (Ch.nil ?_)))))
    refine T_condN (b := (decide (((s.getD k 0) : UInt8) = 45))) rfl (fun h4 => ?_) (fun h4 => ?_)
    ·
     replace h4 := odf h4
     refine Ts hc (Ch.s (dB false) pa (Ch.nil (T_ret ?_)))
     exact eR [(dB false)] [] [] (.cons (.tmp 4 rfl) .nil) eB (Exp.of (congrArg D.bool (by rw [cubeN, cubeS, allB_no k (by omega) (by simp_all [cubeCh])]; rfl)) (.d _))
    ·
     replace h4 := odt h4
     refine Tk (Tz hc (Ch.s (dI (k : Int)) pm (Ch.s (dI ((k : Int) + 1)) (iX rfl rfl intV_addA) (Ch.s (dI ((k : Int) + 1)) pa (Ch.nil ?_)))))
     exact nx (k + 1) ⟨by omega, upto_succ hp0.2 (by simp_all [cubeCh])⟩ (Wk.of rfl rfl (ar (ar (ai (vI a126) trivial))) trivial)
 ·
  refine T_exit (Ts hc (Ch.s (dS s) pm (Ch.s (dI (s.length : Int)) (.pure (.lenStr _ _ rfl Tryz.underlying9 rfl)) (Ch.s (dI n) pm (Ch.s (dB (decide ((s.length : Int) = n))) (iX rfl rfl rfl) (Ch.s (dB (decide ((s.length : Int) = n))) pm ?_))))))
  cases h5 : (decide ((s.length : Int) = n)) with
  | true =>
   replace h5 := odt h5
   refine Ch.s (dI n) pm (Ch.s (dB (withinB n 1 8)) (.call 34000 91 _ _ _ en91 rfl (.inl rfl) (.cons (.d _) (.cons (.d _) (.cons (.d _) .nil))) rfl rfl (sp_impl_within n 1 8) (.skip _ _ (.skip _ _ (.skip _ _ .nil))) rfl) (Ch.s (dB (withinB n 1 8)) (pT rfl) (Ch.s (dB (withinB n 1 8)) pa (Ch.nil (T_ret ?_)))))
   exact eR [(dB (withinB n 1 8))] [] [] (.cons (.tmp 4 rfl) .nil) eB (Exp.of (congrArg D.bool a106) (.d _))
  | false =>
   replace h5 := odf h5
   refine Ck (Ck (Ch.s (dB false) (pF rfl) (Ch.s (dB false) pa (Ch.nil (T_ret ?_)))))
   exact eR [(dB false)] [] [] (.cons (.tmp 4 rfl) .nil) eB (Exp.of (congrArg D.bool a106) (.d _))

def meetOf (x y : UInt8) : UInt8 := if x = y ∨ y = 45 then x else y

def meetS (a b : List UInt8) (k : Nat) : List UInt8 := tab k fun j => meetOf (a.getD j 0) (b.getD j 0)

@[simp] theorem meetS_length (a b : List UInt8) (k : Nat) : (meetS a b k).length = k := by simp [meetS]

theorem sz9 : SizeIs Tryz.prog 9 1 := by unfold SizeIs; kernel_rfl

theorem ag9 : AggIs Tryz.prog 9 false := by unfold AggIs; kernel_rfl

theorem zr9 : (Tryz.prog.info? 9).bind (·.zero) = some (.string .empty) := by kernel_rfl

theorem zer9 : ∃ i z, Tryz.prog.info? 9 = some i ∧ i.zero = some z ∧ z.cells = List.toArray [.string .empty] := zero_mk zr9 rfl

theorem sty23 : SlotTy Tryz.prog 23 9 1 16 := slotTy_mk (by kernel_rfl)

theorem en230 : Enters Tryz.prog 230 := ⟨_, Tryz.func230, by kernel_rfl, rfl⟩

theorem sp_laws_szStringS (xs : List (List UInt8)) (left : Int) (h0 : 0 ≤ left) (h0u : left ≤ 1048576) (hn : xs.length ≤ 9223372036854775807) (hx : ∀ x ∈ xs, x.length ≤ 9223372036854775807) : Sp Tryz.prog 67 [(.slice false 1 (xs.map D.str)), (.int .i64 left)] [.any, .any] (.int .i64 (szS xs left)) := by
 refine Sp_intro (lend := true) Tryz.func67 rfl rfl rfl (fun _ => rfl) (fun c hc hX => ?_)
 refine Ts hc (Ch.s (dI 0) pa (Ch.nil (Ts hc (Ch.s (dI left) pm (Ch.s (.d (.slice false 1 (xs.map D.str))) pm ?_)))))
 refine Ch.s (dI (xs.length : Int)) (.pure (.len _ _ 9 rfl Tryz.underlying23 (.sh _ _) (by simp))) (Ch.s (dI (left - (xs.length : Int))) (iX rfl rfl intV_subA) (Ch.s (dI (left - (xs.length : Int))) pa (Ch.nil (Tq (Ts hc (Ch.s (dI (left - (xs.length : Int))) pm ?_))))))
 refine Ch.s (dB (decide ((left - (xs.length : Int)) < 0))) (iX rfl rfl rfl) (Ch.nil ?_)
 refine T_condD (p := ((left - (xs.length : Int)) < 0)) rfl (fun h1 => ?_) (fun h1 => ?_)
 ·
  refine Ts hc (Ch.s (dI (-1)) pa (Ch.nil (T_ret ?_)))
  exact eR [(dI (-1))] [] [] (.cons (.tmp 4 rfl) .nil) eB (Exp.of (congrArg (D.int .i64) (by rw [szS, if_neg (by unfold bulkS; omega)])) (.d _))
 ·
  refine Tk (Tq (Ts hc (Ch.s (dI 0) pa (Ch.nil (Tb ?_)))))
  refine T_loop (ι := Nat) (fun k => { n := 28, sl := [(0, (.d (.slice false 1 (xs.map D.str)))), (1, (dI (left - xs.length - sumTo xs k))), (5, (dI (k : Int)))], hp := [], pin := [] }) (fun k => k ≤ xs.length ∧ 0 ≤ left - xs.length - sumTo xs k) (fun k => xs.length - k) ⟨0, ⟨by omega, by rw [sumTo_zero]; omega⟩, (Wk.of rfl rfl (ar (ai (vI a104) (ai (vI a126) trivial))) trivial)⟩ (fun k hp0 => ?_)
  refine Tq (Ts hc (Ch.s (dI (k : Int)) pm (Ch.s (.d (.slice false 1 (xs.map D.str))) pm (Ch.s (dI (xs.length : Int)) (.pure (.len _ _ 9 rfl Tryz.underlying23 (.sh _ _) (by simp))) (Ch.s (dB (decide ((k : Int) < (xs.length : Int)))) (iX rfl rfl rfl) (Ch.nil ?_))))))
  refine T_condD (p := ((k : Int) < (xs.length : Int))) rfl (fun h2 => ?_) (fun h2 => ?_)
  ·
   try have hk := hx _ (getD_mem (l := xs) (j := k) (d := default) (by omega))
   refine Tk (Tq (Tb (Ts hc (Ch.s (dI (left - xs.length - sumTo xs k)) pm (Ch.s (.d (.slice false 1 (xs.map D.str))) pm (Ch.s (dI (k : Int)) pm ?_))))))
   refine Ch.s (.d (.ref (.str (xs.getD k default)))) (.pure (.idx _ _ _ 9 (k) rfl Tryz.underlying23 sz9 rfl rfl rfl get_mapA)) (Ch.s (dS (xs.getD k default)) (rF ag9 rfl rfl) (Ch.s (dI ((xs.getD k default).length : Int)) (.pure (.lenStr _ _ rfl Tryz.underlying9 rfl)) (Ch.s (dI ((left - xs.length - sumTo xs k) - ((xs.getD k default).length : Int))) (iX rfl rfl intV_subA) (Ch.s (dI ((left - xs.length - sumTo xs k) - ((xs.getD k default).length : Int))) pa (Ch.nil (Tq (Tz hc ?_)))))))
   refine Ch.s (dI ((left - xs.length - sumTo xs k) - ((xs.getD k default).length : Int))) pm (Ch.s (dB (decide (((left - xs.length - sumTo xs k) - ((xs.getD k default).length : Int)) < 0))) (iX rfl rfl rfl) (Ch.nil ?_))
   refine T_condD (p := (((left - xs.length - sumTo xs k) - ((xs.getD k default).length : Int)) < 0)) rfl (fun h3 => ?_) (fun h3 => ?_)
   ·
    refine Ts hc (Ch.s (dI (-1)) pa (Ch.nil (T_ret ?_)))
    exact eR [(dI (-1))] [] [] (.cons (.tmp 4 rfl) .nil) eB (Exp.of (congrArg (D.int .i64) (by rw [szS, if_neg (by have h4 := sumTo_le xs (k + 1); rw [sumTo_succ (by omega)] at h4; unfold bulkS; omega)])) (.d _))
   ·
    refine Tk (Tz hc (Ch.s (dI (k : Int)) pm (Ch.s (dI ((k : Int) + 1)) (iX rfl rfl intV_addA) (Ch.s (dI ((k : Int) + 1)) pa (Ch.nil ?_)))))
    exact nx (k + 1) ⟨by omega, by rw [sumTo_succ (by omega)]; omega⟩ (Wk.of rfl rfl (ar (ai (vI a104) (ai (vI a126) trivial))) trivial)
  ·
   try have hk := hx _ (getD_mem (l := xs) (j := k) (d := default) (by omega))
   refine T_exit (Ts hc (Ch.s (dI (left - xs.length - sumTo xs k)) pm (Ch.s (dI (left - xs.length - sumTo xs k)) pa (Ch.nil (T_ret ?_)))))
   exact eR [(dI (left - xs.length - sumTo xs k))] [] [] (.cons (.tmp 4 rfl) .nil) eB (Exp.of (congrArg (D.int .i64) (by have h4 := sumTo_all (xs := xs) (k := k) (by omega); rw [szS, if_pos (by unfold bulkS; omega)]; unfold bulkS; omega)) (.d _))

theorem sp_laws_toStringS (xs : List (List UInt8)) (hn : xs.length ≤ 1048576) : Sp Tryz.prog 71 [(.slice false 1 (xs.map D.str))] [.any] (.slice true 1 (xs.map D.str)) := by
 refine Sp_intro (lend := true) Tryz.func71 rfl rfl rfl (fun _ => rfl) (fun c hc hX => ?_)
 refine Ts hc (Ch.s (.c (.slice none 0 0)) pa (Ch.nil (Ts hc (Ch.s (.d (.slice false 1 (xs.map D.str))) pm (Ch.s (dI (xs.length : Int)) (.pure (.len _ _ 9 rfl Tryz.underlying23 (.sh _ _) (by simp))) ?_)))))
 refine Ch.s (.row 7000) (.make 7000 _ 9 _ _ (xs.length) (xs.length) rfl sty23 rfl rfl rfl rfl a52 a52 a52 (zeroD_mk (zd := (.str [])) zr9 a134 rfl)) (Ch.s (.row 7000) pa (Ch.nil (Tq (Ts hc (Ch.s (dI 0) pa (Ch.nil ?_))))))
 refine Tb ?_
 refine T_loop (ι := Nat) (fun k => { n := 22, sl := [(0, (.d (.slice false 1 (xs.map D.str)))), (3, (.row 3)), (4, (dI (k : Int)))], hp := [(3, (some (.row 1 ((fill xs [] k).map D.str))))], pin := [] }) (fun k => k ≤ xs.length) (fun k => xs.length - k) ⟨0, (by omega), (Wk.ren [(3, 7000)] rfl rfl rfl rfl (ar (ar (ai (vI a126) trivial))) (ai (oR a80) trivial))⟩ (fun k hp0 => ?_)
 refine Tq (Ts hc (Ch.s (dI (k : Int)) pm (Ch.s (.d (.slice false 1 (xs.map D.str))) pm (Ch.s (dI (xs.length : Int)) (.pure (.len _ _ 9 rfl Tryz.underlying23 (.sh _ _) (by simp))) (Ch.s (dB (decide ((k : Int) < (xs.length : Int)))) (iX rfl rfl rfl) (Ch.nil ?_))))))
 refine T_condD (p := ((k : Int) < (xs.length : Int))) rfl (fun h1 => ?_) (fun h1 => ?_)
 ·
  refine Tk (Tq (Tb (Tz hc (Ch.s (.row 3) pm (Ch.s (dI (k : Int)) pm (Ch.s (.d (.slice false 1 (xs.map D.str))) pm (Ch.s (dI (k : Int)) pm ?_)))))))
  refine Ch.s (.d (.ref (.str (xs.getD k default)))) (.pure (.idx _ _ _ 9 (k) rfl Tryz.underlying23 sz9 rfl rfl rfl get_mapA)) (Ch.s (dS (xs.getD k default)) (rF ag9 rfl rfl) (Ch.s (.el 3 1 k 0) (.pure (.idxRow _ _ _ 9 (k) rfl Tryz.underlying23 sz9 rfl rfl rfl rfl a96)) (Ch.s .junk (.storeEl (y' := (.str (xs.getD k default))) _ _ _ rfl rfl rfl (.d _) rfl sz9 rfl get_mapA rfl rfl) (Ch.nil (Tz hc (Ch.s (dI (k : Int)) pm (Ch.s (dI ((k : Int) + 1)) (iX rfl rfl intV_addA) ?_)))))))
  refine Ch.s (dI ((k : Int) + 1)) pa (Ch.nil ?_)
  exact nx (k + 1) (by omega) (Wk.of rfl rfl (ar (ar (ai (vI a126) trivial))) (ai (oR a80) trivial))
 ·
  refine T_exit (Ts hc (Ch.s (.row 3) pm (Ch.s (.row 3) pa (Ch.nil (T_ret ?_)))))
  exact eR [(.row 3)] [] [3] (.cons (.tmp 2 rfl) .nil) eA (Exp.of (congrArg (D.slice true 1) (by rw [fill_all xs [] (by omega)])) (.row rfl))

theorem sp_laws_eqStringS (xs ys : List (List UInt8)) (hn : xs.length ≤ 1048576) : Sp Tryz.prog 29 [(.slice false 1 (xs.map D.str)), (.slice false 1 (ys.map D.str))] [.any, .any] (.bool (decide (xs = ys))) := by
 refine Sp_intro (lend := true) Tryz.func29 rfl rfl rfl (fun _ => rfl) (fun c hc hX => ?_)
 refine Ts hc (Ch.s (dB false) pa (Ch.nil (Tq (Ts hc (Ch.s (.d (.slice false 1 (xs.map D.str))) pm ?_)))))
 refine Ch.s (dI (xs.length : Int)) (.pure (.len _ _ 9 rfl Tryz.underlying23 (.sh _ _) (by simp))) (Ch.s (.d (.slice false 1 (ys.map D.str))) pm (Ch.s (dI (ys.length : Int)) (.pure (.len _ _ 9 rfl Tryz.underlying23 (.sh _ _) (by simp))) (Ch.s (dB (!(decide ((xs.length : Int) = (ys.length : Int))))) (iX rfl rfl rfl) (Ch.nil ?_))))
 refine T_condN (b := (decide ((xs.length : Int) = (ys.length : Int)))) rfl (fun h1 => ?_) (fun h1 => ?_)
 ·
  replace h1 := odf h1
  refine Ts hc (Ch.s (dB false) pa (Ch.nil (T_ret ?_)))
  exact eR [(dB false)] [] [] (.cons (.tmp 4 rfl) .nil) eB (Exp.of (congrArg D.bool (by exact eqL_len (by omega))) (.d _))
 ·
  replace h1 := odt h1
  refine Tk (Tq (Ts hc (Ch.s (dI 0) pa (Ch.nil (Tb ?_)))))
  refine T_loop (ι := Nat) (fun k => { n := 26, sl := [(0, (.d (.slice false 1 (xs.map D.str)))), (1, (.d (.slice false 1 (ys.map D.str)))), (5, (dI (k : Int)))], hp := [], pin := [] }) (fun k => k ≤ xs.length ∧ ∀ j, j < k → xs.getD j default = ys.getD j default) (fun k => xs.length - k) ⟨0, ⟨by omega, fun j hj => by omega⟩, (Wk.of rfl rfl (ar (ar (ai (vI a126) trivial))) trivial)⟩ (fun k hp0 => ?_)
  refine Tq (Ts hc (Ch.s (dI (k : Int)) pm (Ch.s (.d (.slice false 1 (xs.map D.str))) pm (Ch.s (dI (xs.length : Int)) (.pure (.len _ _ 9 rfl Tryz.underlying23 (.sh _ _) (by simp))) (Ch.s (dB (decide ((k : Int) < (xs.length : Int)))) (iX rfl rfl rfl) (Ch.nil ?_))))))
  refine T_condD (p := ((k : Int) < (xs.length : Int))) rfl (fun h2 => ?_) (fun h2 => ?_)
  ·
   refine Tk (Tq (Tb (Tq ?_)))
   refine T_regionD hc (by kernel_rfl) ?_
   refine ChD.s (.d (.slice false 1 (xs.map D.str))) [] pm (ChD.s (dI (k : Int)) [] pm (ChD.s (.d (.ref (.str (xs.getD k default)))) [] (.pure (.idx _ _ _ 9 (k) rfl Tryz.underlying23 sz9 rfl rfl rfl get_mapA)) (ChD.s (dS (xs.getD k default)) [] (rF ag9 rfl rfl) (ChD.s (.d (.slice false 1 (ys.map D.str))) [] pm (ChD.s (dI (k : Int)) [] pm (ChD.s (.d (.ref (.str (ys.getD k default)))) [] (.pure (.idx _ _ _ 9 (k) rfl Tryz.underlying23 sz9 rfl rfl rfl get_mapA)) (ChD.s (dS (ys.getD k default)) [] (rF ag9 rfl rfl) ?_)))))))
   refine ChD.s (dB (!(decide ((xs.getD k default) = (ys.getD k default))))) [] (.pure (.str _ _ _ _ _ rfl rfl rfl rfl)) ?_
   refine ChD.nil (And.intro ?_ (by kernel_rfl))
   refine T_condN (b := (decide ((xs.getD k default) = (ys.getD k default)))) rfl (fun h3 => ?_) (fun h3 => ?_)
   ·
    replace h3 := odf h3
    refine Ts hc (Ch.s (dB false) pa (Ch.nil (T_ret ?_)))
    exact eR [(dB false)] [] [] (.cons (.tmp 4 rfl) .nil) eB (Exp.of (congrArg D.bool a132) (.d _))
   ·
    replace h3 := odt h3
    refine Tk (Tz hc (Ch.s (dI (k : Int)) pm (Ch.s (dI ((k : Int) + 1)) (iX rfl rfl intV_addA) (Ch.s (dI ((k : Int) + 1)) pa (Ch.nil ?_)))))
    exact nx (k + 1) ⟨by omega, upto_succ hp0.2 (by assumption)⟩ (Wk.of rfl rfl (ar (ar (ai (vI a126) trivial))) trivial)
  ·
   refine T_exit (Ts hc (Ch.s (dB true) pa (Ch.nil (T_ret ?_))))
   exact eR [(dB true)] [] [] (.cons (.tmp 4 rfl) .nil) eB (Exp.of (congrArg D.bool a112) (.d _))

theorem sp_IndexFunc_str (xs : List (List UInt8)) (f : FuncId) (caps : List D) (p : List UInt8 → Bool) (hf : Enters Tryz.prog f) (hp : ∀ x ∈ xs, Sp Tryz.prog f (D.str x :: caps) (.any :: anys caps) (.bool (p x))) (hn : xs.length ≤ 1048576) : Sp Tryz.prog 230 [(.slice false 1 (xs.map D.str)), (.fn f caps)] [.any, .any] (.int .i64 (ixF p xs)) := by
 refine Sp_intro (lend := true) Tryz.func230 rfl rfl rfl (fun _ => rfl) (fun c hc hX => ?_)
 refine Ts hc (Ch.s (dI 0) pa (Ch.nil (Tq (Ts hc (Ch.s (.d (.slice false 1 (xs.map D.str))) pm ?_)))))
 refine Ch.s (dI (xs.length : Int)) (.pure (.len _ _ 9 rfl Tryz.underlying23 (.sh _ _) (by simp))) (Ch.s (dI 0) pm (Ch.nil (Tb ?_)))
 refine T_loop (ι := Nat) (fun k => { n := 19, sl := [(0, (.d (.slice false 1 (xs.map D.str)))), (1, (.d (.fn f caps))), (7, (dI (xs.length : Int))), (8, (dI (k : Int)))], hp := [], pin := [] }) (fun k => k ≤ xs.length ∧ ∀ j, j < k → p (xs.getD j default) = false) (fun k => xs.length - k) ⟨0, ⟨by omega, fun j hj => by omega⟩, (Wk.of rfl rfl (ar (ar (ar (ai (vI a126) trivial)))) trivial)⟩ (fun k hp0 => ?_)
 refine Ts hc (Ch.s (dB (decide ((k : Int) < (xs.length : Int)))) (iX rfl rfl rfl) (Ch.nil (Tq ?_)))
 refine T_condD (p := ((k : Int) < (xs.length : Int))) rfl (fun h1 => ?_) (fun h1 => ?_)
 ·
  refine Tk (Tq (Tb (Ts hc (Ch.s (dI (k : Int)) pm (Ch.s (dI (k : Int)) pa (Ch.nil ?_))))))
  refine Ts hc (Ch.s (.d (.fn f caps)) pm (Ch.s (.d (.slice false 1 (xs.map D.str))) pm (Ch.s (dI (k : Int)) pm (Ch.s (.d (.ref (.str (xs.getD k default)))) (.pure (.idx _ _ _ 9 (k) rfl Tryz.underlying23 sz9 rfl rfl rfl get_mapA)) (Ch.s (dS (xs.getD k default)) (rF ag9 rfl rfl) ?_)))))
  refine Ch.step (v := (dB (p (xs.getD k default)))) rfl (.callS 16000 f _ #[.tmp 15] _ hf rfl (.inr ⟨caps, rfl, rfl⟩) (.cons (.d _) (exps_ds caps)) rfl (hp _ (getD_mem (by omega))) (.skip _ _ (back_anys caps)) rfl) rfl rfl ?_
  refine Ch.nil ?_
  refine T_cond (b := (p (xs.getD k default))) rfl (fun h2 => ?_) (fun h2 => ?_)
  ·
   refine Ts hc (Ch.s (dI (k : Int)) pm (Ch.s (dI (k : Int)) pa (Ch.nil (T_ret ?_))))
   exact eR [(dI (k : Int))] [] [] (.cons (.tmp 4 rfl) .nil) eB (Exp.of (congrArg (D.int .i64) (by exact (ixF_some (by omega) hp0.2 (by assumption)).symm)) (.d _))
  ·
   refine Tk (Tz hc (Ch.s (dI ((k : Int) + 1)) (iX rfl rfl intV_addA) (Ch.s (dI ((k : Int) + 1)) pm (Ch.nil ?_))))
   exact nx (k + 1) ⟨by omega, upto_succ hp0.2 (by assumption)⟩ (Wk.of rfl rfl (ar (ar (ar (ai (vI a126) trivial)))) trivial)
 ·
  refine T_exit (Ts hc (Ch.s (dI (-1)) pa (Ch.nil (T_ret ?_))))
  exact eR [(dI (-1))] [] [] (.cons (.tmp 4 rfl) .nil) eB (Exp.of (congrArg (D.int .i64) (by exact (ixF_none (fun j hj => hp0.2 j (by omega))).symm)) (.d _))

theorem sp_ContainsFunc_str (xs : List (List UInt8)) (f : FuncId) (caps : List D) (p : List UInt8 → Bool) (hf : Enters Tryz.prog f) (hp : ∀ x ∈ xs, Sp Tryz.prog f (D.str x :: caps) (.any :: anys caps) (.bool (p x))) (hn : xs.length ≤ 1048576) : Sp Tryz.prog 178 [(.slice false 1 (xs.map D.str)), (.fn f caps)] [.any, .any] (.bool (xs.any p)) := by
 refine Sp_intro (lend := true) Tryz.func178 rfl rfl rfl (fun _ => rfl) (fun c hc hX => ?_)
 refine Ts hc (Ch.s (dB false) pa (Ch.nil (Ts hc (Ch.s (.d (.slice false 1 (xs.map D.str))) pm (Ch.s (.d (.fn f caps)) pm ?_)))))
 refine Ch.s (dI (ixF p xs)) (.call 7000 230 _ _ _ en230 rfl (.inl rfl) (.cons (.d _) (.cons (.d _) .nil)) rfl rfl (sp_IndexFunc_str xs f caps p hf hp a26) (.skip _ _ (.skip _ _ .nil)) rfl) (Ch.s (dB (decide (0 ≤ (ixF p xs)))) (iX rfl rfl rfl) (Ch.s (dB (decide (0 ≤ (ixF p xs)))) pa (Ch.nil (T_ret ?_))))
 exact eR [(dB (decide (0 ≤ (ixF p xs))))] [] [] (.cons (.tmp 4 rfl) .nil) eB (Exp.of (congrArg D.bool (by exact ixF_nonneg p xs)) (.d _))

theorem ag3 : AggIs Tryz.prog 3 false := by unfold AggIs; kernel_rfl

theorem en127 : Enters Tryz.prog 127 := ⟨_, Tryz.func127, by kernel_rfl, rfl⟩

theorem en178 : Enters Tryz.prog 178 := ⟨_, Tryz.func178, by kernel_rfl, rfl⟩

def allOf {τ : Type} [Inhabited τ] (xs : List τ) (q : τ → Bool) : Bool := allB xs.length fun j => q (xs.getD j default)

theorem any_not {τ : Type} [Inhabited τ] (xs : List τ) (q : τ → Bool) : xs.any (fun c => !q c) = !allOf xs q := by
 cases h : allOf xs q with
 | true =>
  rw [Bool.not_true, List.any_eq_false]
  intro x hx
  obtain ⟨j, hj, rfl⟩ := List.mem_iff_getElem.1 hx
  have := allB_true.1 h j hj
  simp [hj] at this
  simp [this]
 | false =>
  rw [Bool.not_false, List.any_eq_true]
  apply Classical.byContradiction
  intro hno
  have : allOf xs q = true := allB_of fun j hj => by
   cases hq : q (xs.getD j default) with
   | true => rfl
   | false => exact absurd ⟨_, getD_mem hj, by rw [hq]; rfl⟩ hno
  rw [h] at this; cases this

def isLit (u : List UInt8) (j : Nat) : Bool := u.getD j 0 != 45

def litOf (u : List UInt8) : Nat := cntB u.length (isLit u)

def litTo (xs : List (List UInt8)) (k : Nat) : Nat := sumN k fun j => litOf (xs.getD j default)

def lits (xs : List (List UInt8)) : Nat := litTo xs xs.length

theorem litOf_le (u : List UInt8) : litOf u ≤ u.length := cntB_le _ _

theorem litTo_le (xs : List (List UInt8)) : ∀ k, k ≤ xs.length → litTo xs k ≤ sumTo xs k
 | 0, _ => by simp [litTo]
 | k + 1, h => by
  have h1 := litTo_le xs k (by omega)
  have h2 := litOf_le (xs.getD k default)
  rw [sumTo_succ (by omega)]
  unfold litTo at h1 ⊢
  rw [sumN_succ]; omega

theorem litTo_succ (xs : List (List UInt8)) (k : Nat) : litTo xs (k + 1) = litTo xs k + litOf (xs.getD k default) := sumN_succ _ _

theorem sp_spec_l14Literals (xs : List (List UInt8)) (hb : bulkS xs ≤ 1048576) : Sp Tryz.prog 200 [(.slice false 1 (xs.map D.str))] [.any] (.int .i64 (lits xs : Int)) := by
 refine Sp_intro (lend := true) Tryz.func200 rfl rfl rfl (fun _ => rfl) (fun c hc hX => ?_)
 have hb2 : (xs.map List.length).sum ≤ 1048576 := by (unfold bulkS at hb; omega)
 have hb3 := bulk_len hb
 refine Ts hc (Ch.s (dI 0) pa (Ch.nil (Ts hc (Ch.s (dI 0) pa (Ch.nil ?_)))))
 refine Tq (Ts hc (Ch.s (.d (.slice false 1 (xs.map D.str))) pm (Ch.s (dI (xs.length : Int)) (.pure (.len _ _ 9 rfl Tryz.underlying23 (.sh _ _) (by simp))) (Ch.s (dI 0) pm (Ch.nil (Tb ?_))))))
 refine T_loop (ι := Nat) (fun k => { n := 27, sl := [(3, (dI (litTo xs k : Int))), (7, (.d (.slice false 1 (xs.map D.str)))), (8, (dI (xs.length : Int))), (9, (dI (k : Int)))], hp := [], pin := [] }) (fun k => k ≤ xs.length) (fun k => xs.length - k) ⟨0, (by omega), (Wk.of rfl rfl (ai (vI a92) (ar (ar (ai (vI a126) trivial)))) trivial)⟩ (fun k hp0 => ?_)
 have hs1 := sumTo_le xs k; have hs2 := litTo_le xs k hp0
 refine Ts hc (Ch.s (dB (decide ((k : Int) < (xs.length : Int)))) (iX rfl rfl rfl) (Ch.nil (Tq ?_)))
 refine T_condD (p := ((k : Int) < (xs.length : Int))) rfl (fun h1 => ?_) (fun h1 => ?_)
 ·
  refine Tk (Tq (Tb (Ts hc (Ch.s (.d (.ref (.str (xs.getD k default)))) (.pure (.idx _ _ _ 9 (k) rfl Tryz.underlying23 sz9 rfl rfl rfl get_mapA)) (Ch.s (dS (xs.getD k default)) (rF ag9 rfl rfl) (Ch.s (dS (xs.getD k default)) pa ?_))))))
  refine Ch.nil (Ts hc (Ch.s (dI 0) pa (Ch.nil (Tb ?_))))
  refine T_loop (ι := Nat) (fun m => { n := 27, sl := [(3, (dI ((litTo xs k + cntB m (isLit (xs.getD k default)) : Nat) : Int))), (5, (dS (xs.getD k default))), (6, (dI (m : Int))), (7, (.d (.slice false 1 (xs.map D.str)))), (8, (dI (xs.length : Int))), (9, (dI (k : Int)))], hp := [], pin := [] }) (fun m => m ≤ (xs.getD k default).length) (fun m => (xs.getD k default).length - m) ⟨0, (by omega), (Wk.of rfl rfl (ai (vI a81) (ar (ai (vI a126) (ar (ar (ar trivial)))))) trivial)⟩ (fun m hp1 => ?_)
  have hs3 := cntB_le m (isLit (xs.getD k default)); have hs4 := bulk_mem hb _ (getD_mem (l := xs) (j := k) (d := default) (by omega))
  refine Tq (Ts hc (Ch.s (dI (m : Int)) pm (Ch.s (dS (xs.getD k default)) pm (Ch.s (dI ((xs.getD k default).length : Int)) (.pure (.lenStr _ _ rfl Tryz.underlying9 rfl)) (Ch.s (dB (decide ((m : Int) < ((xs.getD k default).length : Int)))) (iX rfl rfl rfl) (Ch.nil ?_))))))
  refine T_condD (p := ((m : Int) < ((xs.getD k default).length : Int))) rfl (fun h2 => ?_) (fun h2 => ?_)
  ·
   refine Tk (Tq (Tb (Ts hc (Ch.s (dS (xs.getD k default)) pm (Ch.s (dI (m : Int)) pm (Ch.s (.d (.int .u8 (((xs.getD k default).getD m 0).toNat : Int))) (.pure (.idxStr _ _ _ (m) rfl Tryz.underlying9 rfl rfl rfl get_strA)) ?_))))))
   refine Ch.s (dB (!(decide ((((xs.getD k default).getD m 0) : UInt8) = 45)))) (iX rfl rfl (u8_neq (((xs.getD k default).getD m 0) : UInt8) 45 rfl rfl)) (Ch.nil ?_)
   refine T_condN (b := (decide ((((xs.getD k default).getD m 0) : UInt8) = 45))) rfl (fun h3 => ?_) (fun h3 => ?_)
   ·
    replace h3 := odf h3
    refine Tz hc (Ch.s (dI ((litTo xs k + cntB m (isLit (xs.getD k default)) : Nat) : Int)) pm (Ch.s (dI (((litTo xs k + cntB m (isLit (xs.getD k default)) : Nat) : Int) + 1)) (iX rfl rfl intV_addA) (Ch.s (dI (((litTo xs k + cntB m (isLit (xs.getD k default)) : Nat) : Int) + 1)) pa (Ch.nil (Tz hc (Ch.s (dI (m : Int)) pm (Ch.s (dI ((m : Int) + 1)) (iX rfl rfl intV_addA) ?_)))))))
    refine Ch.s (dI ((m : Int) + 1)) pa (Ch.nil ?_)
    exact nx (m + 1) (by omega) (Wk.of rfl rfl (ai (vI a81) (ar (ai (vI a126) (ar (ar (ar trivial)))))) trivial)
   ·
    replace h3 := odt h3
    refine Tk (Tz hc (Ch.s (dI (m : Int)) pm (Ch.s (dI ((m : Int) + 1)) (iX rfl rfl intV_addA) (Ch.s (dI ((m : Int) + 1)) pa (Ch.nil ?_)))))
    exact nx (m + 1) (by omega) (Wk.of rfl rfl (ai (vI a81) (ar (ai (vI a126) (ar (ar (ar trivial)))))) trivial)
  ·
   refine T_exit (Tz hc (Ch.s (dI ((k : Int) + 1)) (iX rfl rfl intV_addA) (Ch.s (dI ((k : Int) + 1)) pm (Ch.nil ?_))))
   exact nx (k + 1) (by omega) (Wk.of rfl rfl (ai (vI a92) (ar (ar (ai (vI a126) trivial)))) trivial)
 ·
  refine T_exit (Ts hc (Ch.s (dI (litTo xs k : Int)) pm (Ch.s (dI (litTo xs k : Int)) pa (Ch.nil (T_ret ?_)))))
  exact eR [(dI (litTo xs k : Int))] [] [] (.cons (.tmp 2 rfl) .nil) eA (Exp.of (congrArg (D.int .i64) (by rw [lits, show xs.length = k by omega])) (.d _))

theorem sp_impl_literals (xs : List (List UInt8)) (hb : bulkS xs ≤ 1048576) : Sp Tryz.prog 202 [(.slice false 1 (xs.map D.str))] [.any] (.int .i64 (lits xs : Int)) := by
 refine Sp_intro (lend := true) Tryz.func202 rfl rfl rfl (fun _ => rfl) (fun c hc hX => ?_)
 have hb2 : (xs.map List.length).sum ≤ 1048576 := by (unfold bulkS at hb; omega)
 have hb3 := bulk_len hb
 refine Ts hc (Ch.s (dI 0) pa (Ch.nil (Ts hc (Ch.s (dI 0) pa (Ch.nil ?_)))))
 refine Tq (Ts hc (Ch.s (.d (.slice false 1 (xs.map D.str))) pm (Ch.s (dI (xs.length : Int)) (.pure (.len _ _ 9 rfl Tryz.underlying23 (.sh _ _) (by simp))) (Ch.s (dI 0) pm (Ch.nil (Tb ?_))))))
 refine T_loop (ι := Nat) (fun k => { n := 27, sl := [(3, (dI (litTo xs k : Int))), (7, (.d (.slice false 1 (xs.map D.str)))), (8, (dI (xs.length : Int))), (9, (dI (k : Int)))], hp := [], pin := [] }) (fun k => k ≤ xs.length) (fun k => xs.length - k) ⟨0, (by omega), (Wk.of rfl rfl (ai (vI a92) (ar (ar (ai (vI a126) trivial)))) trivial)⟩ (fun k hp0 => ?_)
 have hs1 := sumTo_le xs k; have hs2 := litTo_le xs k hp0
 refine Ts hc (Ch.s (dB (decide ((k : Int) < (xs.length : Int)))) (iX rfl rfl rfl) (Ch.nil (Tq ?_)))
 refine T_condD (p := ((k : Int) < (xs.length : Int))) rfl (fun h1 => ?_) (fun h1 => ?_)
 ·
  refine Tk (Tq (Tb (Ts hc (Ch.s (.d (.ref (.str (xs.getD k default)))) (.pure (.idx _ _ _ 9 (k) rfl Tryz.underlying23 sz9 rfl rfl rfl get_mapA)) (Ch.s (dS (xs.getD k default)) (rF ag9 rfl rfl) (Ch.s (dS (xs.getD k default)) pa ?_))))))
  refine Ch.nil (Ts hc (Ch.s (dS (xs.getD k default)) pm (Ch.s (dI ((xs.getD k default).length : Int)) (.pure (.lenStr _ _ rfl Tryz.underlying9 rfl)) (Ch.s (dI 0) pm (Ch.nil (Tb ?_))))))
  refine T_loop (ι := Nat) (fun m => { n := 27, sl := [(3, (dI ((litTo xs k + cntB m (isLit (xs.getD k default)) : Nat) : Int))), (5, (dS (xs.getD k default))), (7, (.d (.slice false 1 (xs.map D.str)))), (8, (dI (xs.length : Int))), (9, (dI (k : Int))), (14, (dI ((xs.getD k default).length : Int))), (15, (dI (m : Int)))], hp := [], pin := [] }) (fun m => m ≤ (xs.getD k default).length) (fun m => (xs.getD k default).length - m) ⟨0, (by omega), (Wk.of rfl rfl (ai (vI a81) (ar (ar (ar (ar (ar (ai (vI a126) trivial))))))) trivial)⟩ (fun m hp1 => ?_)
  have hs3 := cntB_le m (isLit (xs.getD k default)); have hs4 := bulk_mem hb _ (getD_mem (l := xs) (j := k) (d := default) (by omega))
  refine Ts hc (Ch.s (dB (decide ((m : Int) < ((xs.getD k default).length : Int)))) (iX rfl rfl rfl) (Ch.nil (Tq ?_)))
  refine T_condD (p := ((m : Int) < ((xs.getD k default).length : Int))) rfl (fun h2 => ?_) (fun h2 => ?_)
  ·
   refine Tk (Tq (Tb (Ts hc (Ch.s (dI (m : Int)) pm (Ch.s (dI (m : Int)) pa (Ch.nil ?_))))))
   refine Ts hc (Ch.s (dS (xs.getD k default)) pm (Ch.s (dI (m : Int)) pm (Ch.s (.d (.int .u8 (((xs.getD k default).getD m 0).toNat : Int))) (.pure (.idxStr _ _ _ (m) rfl Tryz.underlying9 rfl rfl rfl get_strA)) (Ch.s (dB (!(decide ((((xs.getD k default).getD m 0) : UInt8) = 45)))) (iX rfl rfl (u8_neq (((xs.getD k default).getD m 0) : UInt8) 45 rfl rfl)) (Ch.nil ?_)))))
   refine T_condN (b := (decide ((((xs.getD k default).getD m 0) : UInt8) = 45))) rfl (fun h3 => ?_) (fun h3 => ?_)
   ·
    replace h3 := odf h3
    refine Tz hc (Ch.s (dI ((litTo xs k + cntB m (isLit (xs.getD k default)) : Nat) : Int)) pm (Ch.s (dI (((litTo xs k + cntB m (isLit (xs.getD k default)) : Nat) : Int) + 1)) (iX rfl rfl intV_addA) (Ch.s (dI (((litTo xs k + cntB m (isLit (xs.getD k default)) : Nat) : Int) + 1)) pa (Ch.nil (Tz hc (Ch.s (dI ((m : Int) + 1)) (iX rfl rfl intV_addA) (Ch.s (dI ((m : Int) + 1)) pm ?_)))))))
    refine Ch.nil ?_
    exact nx (m + 1) (by omega) (Wk.of rfl rfl (ai (vI a81) (ar (ar (ar (ar (ar (ai (vI a126) trivial))))))) trivial)
   ·
    replace h3 := odt h3
    refine Tk (Tz hc (Ch.s (dI ((m : Int) + 1)) (iX rfl rfl intV_addA) (Ch.s (dI ((m : Int) + 1)) pm (Ch.nil ?_))))
    exact nx (m + 1) (by omega) (Wk.of rfl rfl (ai (vI a81) (ar (ar (ar (ar (ar (ai (vI a126) trivial))))))) trivial)
  ·
   refine T_exit (Tz hc (Ch.s (dI ((k : Int) + 1)) (iX rfl rfl intV_addA) (Ch.s (dI ((k : Int) + 1)) pm (Ch.nil ?_))))
   exact nx (k + 1) (by omega) (Wk.of rfl rfl (ai (vI a92) (ar (ar (ai (vI a126) trivial)))) trivial)
 ·
  refine T_exit (Ts hc (Ch.s (dI (litTo xs k : Int)) pm (Ch.s (dI (litTo xs k : Int)) pa (Ch.nil (T_ret ?_)))))
  exact eR [(dI (litTo xs k : Int))] [] [] (.cons (.tmp 2 rfl) .nil) eA (Exp.of (congrArg (D.int .i64) (by rw [lits, show xs.length = k by omega])) (.d _))

theorem en308 : Enters Tryz.prog 308 := ⟨_, Tryz.func308, by kernel_rfl, rfl⟩

theorem en305 : Enters Tryz.prog 305 := ⟨_, Tryz.func305, by kernel_rfl, rfl⟩

theorem en295 : Enters Tryz.prog 295 := ⟨_, Tryz.func295, by kernel_rfl, rfl⟩

theorem en280 : Enters Tryz.prog 280 := ⟨_, Tryz.func280, by kernel_rfl, rfl⟩

theorem en197 : Enters Tryz.prog 197 := ⟨_, Tryz.func197, by kernel_rfl, rfl⟩

def codeCh (x : UInt8) : Bool := x == 48 || x == 49

def codeN (u : List UInt8) (n : Int) : Bool := allB u.length (fun j => codeCh (u.getD j 0)) && decide ((u.length : Int) = n)

def hasCh (x y : UInt8) : Bool := x == 45 || x == y

def hasB (a b : List UInt8) : Bool := allB a.length fun j => hasCh (a.getD j 0) (b.getD j 0)

def dashB (u : List UInt8) : Bool := decide (0 ≤ Lib.indexByte u 45)

def isCodeB (u : List UInt8) (n : Int) : Bool := cubeN u n && !dashB u

def inB (xs : List (List UInt8)) (u : List UInt8) : Bool := xs.any fun a => hasB a u

theorem dashB_iff (u : List UInt8) : dashB u = true ↔ 45 ∈ u := by
  unfold dashB
  rw [decide_eq_true_iff]
  induction u with
  | nil => exact ⟨fun h => absurd h (by decide), fun h => by cases h⟩
  | cons x u ih =>
    have hge := Lib.indexByte_ge u 45
    rw [Lib.indexByte, List.mem_cons]
    split
    · rename_i h
      have h : x = 45 := by simpa using h
      exact ⟨fun _ => .inl h.symm, fun _ => Int.le_refl 0⟩
    · rename_i h
      have hx : ¬ (45 : UInt8) = x := fun e => h (by rw [e]; simp)
      split
      · rename_i h2
        have h2 : Lib.indexByte u 45 = -1 := by simpa using h2
        rw [h2] at ih
        constructor
        · intro h3; exact absurd h3 (by decide)
        · rintro (h3 | h3)
          · exact absurd h3 hx
          · exact absurd (ih.2 h3) (by decide)
      · rename_i h2
        have h2 : ¬ Lib.indexByte u 45 = -1 := by simpa using h2
        constructor
        · intro h3
          have h4 : 0 ≤ Lib.indexByte u 45 := by generalize Lib.indexByte u 45 = z at *; omega
          exact .inr (ih.1 h4)
        · rintro (h3 | h3)
          · exact absurd h3 hx
          · have h4 := ih.2 h3; generalize Lib.indexByte u 45 = z at *; omega

theorem code_eq (u : List UInt8) (n : Int) : isCodeB u n = (codeN u n && withinB n 1 8) := by
  rw [Bool.eq_iff_iff]
  unfold isCodeB cubeN cubeS codeN
  simp only [Bool.and_eq_true, Bool.not_eq_true', allB_true, ← Bool.not_eq_true, dashB_iff, decide_eq_true_iff]
  have hm : (∃ j, j < u.length ∧ u.getD j 0 = 45) ↔ 45 ∈ u := by
    constructor
    · rintro ⟨j, hj, h⟩; rw [← h]; exact getD_mem hj
    · intro h; obtain ⟨j, hj, h⟩ := List.mem_iff_getElem.1 h; exact ⟨j, hj, by simp [hj, h]⟩
  constructor
  · rintro ⟨⟨⟨h1, h2⟩, h3⟩, h4⟩
    refine ⟨⟨fun j hj => ?_, h2⟩, h3⟩
    have h5 := h1 j hj
    have h6 : ¬ u.getD j 0 = 45 := fun e => h4 (hm.1 ⟨j, hj, e⟩)
    unfold cubeCh at h5
    unfold codeCh
    simp only [Bool.or_eq_true, beq_iff_eq] at h5 ⊢
    exact h5.resolve_right h6
  · rintro ⟨⟨h1, h2⟩, h3⟩
    refine ⟨⟨⟨fun j hj => ?_, h2⟩, h3⟩, fun h => ?_⟩
    · have h5 := h1 j hj
      unfold codeCh at h5
      unfold cubeCh
      simp only [Bool.or_eq_true] at h5 ⊢
      exact .inl h5
    · obtain ⟨j, hj, h6⟩ := hm.2 h
      have h5 := h1 j hj
      rw [h6] at h5
      exact absurd h5 (by decide)

theorem sp_spec_l5Code (u : List UInt8) (n : Int) (hs : u.length ≤ 1048576) : Sp Tryz.prog 163 [(.str u), (.int .i64 n)] [.any, .any] (.bool (codeN u n)) := by
 refine Sp_intro (lend := true) Tryz.func163 rfl rfl rfl (fun _ => rfl) (fun c hc hX => ?_)
 refine Ts hc (Ch.s (dB false) pa (Ch.nil (Tq (Ts hc (Ch.s (dI 0) pa ?_)))))
 refine Ch.nil (Tb ?_)
 refine T_loop (ι := Nat) (fun k => { n := 26, sl := [(0, (dS u)), (1, (dI n)), (5, (dI (k : Int)))], hp := [], pin := [] }) (fun k => k ≤ u.length ∧ ∀ j, j < k → codeCh (u.getD j 0) = true) (fun k => u.length - k) ⟨0, ⟨by omega, fun j hj => by omega⟩, (Wk.of rfl rfl (ar (ar (ai (vI a126) trivial))) trivial)⟩ (fun k hp0 => ?_)
 refine Tq (Ts hc (Ch.s (dI (k : Int)) pm (Ch.s (dS u) pm (Ch.s (dI (u.length : Int)) (.pure (.lenStr _ _ rfl Tryz.underlying9 rfl)) (Ch.s (dB (decide ((k : Int) < (u.length : Int)))) (iX rfl rfl rfl) (Ch.nil ?_))))))
 refine T_condD (p := ((k : Int) < (u.length : Int))) rfl (fun h1 => ?_) (fun h1 => ?_)
 ·
  refine Tk (Tq (Tb (Ts hc (Ch.s (dS u) pm (Ch.s (dI (k : Int)) pm (Ch.s (.d (.int .u8 ((u.getD k 0).toNat : Int))) (.pure (.idxStr _ _ _ (k) rfl Tryz.underlying9 rfl rfl rfl get_strA)) ?_))))))
  refine Ch.s (dB (!(decide (((u.getD k 0) : UInt8) = 48)))) (iX rfl rfl (u8_neq ((u.getD k 0) : UInt8) 48 rfl rfl)) (Ch.s (dB (!(decide (((u.getD k 0) : UInt8) = 48)))) pm ?_)
  cases h2 : (decide (((u.getD k 0) : UInt8) = 48)) with
  | true =>
   replace h2 := odt h2
   refine Ck (Ck (Ck (Ck (Ch.s (dB false) (pF rfl) (Ch.nil ?_)))))
   refine T_cond (b := false) rfl (fun h => nomatch h) (fun _ => ?_)
   refine Tk (Tz hc (Ch.s (dI (k : Int)) pm (Ch.s (dI ((k : Int) + 1)) (iX rfl rfl intV_addA) (Ch.s (dI ((k : Int) + 1)) pa (Ch.nil ?_)))))
   exact nx (k + 1) ⟨by omega, upto_succ hp0.2 (by simp_all [codeCh])⟩ (Wk.of rfl rfl (ar (ar (ai (vI a126) trivial))) trivial)
  | false =>
   replace h2 := odf h2
   refine Ch.s (dS u) pm (Ch.s (dI (k : Int)) pm (Ch.s (.d (.int .u8 ((u.getD k 0).toNat : Int))) (.pure (.idxStr _ _ _ (k) rfl Tryz.underlying9 rfl rfl rfl get_strA)) (Ch.s (dB (!(decide (((u.getD k 0) : UInt8) = 49)))) (iX rfl rfl (u8_neq ((u.getD k 0) : UInt8) 49 rfl rfl)) (Ch.s (dB (!(decide (((u.getD k 0) : UInt8) = 49)))) (pT rfl) (Ch.nil ?_)))))
   refine T_condN (b := (decide (((u.getD k 0) : UInt8) = 49))) rfl (fun h3 => ?_) (fun h3 => ?_)
   ·
    replace h3 := odf h3
    refine Ts hc (Ch.s (dB false) pa (Ch.nil (T_ret ?_)))
    exact eR [(dB false)] [] [] (.cons (.tmp 4 rfl) .nil) eB (Exp.of (congrArg D.bool a66) (.d _))
   ·
    replace h3 := odt h3
    refine Tk (Tz hc (Ch.s (dI (k : Int)) pm (Ch.s (dI ((k : Int) + 1)) (iX rfl rfl intV_addA) (Ch.s (dI ((k : Int) + 1)) pa (Ch.nil ?_)))))
    exact nx (k + 1) ⟨by omega, upto_succ hp0.2 (by simp_all [codeCh])⟩ (Wk.of rfl rfl (ar (ar (ai (vI a126) trivial))) trivial)
 ·
  refine T_exit (Ts hc (Ch.s (dS u) pm (Ch.s (dI (u.length : Int)) (.pure (.lenStr _ _ rfl Tryz.underlying9 rfl)) (Ch.s (dI n) pm (Ch.s (dB (decide ((u.length : Int) = n))) (iX rfl rfl rfl) (Ch.s (dB (decide ((u.length : Int) = n))) pa ?_))))))
  refine Ch.nil (T_ret ?_)
  exact eR [(dB (decide ((u.length : Int) = n)))] [] [] (.cons (.tmp 4 rfl) .nil) eB (Exp.of (congrArg D.bool a66) (.d _))

theorem sp_spec_l13Has (a b : List UInt8) (ha : a.length ≤ 1048576) (hl : a.length ≤ b.length) : Sp Tryz.prog 197 [(.str a), (.str b)] [.any, .any] (.bool (hasB a b)) := by
 refine Sp_intro (lend := true) Tryz.func197 rfl rfl rfl (fun _ => rfl) (fun c hc hX => ?_)
 refine Ts hc (Ch.s (dB false) pa (Ch.nil (Tq (Ts hc (Ch.s (dI 0) pa ?_)))))
 refine Ch.nil (Tb ?_)
 refine T_loop (ι := Nat) (fun k => { n := 25, sl := [(0, (dS a)), (1, (dS b)), (5, (dI (k : Int)))], hp := [], pin := [] }) (fun k => k ≤ a.length ∧ ∀ j, j < k → hasCh (a.getD j 0) (b.getD j 0) = true) (fun k => a.length - k) ⟨0, ⟨by omega, fun j hj => by omega⟩, (Wk.of rfl rfl (ar (ar (ai (vI a126) trivial))) trivial)⟩ (fun k hp0 => ?_)
 refine Tq (Ts hc (Ch.s (dI (k : Int)) pm (Ch.s (dS a) pm (Ch.s (dI (a.length : Int)) (.pure (.lenStr _ _ rfl Tryz.underlying9 rfl)) (Ch.s (dB (decide ((k : Int) < (a.length : Int)))) (iX rfl rfl rfl) (Ch.nil ?_))))))
 refine T_condD (p := ((k : Int) < (a.length : Int))) rfl (fun h1 => ?_) (fun h1 => ?_)
 ·
  refine Tk (Tq (Tb (Tq ?_)))
  refine T_regionD hc (by kernel_rfl) ?_
  refine ChD.s (dS a) [] pm (ChD.s (dI (k : Int)) [] pm (ChD.s (.d (.int .u8 ((a.getD k 0).toNat : Int))) [] (.pure (.idxStr _ _ _ (k) rfl Tryz.underlying9 rfl rfl rfl get_strA)) (ChD.s (dB (!(decide (((a.getD k 0) : UInt8) = 45)))) [] (iX rfl rfl (u8_neq ((a.getD k 0) : UInt8) 45 rfl rfl)) (ChD.s (dB (!(decide (((a.getD k 0) : UInt8) = 45)))) [] pm ?_))))
  cases h2 : (decide (((a.getD k 0) : UInt8) = 45)) with
  | true =>
   replace h2 := odt h2
   refine ChD.skip rfl rfl (ChD.skip rfl rfl (ChD.skip rfl rfl (ChD.skip rfl rfl (ChD.skip rfl rfl (ChD.skip rfl rfl (ChD.skip rfl rfl (ChD.s (dB false) [] (pF rfl) ?_)))))))
   refine ChD.nil (And.intro ?_ (by kernel_rfl))
   refine T_cond (b := false) rfl (fun h => nomatch h) (fun _ => ?_)
   refine Tk (Tz hc (Ch.s (dI (k : Int)) pm (Ch.s (dI ((k : Int) + 1)) (iX rfl rfl intV_addA) (Ch.s (dI ((k : Int) + 1)) pa (Ch.nil ?_)))))
   exact nx (k + 1) ⟨by omega, upto_succ hp0.2 (by simp_all [hasCh])⟩ (Wk.of rfl rfl (ar (ar (ai (vI a126) trivial))) trivial)
  | false =>
   replace h2 := odf h2
   refine ChD.s (dS a) [] pm (ChD.s (dI (k : Int)) [] pm (ChD.s (.d (.int .u8 ((a.getD k 0).toNat : Int))) [] (.pure (.idxStr _ _ _ (k) rfl Tryz.underlying9 rfl rfl rfl get_strA)) (ChD.s (dS b) [] pm (ChD.s (dI (k : Int)) [] pm (ChD.s (.d (.int .u8 ((b.getD k 0).toNat : Int))) [] (.pure (.idxStr _ _ _ (k) rfl Tryz.underlying9 rfl rfl rfl get_strA)) (ChD.s (dB (!(decide (((a.getD k 0) : UInt8) = (b.getD k 0))))) [] (iX rfl rfl (u8_neq ((a.getD k 0) : UInt8) (b.getD k 0) rfl rfl)) (ChD.s (dB (!(decide (((a.getD k 0) : UInt8) = (b.getD k 0))))) [] (pT rfl) ?_)))))))
   refine ChD.nil (And.intro ?_ (by kernel_rfl))
   refine T_condN (b := (decide (((a.getD k 0) : UInt8) = (b.getD k 0)))) rfl (fun h3 => ?_) (fun h3 => ?_)
   ·
    replace h3 := odf h3
    refine Ts hc (Ch.s (dB false) pa (Ch.nil (T_ret ?_)))
    exact eR [(dB false)] [] [] (.cons (.tmp 4 rfl) .nil) eB (Exp.of (congrArg D.bool a72) (.d _))
   ·
    replace h3 := odt h3
    refine Tk (Tz hc (Ch.s (dI (k : Int)) pm (Ch.s (dI ((k : Int) + 1)) (iX rfl rfl intV_addA) (Ch.s (dI ((k : Int) + 1)) pa (Ch.nil ?_)))))
    exact nx (k + 1) ⟨by omega, upto_succ hp0.2 (by simp_all [hasCh])⟩ (Wk.of rfl rfl (ar (ar (ai (vI a126) trivial))) trivial)
 ·
  refine T_exit (Ts hc (Ch.s (dB true) pa (Ch.nil (T_ret ?_))))
  exact eR [(dB true)] [] [] (.cons (.tmp 4 rfl) .nil) eB (Exp.of (congrArg D.bool a72) (.d _))

theorem sp_impl_contains (a b : List UInt8) (ha : a.length ≤ 1048576) (hl : a.length ≤ b.length) : Sp Tryz.prog 198 [(.str a), (.str b)] [.any, .any] (.bool (hasB a b)) := by
 refine Sp_intro (lend := true) Tryz.func198 rfl rfl rfl (fun _ => rfl) (fun c hc hX => ?_)
 refine Ts hc (Ch.s (dB false) pa (Ch.nil (Tq (Ts hc (Ch.s (dS a) pm ?_)))))
 refine Ch.s (dI (a.length : Int)) (.pure (.lenStr _ _ rfl Tryz.underlying9 rfl)) (Ch.s (dI 0) pm (Ch.nil (Tb ?_)))
 refine T_loop (ι := Nat) (fun k => { n := 25, sl := [(0, (dS a)), (1, (dS b)), (7, (dI (a.length : Int))), (8, (dI (k : Int)))], hp := [], pin := [] }) (fun k => k ≤ a.length ∧ ∀ j, j < k → hasCh (a.getD j 0) (b.getD j 0) = true) (fun k => a.length - k) ⟨0, ⟨by omega, fun j hj => by omega⟩, (Wk.of rfl rfl (ar (ar (ar (ai (vI a126) trivial)))) trivial)⟩ (fun k hp0 => ?_)
 refine Ts hc (Ch.s (dB (decide ((k : Int) < (a.length : Int)))) (iX rfl rfl rfl) (Ch.nil (Tq ?_)))
 refine T_condD (p := ((k : Int) < (a.length : Int))) rfl (fun h1 => ?_) (fun h1 => ?_)
 ·
  refine Tk (Tq (Tb (Ts hc (Ch.s (dI (k : Int)) pm (Ch.s (dI (k : Int)) pa (Ch.nil ?_))))))
  refine Tq ?_
  refine T_regionD hc (by kernel_rfl) ?_
  refine ChD.s (dS a) [] pm (ChD.s (dI (k : Int)) [] pm (ChD.s (.d (.int .u8 ((a.getD k 0).toNat : Int))) [] (.pure (.idxStr _ _ _ (k) rfl Tryz.underlying9 rfl rfl rfl get_strA)) (ChD.s (dB (!(decide (((a.getD k 0) : UInt8) = 45)))) [] (iX rfl rfl (u8_neq ((a.getD k 0) : UInt8) 45 rfl rfl)) (ChD.s (dB (!(decide (((a.getD k 0) : UInt8) = 45)))) [] pm ?_))))
  cases h2 : (decide (((a.getD k 0) : UInt8) = 45)) with
  | true =>
   replace h2 := odt h2
   refine ChD.skip rfl rfl (ChD.skip rfl rfl (ChD.skip rfl rfl (ChD.skip rfl rfl (ChD.skip rfl rfl (ChD.skip rfl rfl (ChD.skip rfl rfl (ChD.s (dB false) [] (pF rfl) ?_)))))))
   refine ChD.nil (And.intro ?_ (by kernel_rfl))
   refine T_cond (b := false) rfl (fun h => nomatch h) (fun _ => ?_)
   refine Tk (Tz hc (Ch.s (dI ((k : Int) + 1)) (iX rfl rfl intV_addA) (Ch.s (dI ((k : Int) + 1)) pm (Ch.nil ?_))))
   exact nx (k + 1) ⟨by omega, upto_succ hp0.2 (by simp_all [hasCh])⟩ (Wk.of rfl rfl (ar (ar (ar (ai (vI a126) trivial)))) trivial)
  | false =>
   replace h2 := odf h2
   refine ChD.s (dS a) [] pm (ChD.s (dI (k : Int)) [] pm (ChD.s (.d (.int .u8 ((a.getD k 0).toNat : Int))) [] (.pure (.idxStr _ _ _ (k) rfl Tryz.underlying9 rfl rfl rfl get_strA)) (ChD.s (dS b) [] pm (ChD.s (dI (k : Int)) [] pm (ChD.s (.d (.int .u8 ((b.getD k 0).toNat : Int))) [] (.pure (.idxStr _ _ _ (k) rfl Tryz.underlying9 rfl rfl rfl get_strA)) (ChD.s (dB (!(decide (((a.getD k 0) : UInt8) = (b.getD k 0))))) [] (iX rfl rfl (u8_neq ((a.getD k 0) : UInt8) (b.getD k 0) rfl rfl)) (ChD.s (dB (!(decide (((a.getD k 0) : UInt8) = (b.getD k 0))))) [] (pT rfl) ?_)))))))
   refine ChD.nil (And.intro ?_ (by kernel_rfl))
   refine T_condN (b := (decide (((a.getD k 0) : UInt8) = (b.getD k 0)))) rfl (fun h3 => ?_) (fun h3 => ?_)
   ·
    replace h3 := odf h3
    refine Ts hc (Ch.s (dB false) pa (Ch.nil (T_ret ?_)))
    exact eR [(dB false)] [] [] (.cons (.tmp 4 rfl) .nil) eB (Exp.of (congrArg D.bool a72) (.d _))
   ·
    replace h3 := odt h3
    refine Tk (Tz hc (Ch.s (dI ((k : Int) + 1)) (iX rfl rfl intV_addA) (Ch.s (dI ((k : Int) + 1)) pm (Ch.nil ?_))))
    exact nx (k + 1) ⟨by omega, upto_succ hp0.2 (by simp_all [hasCh])⟩ (Wk.of rfl rfl (ar (ar (ar (ai (vI a126) trivial)))) trivial)
 ·
  refine T_exit (Ts hc (Ch.s (dB true) pa (Ch.nil (T_ret ?_))))
  exact eR [(dB true)] [] [] (.cons (.tmp 4 rfl) .nil) eB (Exp.of (congrArg D.bool a72) (.d _))

theorem sp_stringslite_IndexByte (u : List UInt8) (x : UInt8) : Sp Tryz.prog 308 [(.str u), (.int .u8 (x.toNat : Int))] [.any, .any] (.int .i64 (Lib.indexByte u x)) := by
 refine Sp_intro (lend := true) Tryz.func308 rfl rfl rfl (fun _ => rfl) (fun c hc hX => ?_)
 refine Ts hc (Ch.s (dI 0) pa (Ch.nil (Ts hc (Ch.s (dS u) pm (Ch.s (.d (.int .u8 (x.toNat : Int))) pm ?_)))))
 refine Ch.step (v := (dI (Lib.indexByte u x))) rfl (.pure (.ext 312 _ _ _ (ext_indexByte Tryz.func312 (by kernel_rfl) rfl (by kernel_rfl) (by kernel_rfl) u x) rfl rfl rfl)) rfl rfl ?_
 refine Ch.s (dI (Lib.indexByte u x)) pa (Ch.nil (T_ret ?_))
 exact eR [(dI (Lib.indexByte u x))] [] [] (.cons (.tmp 4 rfl) .nil) eB (.d _)

theorem sp_stringslite_Index (u : List UInt8) : Sp Tryz.prog 305 [(.str u), (.str ([45]))] [.any, .any] (.int .i64 (Lib.indexByte u 45)) := by
 refine Sp_intro (lend := true) Tryz.func305 rfl rfl rfl (fun _ => rfl) (fun c hc hX => ?_)
 refine Ts hc (Ch.s (dI 0) pa (Ch.nil (Ts hc (Ch.s (dS ([45])) pm (Ch.s (dI 1) (.pure (.lenStr (s := ([45])) _ _ rfl Tryz.underlying9 rfl)) ?_)))))
 refine Ch.s (dI 1) pa (Ch.nil (Tq (Tb (Ts hc (Ch.s (dI 1) pm (Ch.s (dB false) (iX rfl rfl rfl) ?_))))))
 refine Ch.s (dB false) pm (Ch.s (dS ([45])) pm (Ch.s (dS u) pm (Ch.s (dB (decide (([45]) = u))) (.pure (.str _ _ _ _ _ rfl rfl rfl rfl)) (Ch.s (dB (decide (([45]) = u))) (pF rfl) (Ch.s (dB (decide (([45]) = u))) pa (Ch.nil ?_))))))
 refine T_condD (p := (([45]) = u)) rfl (fun h1 => ?_) (fun h1 => ?_)
 ·
  refine Ts hc (Ch.s (dI 0) pa (Ch.nil (T_ret ?_)))
  exact eR [(dI 0)] [] [] (.cons (.tmp 4 rfl) .nil) eB (Exp.of (congrArg (D.int .i64) (by first | rfl | (subst_vars; rfl) | (simp_all; done))) (.d _))
 ·
  refine Ts hc (Ch.s (dI 1) pm (Ch.s (dB true) (iX rfl rfl rfl) (Ch.s (dB true) pa (Ch.nil ?_))))
  refine T_cond (b := true) rfl (fun _ => ?_) (fun h => nomatch h)
  refine Ts hc (Ch.s (dS u) pm (Ch.s (dS ([45])) pm (Ch.s (.d (.int .u8 ((45 : UInt8).toNat : Int))) (.pure (.idxStr _ _ _ (0) rfl Tryz.underlying9 rfl rfl rfl rfl)) (Ch.s (dI (Lib.indexByte u ((45 : UInt8) : UInt8))) (.call 30000 308 _ _ _ en308 rfl (.inl rfl) (.cons (.d _) (.cons (.d _) .nil)) rfl rfl (sp_stringslite_IndexByte u ((45 : UInt8) : UInt8)) (.skip _ _ (.skip _ _ .nil)) rfl) (Ch.s (dI (Lib.indexByte u ((45 : UInt8) : UInt8))) pa (Ch.nil ?_))))))
  refine T_ret ?_
  exact eR [(dI (Lib.indexByte u ((45 : UInt8) : UInt8)))] [] [] (.cons (.tmp 4 rfl) .nil) eB (Exp.of (congrArg (D.int .i64) (by first | rfl | (subst_vars; rfl) | (simp_all; done))) (.d _))

theorem sp_strings_Index (u : List UInt8) : Sp Tryz.prog 295 [(.str u), (.str ([45]))] [.any, .any] (.int .i64 (Lib.indexByte u 45)) := by
 refine Sp_intro (lend := true) Tryz.func295 rfl rfl rfl (fun _ => rfl) (fun c hc hX => ?_)
 refine Ts hc (Ch.s (dI 0) pa (Ch.nil (Ts hc (Ch.s (dS u) pm (Ch.s (dS ([45])) pm ?_)))))
 refine Ch.s (dI (Lib.indexByte u 45)) (.call 7000 305 _ _ _ en305 rfl (.inl rfl) (.cons (.d _) (.cons (.d _) .nil)) rfl rfl (sp_stringslite_Index u) (.skip _ _ (.skip _ _ .nil)) rfl) (Ch.s (dI (Lib.indexByte u 45)) pa (Ch.nil (T_ret ?_)))
 exact eR [(dI (Lib.indexByte u 45))] [] [] (.cons (.tmp 4 rfl) .nil) eB (.d _)

theorem sp_strings_Contains (u : List UInt8) : Sp Tryz.prog 280 [(.str u), (.str ([45]))] [.any, .any] (.bool (dashB u)) := by
 refine Sp_intro (lend := true) Tryz.func280 rfl rfl rfl (fun _ => rfl) (fun c hc hX => ?_)
 refine Ts hc (Ch.s (dB false) pa (Ch.nil (Ts hc (Ch.s (dS u) pm (Ch.s (dS ([45])) pm ?_)))))
 refine Ch.s (dI (Lib.indexByte u 45)) (.call 7000 295 _ _ _ en295 rfl (.inl rfl) (.cons (.d _) (.cons (.d _) .nil)) rfl rfl (sp_strings_Index u) (.skip _ _ (.skip _ _ .nil)) rfl) (Ch.s (dB (decide (0 ≤ (Lib.indexByte u 45)))) (iX rfl rfl rfl) (Ch.s (dB (decide (0 ≤ (Lib.indexByte u 45)))) pa (Ch.nil (T_ret ?_))))
 exact eR [(dB (decide (0 ≤ (Lib.indexByte u 45))))] [] [] (.cons (.tmp 4 rfl) .nil) eB (Exp.of (congrArg D.bool (by rfl)) (.d _))

theorem sp_impl_isCode (u : List UInt8) (n : Int) (hs : u.length ≤ 1048576) : Sp Tryz.prog 256 [(.str u), (.int .i64 n)] [.any, .any] (.bool (isCodeB u n)) := by
 refine Sp_intro (lend := true) Tryz.func256 rfl rfl rfl (fun _ => rfl) (fun c hc hX => ?_)
 refine Ts hc (Ch.s (dB false) pa (Ch.nil (Ts hc (Ch.s (dS u) pm (Ch.s (dI n) pm ?_)))))
 refine Ch.s (dB (cubeN u n)) (.call 7000 127 _ _ _ en127 rfl (.inl rfl) (.cons (.d _) (.cons (.d _) .nil)) rfl rfl (sp_impl_isCube u n a26) (.skip _ _ (.skip _ _ .nil)) rfl) (Ch.s (dB (cubeN u n)) pm ?_)
 cases h1 : (cubeN u n) with
 | true =>
  refine Ch.s (dS u) pm (Ch.s (dB (dashB u)) (.call 10000 280 _ _ _ en280 rfl (.inl rfl) (.cons (.d _) (.cons (.d _) .nil)) rfl rfl (sp_strings_Contains u) (.skip _ _ (.skip _ _ .nil)) rfl) (Ch.s (dB (!(dashB u))) (nT rfl) (Ch.s (dB (!(dashB u))) (pT rfl) (Ch.s (dB (!(dashB u))) pa (Ch.nil (T_ret ?_))))))
  exact eR [(dB (!(dashB u)))] [] [] (.cons (.tmp 4 rfl) .nil) eB (Exp.of (congrArg D.bool (by first | (simp_all; done) | simp_all [isCodeB])) (.d _))
 | false =>
  refine Ck (Ck (Ck (Ch.s (dB false) (pF rfl) (Ch.s (dB false) pa (Ch.nil (T_ret ?_))))))
  exact eR [(dB false)] [] [] (.cons (.tmp 4 rfl) .nil) eB (Exp.of (congrArg D.bool (by first | (simp_all; done) | simp_all [isCodeB])) (.d _))

theorem any_yes {τ : Type} {l : List τ} {p : τ → Bool} (d : τ) (k : Nat) (hk : k < l.length) (h : p (l.getD k d) = true) : true = l.any p := (List.any_eq_true.2 ⟨_, getD_mem hk, h⟩).symm

theorem any_no {τ : Type} {l : List τ} {p : τ → Bool} (d : τ) (h : ∀ j, j < l.length → p (l.getD j d) = false) : false = l.any p := by
 symm
 rw [List.any_eq_false]
 intro x hx
 obtain ⟨j, hj, rfl⟩ := List.mem_iff_getElem.1 hx
 have := h j hj
 simp [hj] at this
 simp [this]

theorem sp_spec_l13In (xs : List (List UInt8)) (u : List UInt8) (hn : xs.length ≤ 1048576) (hx : ∀ a ∈ xs, a.length ≤ u.length) (hu : u.length ≤ 1048576) : Sp Tryz.prog 254 [(.slice false 1 (xs.map D.str)), (.str u)] [.any, .any] (.bool (inB xs u)) := by
 refine Sp_intro (lend := true) Tryz.func254 rfl rfl rfl (fun _ => rfl) (fun c hc hX => ?_)
 refine Ts hc (Ch.s (dB false) pa (Ch.nil (Tq (Ts hc (Ch.s (.d (.slice false 1 (xs.map D.str))) pm ?_)))))
 refine Ch.s (dI (xs.length : Int)) (.pure (.len _ _ 9 rfl Tryz.underlying23 (.sh _ _) (by simp))) (Ch.s (dI 0) pm (Ch.nil (Tb ?_)))
 refine T_loop (ι := Nat) (fun k => { n := 17, sl := [(1, (dS u)), (7, (.d (.slice false 1 (xs.map D.str)))), (8, (dI (xs.length : Int))), (9, (dI (k : Int)))], hp := [], pin := [] }) (fun k => k ≤ xs.length ∧ ∀ j, j < k → hasB (xs.getD j default) u = false) (fun k => xs.length - k) ⟨0, ⟨by omega, fun j hj => by omega⟩, (Wk.of rfl rfl (ar (ar (ar (ai (vI a126) trivial)))) trivial)⟩ (fun k hp0 => ?_)
 refine Ts hc (Ch.s (dB (decide ((k : Int) < (xs.length : Int)))) (iX rfl rfl rfl) (Ch.nil (Tq ?_)))
 refine T_condD (p := ((k : Int) < (xs.length : Int))) rfl (fun h1 => ?_) (fun h1 => ?_)
 ·
  try have hk := hx _ (getD_mem (l := xs) (j := k) (d := default) (by omega))
  refine Tk (Tq (Tb (Ts hc (Ch.s (.d (.ref (.str (xs.getD k default)))) (.pure (.idx _ _ _ 9 (k) rfl Tryz.underlying23 sz9 rfl rfl rfl get_mapA)) (Ch.s (dS (xs.getD k default)) (rF ag9 rfl rfl) (Ch.s (dS (xs.getD k default)) pa ?_))))))
  refine Ch.nil (Ts hc (Ch.s (dS (xs.getD k default)) pm (Ch.s (dS u) pm (Ch.s (dB (hasB (xs.getD k default) u)) (.call 15000 197 _ _ _ en197 rfl (.inl rfl) (.cons (.d _) (.cons (.d _) .nil)) rfl rfl (sp_spec_l13Has (xs.getD k default) u a26 a26) (.skip _ _ (.skip _ _ .nil)) rfl) (Ch.nil ?_)))))
  refine T_cond (b := (hasB (xs.getD k default) u)) rfl (fun h2 => ?_) (fun h2 => ?_)
  ·
   refine Ts hc (Ch.s (dB true) pa (Ch.nil (T_ret ?_)))
   exact eR [(dB true)] [] [] (.cons (.tmp 4 rfl) .nil) eB (Exp.of (congrArg D.bool (by exact any_yes default k (by omega) (by assumption))) (.d _))
  ·
   refine Tk (Tz hc (Ch.s (dI ((k : Int) + 1)) (iX rfl rfl intV_addA) (Ch.s (dI ((k : Int) + 1)) pm (Ch.nil ?_))))
   exact nx (k + 1) ⟨by omega, upto_succ hp0.2 (by assumption)⟩ (Wk.of rfl rfl (ar (ar (ar (ai (vI a126) trivial)))) trivial)
 ·
  try have hk := hx _ (getD_mem (l := xs) (j := k) (d := default) (by omega))
  refine T_exit (Ts hc (Ch.s (dB false) pa (Ch.nil (T_ret ?_))))
  exact eR [(dB false)] [] [] (.cons (.tmp 4 rfl) .nil) eB (Exp.of (congrArg D.bool a124) (.d _))

theorem en149 : Enters Tryz.prog 149 := ⟨_, Tryz.func149, by kernel_rfl, rfl⟩

theorem en163 : Enters Tryz.prog 163 := ⟨_, Tryz.func163, by kernel_rfl, rfl⟩

theorem en256 : Enters Tryz.prog 256 := ⟨_, Tryz.func256, by kernel_rfl, rfl⟩

theorem en205 : Enters Tryz.prog 205 := ⟨_, Tryz.func205, by kernel_rfl, rfl⟩

theorem en79 : Enters Tryz.prog 79 := ⟨_, Tryz.func79, by kernel_rfl, rfl⟩

theorem ag23 : AggIs Tryz.prog 23 false := by unfold AggIs; kernel_rfl

theorem en81 : Enters Tryz.prog 81 := ⟨_, Tryz.func81, by kernel_rfl, rfl⟩

theorem en212 : Enters Tryz.prog 212 := ⟨_, Tryz.func212, by kernel_rfl, rfl⟩

theorem en213 : Enters Tryz.prog 213 := ⟨_, Tryz.func213, by kernel_rfl, rfl⟩

def hasS (xs : List (List UInt8)) (u : List UInt8) : Bool := xs.any fun a => decide (a = u)

def upB (xs : List (List UInt8)) (j : Nat) : Bool := decide (j = 0) || Op.bytesLess (xs.getD (j - 1) default) (xs.getD j default)

def codesB (n : Int) (xs : List (List UInt8)) : Bool := allB xs.length fun j => codeN (xs.getD j default) n && upB xs j

def codesI (n : Int) (xs : List (List UInt8)) : Bool := allB xs.length fun j => isCodeB (xs.getD j default) n && upB xs j

def onoffB (n : Int) (xs ys : List (List UInt8)) : Bool := withinB n 1 8 && (decide ((xs.length : Int) ≤ 64) && (decide ((ys.length : Int) ≤ 256) && (codesB n xs && (codesB n ys && allOf xs (fun u => !hasS ys u)))))

theorem codesI_eq {n : Int} (h : withinB n 1 8 = true) (xs : List (List UInt8)) : codesI n xs = codesB n xs := by
 unfold codesI codesB
 apply allB_congr
 intro j _
 rw [code_eq, h, Bool.and_true]

theorem has_any (xs ys : List (List UInt8)) : (xs.any fun u => hasS ys u) = !allOf xs (fun u => !hasS ys u) := by
 rw [← any_not]; congr 1; funext u; rw [Bool.not_not]

theorem onoff_impl (n : Int) (xs ys : List (List UInt8)) : onoffB n xs ys = (withinB n 1 8 && ((codesI n xs && decide ((xs.length : Int) ≤ 64)) && ((codesI n ys && decide ((ys.length : Int) ≤ 256)) && !(xs.any fun u => hasS ys u)))) := by
  unfold onoffB
  cases hw : withinB n 1 8 with
  | false => rfl
  | true =>
    rw [codesI_eq hw, codesI_eq hw, has_any, Bool.not_not]
    cases codesB n xs <;> cases codesB n ys <;> cases decide ((xs.length : Int) ≤ 64) <;> cases decide ((ys.length : Int) ≤ 256) <;> simp

theorem sp_spec_l1HasS (xs : List (List UInt8)) (u : List UInt8) (hn : xs.length ≤ 1048576) : Sp Tryz.prog 79 [(.slice false 1 (xs.map D.str)), (.str u)] [.any, .any] (.bool (hasS xs u)) := by
 refine Sp_intro (lend := true) Tryz.func79 rfl rfl rfl (fun _ => rfl) (fun c hc hX => ?_)
 refine Ts hc (Ch.s (dB false) pa (Ch.nil (Tq (Ts hc (Ch.s (.d (.slice false 1 (xs.map D.str))) pm ?_)))))
 refine Ch.s (dI (xs.length : Int)) (.pure (.len _ _ 9 rfl Tryz.underlying23 (.sh _ _) (by simp))) (Ch.s (dI 0) pm (Ch.nil (Tb ?_)))
 refine T_loop (ι := Nat) (fun k => { n := 17, sl := [(1, (dS u)), (7, (.d (.slice false 1 (xs.map D.str)))), (8, (dI (xs.length : Int))), (9, (dI (k : Int)))], hp := [], pin := [] }) (fun k => k ≤ xs.length ∧ ∀ j, j < k → decide (xs.getD j default = u) = false) (fun k => xs.length - k) ⟨0, ⟨by omega, fun j hj => by omega⟩, (Wk.of rfl rfl (ar (ar (ar (ai (vI a126) trivial)))) trivial)⟩ (fun k hp0 => ?_)
 refine Ts hc (Ch.s (dB (decide ((k : Int) < (xs.length : Int)))) (iX rfl rfl rfl) (Ch.nil (Tq ?_)))
 refine T_condD (p := ((k : Int) < (xs.length : Int))) rfl (fun h1 => ?_) (fun h1 => ?_)
 ·
  refine Tk (Tq (Tb (Ts hc (Ch.s (.d (.ref (.str (xs.getD k default)))) (.pure (.idx _ _ _ 9 (k) rfl Tryz.underlying23 sz9 rfl rfl rfl get_mapA)) (Ch.s (dS (xs.getD k default)) (rF ag9 rfl rfl) (Ch.s (dS (xs.getD k default)) pa ?_))))))
  refine Ch.nil (Ts hc (Ch.s (dS (xs.getD k default)) pm (Ch.s (dS u) pm (Ch.s (dB (decide ((xs.getD k default) = u))) (.pure (.str _ _ _ _ _ rfl rfl rfl rfl)) (Ch.nil ?_)))))
  refine T_condD (p := ((xs.getD k default) = u)) rfl (fun h2 => ?_) (fun h2 => ?_)
  ·
   refine Ts hc (Ch.s (dB true) pa (Ch.nil (T_ret ?_)))
   exact eR [(dB true)] [] [] (.cons (.tmp 4 rfl) .nil) eB (Exp.of (congrArg D.bool (by exact any_yes default k (by omega) (by simp_all))) (.d _))
  ·
   refine Tk (Tz hc (Ch.s (dI ((k : Int) + 1)) (iX rfl rfl intV_addA) (Ch.s (dI ((k : Int) + 1)) pm (Ch.nil ?_))))
   exact nx (k + 1) ⟨by omega, upto_succ hp0.2 a103⟩ (Wk.of rfl rfl (ar (ar (ar (ai (vI a126) trivial)))) trivial)
 ·
  refine T_exit (Ts hc (Ch.s (dB false) pa (Ch.nil (T_ret ?_))))
  exact eR [(dB false)] [] [] (.cons (.tmp 4 rfl) .nil) eB (Exp.of (congrArg D.bool a124) (.d _))

theorem sp_Index_str (xs : List (List UInt8)) (u : List UInt8) (hn : xs.length ≤ 1048576) : Sp Tryz.prog 149 [(.slice false 1 (xs.map D.str)), (.str u)] [.any, .any] (.int .i64 (ixF (fun a => decide (a = u)) xs)) := by
 refine Sp_intro (lend := true) Tryz.func149 rfl rfl rfl (fun _ => rfl) (fun c hc hX => ?_)
 refine Ts hc (Ch.s (dI 0) pa (Ch.nil (Tq (Ts hc (Ch.s (.d (.slice false 1 (xs.map D.str))) pm ?_)))))
 refine Ch.s (dI (xs.length : Int)) (.pure (.len _ _ 9 rfl Tryz.underlying23 (.sh _ _) (by simp))) (Ch.s (dI 0) pm (Ch.nil (Tb ?_)))
 refine T_loop (ι := Nat) (fun k => { n := 19, sl := [(0, (.d (.slice false 1 (xs.map D.str)))), (1, (dS u)), (7, (dI (xs.length : Int))), (8, (dI (k : Int)))], hp := [], pin := [] }) (fun k => k ≤ xs.length ∧ ∀ j, j < k → decide (xs.getD j default = u) = false) (fun k => xs.length - k) ⟨0, ⟨by omega, fun j hj => by omega⟩, (Wk.of rfl rfl (ar (ar (ar (ai (vI a126) trivial)))) trivial)⟩ (fun k hp0 => ?_)
 refine Ts hc (Ch.s (dB (decide ((k : Int) < (xs.length : Int)))) (iX rfl rfl rfl) (Ch.nil (Tq ?_)))
 refine T_condD (p := ((k : Int) < (xs.length : Int))) rfl (fun h1 => ?_) (fun h1 => ?_)
 ·
  refine Tk (Tq (Tb (Ts hc (Ch.s (dI (k : Int)) pm (Ch.s (dI (k : Int)) pa (Ch.nil ?_))))))
  refine Ts hc (Ch.s (dS u) pm (Ch.s (.d (.slice false 1 (xs.map D.str))) pm (Ch.s (dI (k : Int)) pm (Ch.s (.d (.ref (.str (xs.getD k default)))) (.pure (.idx _ _ _ 9 (k) rfl Tryz.underlying23 sz9 rfl rfl rfl get_mapA)) (Ch.s (dS (xs.getD k default)) (rF ag9 rfl rfl) (Ch.s (dB (decide (u = (xs.getD k default)))) (.pure (.str _ _ _ _ _ rfl rfl rfl rfl)) ?_))))))
  refine Ch.nil ?_
  refine T_condD (p := (u = (xs.getD k default))) rfl (fun h2 => ?_) (fun h2 => ?_)
  ·
   refine Ts hc (Ch.s (dI (k : Int)) pm (Ch.s (dI (k : Int)) pa (Ch.nil (T_ret ?_))))
   exact eR [(dI (k : Int))] [] [] (.cons (.tmp 4 rfl) .nil) eB (Exp.of (congrArg (D.int .i64) (by exact (ixF_some (d := default) (by omega) hp0.2 (by simp_all)).symm)) (.d _))
  ·
   refine Tk (Tz hc (Ch.s (dI ((k : Int) + 1)) (iX rfl rfl intV_addA) (Ch.s (dI ((k : Int) + 1)) pm (Ch.nil ?_))))
   exact nx (k + 1) ⟨by omega, upto_succ hp0.2 a103⟩ (Wk.of rfl rfl (ar (ar (ar (ai (vI a126) trivial)))) trivial)
 ·
  refine T_exit (Ts hc (Ch.s (dI (-1)) pa (Ch.nil (T_ret ?_))))
  exact eR [(dI (-1))] [] [] (.cons (.tmp 4 rfl) .nil) eB (Exp.of (congrArg (D.int .i64) a107) (.d _))

theorem sp_Contains_str (xs : List (List UInt8)) (u : List UInt8) (hn : xs.length ≤ 1048576) : Sp Tryz.prog 81 [(.slice false 1 (xs.map D.str)), (.str u)] [.any, .any] (.bool (hasS xs u)) := by
 refine Sp_intro (lend := true) Tryz.func81 rfl rfl rfl (fun _ => rfl) (fun c hc hX => ?_)
 refine Ts hc (Ch.s (dB false) pa (Ch.nil (Ts hc (Ch.s (.d (.slice false 1 (xs.map D.str))) pm (Ch.s (dS u) pm ?_)))))
 refine Ch.s (dI (ixF (fun a => decide (a = u)) xs)) (.call 7000 149 _ _ _ en149 rfl (.inl rfl) (.cons (.d _) (.cons (.d _) .nil)) rfl rfl (sp_Index_str xs u a26) (.skip _ _ (.skip _ _ .nil)) rfl) (Ch.s (dB (decide (0 ≤ (ixF (fun a => decide (a = u)) xs)))) (iX rfl rfl rfl) (Ch.s (dB (decide (0 ≤ (ixF (fun a => decide (a = u)) xs)))) pa (Ch.nil (T_ret ?_))))
 exact eR [(dB (decide (0 ≤ (ixF (fun a => decide (a = u)) xs))))] [] [] (.cons (.tmp 4 rfl) .nil) eB (Exp.of (congrArg D.bool (by exact ixF_nonneg _ xs)) (.d _))

theorem sp_spec_l14Codes (n : Int) (xs : List (List UInt8)) (hn : xs.length ≤ 1048576) (hx : ∀ x ∈ xs, x.length ≤ 1048576) : Sp Tryz.prog 205 [(.int .i64 n), (.slice false 1 (xs.map D.str))] [.any, .any] (.bool (codesB n xs)) := by
 refine Sp_intro (lend := true) Tryz.func205 rfl rfl rfl (fun _ => rfl) (fun c hc hX => ?_)
 refine Ts hc (Ch.s (dB false) pa (Ch.nil (Tq (Ts hc (Ch.s (.d (.slice false 1 (xs.map D.str))) pm ?_)))))
 refine Ch.s (dI (xs.length : Int)) (.pure (.len _ _ 9 rfl Tryz.underlying23 (.sh _ _) (by simp))) (Ch.s (dI 0) pm (Ch.nil (Tb ?_)))
 refine T_loop (ι := Nat) (fun k => { n := 32, sl := [(0, (dI n)), (1, (.d (.slice false 1 (xs.map D.str)))), (7, (.d (.slice false 1 (xs.map D.str)))), (8, (dI (xs.length : Int))), (9, (dI (k : Int)))], hp := [], pin := [] }) (fun k => k ≤ xs.length ∧ ∀ j, j < k → (codeN (xs.getD j default) n && upB xs j) = true) (fun k => xs.length - k) ⟨0, ⟨by omega, fun j hj => by omega⟩, (Wk.of rfl rfl (ar (ar (ar (ar (ai (vI a126) trivial))))) trivial)⟩ (fun k hp0 => ?_)
 refine Ts hc (Ch.s (dB (decide ((k : Int) < (xs.length : Int)))) (iX rfl rfl rfl) (Ch.nil (Tq ?_)))
 refine T_condD (p := ((k : Int) < (xs.length : Int))) rfl (fun h1 => ?_) (fun h1 => ?_)
 ·
  refine Tk (Tq (Tb (Ts hc (Ch.s (dI (k : Int)) pm (Ch.s (.d (.ref (.str (xs.getD k default)))) (.pure (.idx _ _ _ 9 (k) rfl Tryz.underlying23 sz9 rfl rfl rfl get_mapA)) (Ch.s (dS (xs.getD k default)) (rF ag9 rfl rfl) ?_))))))
  refine Ch.s (dI (k : Int)) pa (Ch.s (dS (xs.getD k default)) pa (Ch.nil (Ts hc (Ch.s (dS (xs.getD k default)) pm (Ch.s (dI n) pm (Ch.s (dB (codeN (xs.getD k default) n)) (.call 16000 163 _ _ _ en163 rfl (.inl rfl) (.cons (.d _) (.cons (.d _) .nil)) rfl rfl (sp_spec_l5Code (xs.getD k default) n a26) (.skip _ _ (.skip _ _ .nil)) rfl) ?_))))))
  refine Ch.s (dB (!(codeN (xs.getD k default) n))) (nT rfl) (Ch.s (dB (!(codeN (xs.getD k default) n))) pm ?_)
  cases h2 : (codeN (xs.getD k default) n) with
  | true =>
   refine Ch.s (dI (k : Int)) pm (Ch.s (dB (decide (0 < (k : Int)))) (iX rfl rfl rfl) (Ch.s (dB (decide (0 < (k : Int)))) pm ?_))
   cases h3 : (decide (0 < (k : Int))) with
   | true =>
    replace h3 := odt h3
    refine Ch.s (.d (.slice false 1 (xs.map D.str))) pm (Ch.s (dI (k : Int)) pm (Ch.s (dI ((k : Int) - 1)) (iX rfl rfl intV_subA) (Ch.s (.d (.ref (.str (xs.getD (k - 1) default)))) (.pure (.idx _ _ _ 9 ((k - 1)) rfl Tryz.underlying23 sz9 rfl rfl (by omega) get_mapA)) (Ch.s (dS (xs.getD (k - 1) default)) (rF ag9 rfl rfl) (Ch.s (dS (xs.getD k default)) pm (Ch.s (dB (!(Op.bytesLess (xs.getD (k - 1) default) (xs.getD k default)))) (.pure (.str _ _ _ _ _ rfl rfl rfl rfl)) (Ch.s (dB (!(Op.bytesLess (xs.getD (k - 1) default) (xs.getD k default)))) (pT rfl) ?_)))))))
    refine Ch.s (dB (!(Op.bytesLess (xs.getD (k - 1) default) (xs.getD k default)))) (pF rfl) (Ch.nil ?_)
    refine T_condN (b := (Op.bytesLess (xs.getD (k - 1) default) (xs.getD k default))) rfl (fun h4 => ?_) (fun h4 => ?_)
    ·
     refine Ts hc (Ch.s (dB false) pa (Ch.nil (T_ret ?_)))
     exact eR [(dB false)] [] [] (.cons (.tmp 4 rfl) .nil) eB (Exp.of (congrArg D.bool a50) (.d _))
    ·
     refine Tk (Tz hc (Ch.s (dI ((k : Int) + 1)) (iX rfl rfl intV_addA) (Ch.s (dI ((k : Int) + 1)) pm (Ch.nil ?_))))
     exact nx (k + 1) ⟨by omega, upto_succ hp0.2 a120⟩ (Wk.of rfl rfl (ar (ar (ar (ar (ai (vI a126) trivial))))) trivial)
   | false =>
    replace h3 := odf h3
    refine Ck (Ck (Ck (Ck (Ck (Ck (Ck (Ch.s (dB false) (pF rfl) ?_)))))))
    refine Ch.s (dB false) (pF rfl) (Ch.nil ?_)
    refine T_cond (b := false) rfl (fun h => nomatch h) (fun _ => ?_)
    refine Tk (Tz hc (Ch.s (dI ((k : Int) + 1)) (iX rfl rfl intV_addA) (Ch.s (dI ((k : Int) + 1)) pm (Ch.nil ?_))))
    exact nx (k + 1) ⟨by omega, upto_succ hp0.2 a120⟩ (Wk.of rfl rfl (ar (ar (ar (ar (ai (vI a126) trivial))))) trivial)
  | false =>
   refine Ck (Ck (Ck (Ck (Ck (Ck (Ck (Ch.skip rfl rfl ?_)))))))
   refine Ck (Ck (Ck (Ch.s (dB true) (pT rfl) (Ch.nil ?_))))
   refine T_cond (b := true) rfl (fun _ => ?_) (fun h => nomatch h)
   refine Ts hc (Ch.s (dB false) pa (Ch.nil (T_ret ?_)))
   exact eR [(dB false)] [] [] (.cons (.tmp 4 rfl) .nil) eB (Exp.of (congrArg D.bool a50) (.d _))
 ·
  refine T_exit (Ts hc (Ch.s (dB true) pa (Ch.nil (T_ret ?_))))
  exact eR [(dB true)] [] [] (.cons (.tmp 4 rfl) .nil) eB (Exp.of (congrArg D.bool a50) (.d _))

theorem sp_impl_areCodes (n : Int) (xs : List (List UInt8)) (most : Int) (hn : xs.length ≤ 1048576) (hx : ∀ x ∈ xs, x.length ≤ 1048576) : Sp Tryz.prog 212 [(.int .i64 n), (.slice false 1 (xs.map D.str)), (.int .i64 most)] [.any, .any, .any] (.bool (codesI n xs && decide ((xs.length : Int) ≤ most))) := by
 refine Sp_intro (lend := true) Tryz.func212 rfl rfl rfl (fun _ => rfl) (fun c hc hX => ?_)
 refine Ts hc (Ch.s (dB false) pa (Ch.nil (Tq (Ts hc (Ch.s (.d (.slice false 1 (xs.map D.str))) pm ?_)))))
 refine Ch.s (dI (xs.length : Int)) (.pure (.len _ _ 9 rfl Tryz.underlying23 (.sh _ _) (by simp))) (Ch.s (dI 0) pm (Ch.nil (Tb ?_)))
 refine T_loop (ι := Nat) (fun k => { n := 38, sl := [(0, (dI n)), (1, (.d (.slice false 1 (xs.map D.str)))), (2, (dI most)), (9, (.d (.slice false 1 (xs.map D.str)))), (10, (dI (xs.length : Int))), (11, (dI (k : Int)))], hp := [], pin := [] }) (fun k => k ≤ xs.length ∧ ∀ j, j < k → (isCodeB (xs.getD j default) n && upB xs j) = true) (fun k => xs.length - k) ⟨0, ⟨by omega, fun j hj => by omega⟩, (Wk.of rfl rfl (ar (ar (ar (ar (ar (ai (vI a126) trivial)))))) trivial)⟩ (fun k hp0 => ?_)
 refine Ts hc (Ch.s (dB (decide ((k : Int) < (xs.length : Int)))) (iX rfl rfl rfl) (Ch.nil (Tq ?_)))
 refine T_condD (p := ((k : Int) < (xs.length : Int))) rfl (fun h1 => ?_) (fun h1 => ?_)
 ·
  refine Tk (Tq (Tb (Ts hc (Ch.s (dI (k : Int)) pm (Ch.s (.d (.ref (.str (xs.getD k default)))) (.pure (.idx _ _ _ 9 (k) rfl Tryz.underlying23 sz9 rfl rfl rfl get_mapA)) (Ch.s (dS (xs.getD k default)) (rF ag9 rfl rfl) ?_))))))
  refine Ch.s (dI (k : Int)) pa (Ch.s (dS (xs.getD k default)) pa (Ch.nil (Ts hc (Ch.s (dS (xs.getD k default)) pm (Ch.s (dI n) pm (Ch.s (dB (isCodeB (xs.getD k default) n)) (.call 18000 256 _ _ _ en256 rfl (.inl rfl) (.cons (.d _) (.cons (.d _) .nil)) rfl rfl (sp_impl_isCode (xs.getD k default) n a26) (.skip _ _ (.skip _ _ .nil)) rfl) ?_))))))
  refine Ch.s (dB (!(isCodeB (xs.getD k default) n))) (nT rfl) (Ch.s (dB (!(isCodeB (xs.getD k default) n))) pm ?_)
  cases h2 : (isCodeB (xs.getD k default) n) with
  | true =>
   refine Ch.s (dI (k : Int)) pm (Ch.s (dB (decide (0 < (k : Int)))) (iX rfl rfl rfl) (Ch.s (dB (decide (0 < (k : Int)))) pm ?_))
   cases h3 : (decide (0 < (k : Int))) with
   | true =>
    replace h3 := odt h3
    refine Ch.s (.d (.slice false 1 (xs.map D.str))) pm (Ch.s (dI (k : Int)) pm (Ch.s (dI ((k : Int) - 1)) (iX rfl rfl intV_subA) (Ch.s (.d (.ref (.str (xs.getD (k - 1) default)))) (.pure (.idx _ _ _ 9 ((k - 1)) rfl Tryz.underlying23 sz9 rfl rfl (by omega) get_mapA)) (Ch.s (dS (xs.getD (k - 1) default)) (rF ag9 rfl rfl) (Ch.s (dS (xs.getD k default)) pm (Ch.s (dB (!(Op.bytesLess (xs.getD (k - 1) default) (xs.getD k default)))) (.pure (.str _ _ _ _ _ rfl rfl rfl rfl)) (Ch.s (dB (!(Op.bytesLess (xs.getD (k - 1) default) (xs.getD k default)))) (pT rfl) ?_)))))))
    refine Ch.s (dB (!(Op.bytesLess (xs.getD (k - 1) default) (xs.getD k default)))) (pF rfl) (Ch.nil ?_)
    refine T_condN (b := (Op.bytesLess (xs.getD (k - 1) default) (xs.getD k default))) rfl (fun h4 => ?_) (fun h4 => ?_)
    ·
     refine Ts hc (Ch.s (dB false) pa (Ch.nil (T_ret ?_)))
     exact eR [(dB false)] [] [] (.cons (.tmp 6 rfl) .nil) eC (Exp.of (congrArg D.bool a44) (.d _))
    ·
     refine Tk (Tz hc (Ch.s (dI ((k : Int) + 1)) (iX rfl rfl intV_addA) (Ch.s (dI ((k : Int) + 1)) pm (Ch.nil ?_))))
     exact nx (k + 1) ⟨by omega, upto_succ hp0.2 a120⟩ (Wk.of rfl rfl (ar (ar (ar (ar (ar (ai (vI a126) trivial)))))) trivial)
   | false =>
    replace h3 := odf h3
    refine Ck (Ck (Ck (Ck (Ck (Ck (Ck (Ch.s (dB false) (pF rfl) ?_)))))))
    refine Ch.s (dB false) (pF rfl) (Ch.nil ?_)
    refine T_cond (b := false) rfl (fun h => nomatch h) (fun _ => ?_)
    refine Tk (Tz hc (Ch.s (dI ((k : Int) + 1)) (iX rfl rfl intV_addA) (Ch.s (dI ((k : Int) + 1)) pm (Ch.nil ?_))))
    exact nx (k + 1) ⟨by omega, upto_succ hp0.2 a120⟩ (Wk.of rfl rfl (ar (ar (ar (ar (ar (ai (vI a126) trivial)))))) trivial)
  | false =>
   refine Ck (Ck (Ck (Ck (Ck (Ck (Ck (Ch.skip rfl rfl ?_)))))))
   refine Ck (Ck (Ck (Ch.s (dB true) (pT rfl) (Ch.nil ?_))))
   refine T_cond (b := true) rfl (fun _ => ?_) (fun h => nomatch h)
   refine Ts hc (Ch.s (dB false) pa (Ch.nil (T_ret ?_)))
   exact eR [(dB false)] [] [] (.cons (.tmp 6 rfl) .nil) eC (Exp.of (congrArg D.bool a44) (.d _))
 ·
  refine T_exit (Ts hc (Ch.s (.d (.slice false 1 (xs.map D.str))) pm (Ch.s (dI (xs.length : Int)) (.pure (.len _ _ 9 rfl Tryz.underlying23 (.sh _ _) (by simp))) (Ch.s (dI most) pm (Ch.s (dB (decide ((xs.length : Int) ≤ most))) (iX rfl rfl rfl) (Ch.s (dB (decide ((xs.length : Int) ≤ most))) pa ?_))))))
  refine Ch.nil (T_ret ?_)
  exact eR [(dB (decide ((xs.length : Int) ≤ most)))] [] [] (.cons (.tmp 6 rfl) .nil) eC (Exp.of (congrArg D.bool a44) (.d _))

theorem sp_spec_l14Sets (n : Int) (xs ys : List (List UInt8)) (hn : xs.length ≤ 1048576) (hx : ∀ x ∈ xs, x.length ≤ 1048576) (hm : ys.length ≤ 1048576) (hy : ∀ x ∈ ys, x.length ≤ 1048576) : Sp Tryz.prog 136 [(.int .i64 n), (.slice false 1 (xs.map D.str)), (.slice false 1 (ys.map D.str))] [.any, .any, .any] (.bool (onoffB n xs ys)) := by
 refine Sp_intro (lend := true) Tryz.func136 rfl rfl rfl (fun _ => rfl) (fun c hc hX => ?_)
 refine Ts hc (Ch.s (dB false) pa (Ch.nil (Tq (Ts hc (Ch.s (dI n) pm ?_)))))
 refine Ch.s (dB (withinB n 1 8)) (.call 10000 89 _ _ _ en89 rfl (.inl rfl) (.cons (.d _) (.cons (.d _) (.cons (.d _) .nil))) rfl rfl (sp_spec_l1In n 1 8) (.skip _ _ (.skip _ _ (.skip _ _ .nil))) rfl) (Ch.s (dB (!(withinB n 1 8))) (nT rfl) (Ch.s (dB (!(withinB n 1 8))) pm ?_))
 cases h1 : (withinB n 1 8) with
 | true =>
  refine Ch.s (.d (.slice false 1 (xs.map D.str))) pm (Ch.s (dI (xs.length : Int)) (.pure (.len _ _ 9 rfl Tryz.underlying23 (.sh _ _) (by simp))) (Ch.s (dB (decide (64 < (xs.length : Int)))) (iX rfl rfl rfl) (Ch.s (dB (decide (64 < (xs.length : Int)))) (pF rfl) (Ch.s (dB (decide (64 < (xs.length : Int)))) pm ?_))))
  cases h2 : (decide (64 < (xs.length : Int))) with
  | true =>
   replace h2 := odt h2
   refine Ck (Ck (Ck (Ch.s (dB true) (pT rfl) (Ch.s (dB true) pm (Ck (Ck (Ch.skip rfl rfl ?_)))))))
   refine Ck (Ch.s (dB true) (pT rfl) (Ch.s (dB true) pm (Ck (Ck (Ck (Ck (Ch.s (dB true) (pT rfl) ?_)))))))
   refine Ch.nil ?_
   refine T_cond (b := true) rfl (fun _ => ?_) (fun h => nomatch h)
   refine Ts hc (Ch.s (dB false) pa (Ch.nil (T_ret ?_)))
   exact eR [(dB false)] [] [] (.cons (.tmp 6 rfl) .nil) eC (Exp.of (congrArg D.bool a32) (.d _))
  | false =>
   replace h2 := odf h2
   refine Ch.s (.d (.slice false 1 (ys.map D.str))) pm (Ch.s (dI (ys.length : Int)) (.pure (.len _ _ 9 rfl Tryz.underlying23 (.sh _ _) (by simp))) (Ch.s (dB (decide (256 < (ys.length : Int)))) (iX rfl rfl rfl) (Ch.s (dB (decide (256 < (ys.length : Int)))) (pF rfl) (Ch.s (dB (decide (256 < (ys.length : Int)))) pm ?_))))
   cases h3 : (decide (256 < (ys.length : Int))) with
   | true =>
    replace h3 := odt h3
    refine Ck (Ck (Ck (Ck (Ch.s (dB true) (pT rfl) (Ch.s (dB true) pm (Ck (Ch.skip rfl rfl ?_)))))))
    refine Ck (Ck (Ch.s (dB true) (pT rfl) (Ch.nil ?_)))
    refine T_cond (b := true) rfl (fun _ => ?_) (fun h => nomatch h)
    refine Ts hc (Ch.s (dB false) pa (Ch.nil (T_ret ?_)))
    exact eR [(dB false)] [] [] (.cons (.tmp 6 rfl) .nil) eC (Exp.of (congrArg D.bool a32) (.d _))
   | false =>
    replace h3 := odf h3
    refine Ch.s (dI n) pm (Ch.s (.d (.slice false 1 (xs.map D.str))) pm (Ch.s (dB (codesB n xs)) (.call 25000 205 _ _ _ en205 rfl (.inl rfl) (.cons (.d _) (.cons (.d _) .nil)) rfl rfl (sp_spec_l14Codes n xs a26 a26) (.skip _ _ (.skip _ _ .nil)) rfl) (Ch.s (dB (!(codesB n xs))) (nT rfl) (Ch.s (dB (!(codesB n xs))) (pF rfl) (Ch.s (dB (!(codesB n xs))) pm ?_)))))
    cases h4 : (codesB n xs) with
    | true =>
     refine Ch.s (dI n) pm (Ch.s (.d (.slice false 1 (ys.map D.str))) pm (Ch.s (dB (codesB n ys)) (.call 31000 205 _ _ _ en205 rfl (.inl rfl) (.cons (.d _) (.cons (.d _) .nil)) rfl rfl (sp_spec_l14Codes n ys a26 a26) (.skip _ _ (.skip _ _ .nil)) rfl) (Ch.s (dB (!(codesB n ys))) (nT rfl) (Ch.s (dB (!(codesB n ys))) (pF rfl) (Ch.nil ?_)))))
     refine T_condN (b := (codesB n ys)) rfl (fun h5 => ?_) (fun h5 => ?_)
     ·
      refine Ts hc (Ch.s (dB false) pa (Ch.nil (T_ret ?_)))
      exact eR [(dB false)] [] [] (.cons (.tmp 6 rfl) .nil) eC (Exp.of (congrArg D.bool a32) (.d _))
     ·
      refine Tk (Tq (Ts hc (Ch.s (.d (.slice false 1 (xs.map D.str))) pm (Ch.s (dI (xs.length : Int)) (.pure (.len _ _ 9 rfl Tryz.underlying23 (.sh _ _) (by simp))) (Ch.s (dI 0) pm (Ch.nil ?_))))))
      refine Tb ?_
      refine T_loop (ι := Nat) (fun k => { n := 44, sl := [(2, (.d (.slice false 1 (ys.map D.str)))), (34, (.d (.slice false 1 (xs.map D.str)))), (35, (dI (xs.length : Int))), (36, (dI (k : Int)))], hp := [], pin := [] }) (fun k => k ≤ xs.length ∧ ∀ j, j < k → (!hasS ys (xs.getD j default)) = true) (fun k => xs.length - k) ⟨0, ⟨by omega, fun j hj => by omega⟩, (Wk.of rfl rfl (ar (ar (ar (ai (vI a126) trivial)))) trivial)⟩ (fun k hp0 => ?_)
      refine Ts hc (Ch.s (dB (decide ((k : Int) < (xs.length : Int)))) (iX rfl rfl rfl) (Ch.nil (Tq ?_)))
      refine T_condD (p := ((k : Int) < (xs.length : Int))) rfl (fun h6 => ?_) (fun h6 => ?_)
      ·
       refine Tk (Tq (Tb (Ts hc (Ch.s (.d (.ref (.str (xs.getD k default)))) (.pure (.idx _ _ _ 9 (k) rfl Tryz.underlying23 sz9 rfl rfl rfl get_mapA)) (Ch.s (dS (xs.getD k default)) (rF ag9 rfl rfl) (Ch.s (dS (xs.getD k default)) pa ?_))))))
       refine Ch.nil (Ts hc (Ch.s (.d (.slice false 1 (ys.map D.str))) pm (Ch.s (dS (xs.getD k default)) pm (Ch.s (dB (hasS ys (xs.getD k default))) (.call 42000 79 _ _ _ en79 rfl (.inl rfl) (.cons (.d _) (.cons (.d _) .nil)) rfl rfl (sp_spec_l1HasS ys (xs.getD k default) a26) (.skip _ _ (.skip _ _ .nil)) rfl) (Ch.nil ?_)))))
       refine T_cond (b := (hasS ys (xs.getD k default))) rfl (fun h7 => ?_) (fun h7 => ?_)
       ·
        refine Ts hc (Ch.s (dB false) pa (Ch.nil (T_ret ?_)))
        exact eR [(dB false)] [] [] (.cons (.tmp 6 rfl) .nil) eC (Exp.of (congrArg D.bool a32) (.d _))
       ·
        refine Tk (Tz hc (Ch.s (dI ((k : Int) + 1)) (iX rfl rfl intV_addA) (Ch.s (dI ((k : Int) + 1)) pm (Ch.nil ?_))))
        exact nx (k + 1) ⟨by omega, upto_succ hp0.2 (by simp_all)⟩ (Wk.of rfl rfl (ar (ar (ar (ai (vI a126) trivial)))) trivial)
      ·
       refine T_exit (Ts hc (Ch.s (dB true) pa (Ch.nil (T_ret ?_))))
       exact eR [(dB true)] [] [] (.cons (.tmp 6 rfl) .nil) eC (Exp.of (congrArg D.bool a32) (.d _))
    | false =>
     refine Ck (Ck (Ck (Ck (Ch.s (dB true) (pT rfl) (Ch.nil ?_)))))
     refine T_cond (b := true) rfl (fun _ => ?_) (fun h => nomatch h)
     refine Ts hc (Ch.s (dB false) pa (Ch.nil (T_ret ?_)))
     exact eR [(dB false)] [] [] (.cons (.tmp 6 rfl) .nil) eC (Exp.of (congrArg D.bool a32) (.d _))
 | false =>
  refine Ck (Ck (Ck (Ch.s (dB true) (pT rfl) (Ch.s (dB true) pm (Ck (Ck (Ch.skip rfl rfl ?_)))))))
  refine Ch.s (dB true) (pT rfl) (Ch.s (dB true) pm (Ck (Ck (Ck (Ck (Ch.s (dB true) (pT rfl) (Ch.s (dB true) pm ?_)))))))
  refine Ck (Ck (Ck (Ck (Ch.s (dB true) (pT rfl) (Ch.nil ?_)))))
  refine T_cond (b := true) rfl (fun _ => ?_) (fun h => nomatch h)
  refine Ts hc (Ch.s (dB false) pa (Ch.nil (T_ret ?_)))
  exact eR [(dB false)] [] [] (.cons (.tmp 6 rfl) .nil) eC (Exp.of (congrArg D.bool a32) (.d _))

theorem sp_impl_IsValidOnOff_1 (u : List UInt8) (ys : List (List UInt8)) (hm : ys.length ≤ 1048576) : Sp Tryz.prog 213 [(.str u), (.ref (.slice false 1 (ys.map D.str)))] [.any, .any] (.bool (hasS ys u)) := by
 refine Sp_intro (lend := true) Tryz.func213 rfl rfl rfl (fun _ => rfl) (fun c hc hX => ?_)
 refine Ts hc (Ch.s (dB false) pa (Ch.nil (Ts hc (Ch.s (.d (.slice false 1 (ys.map D.str))) (rF ag23 rfl rfl) (Ch.s (dS u) pm ?_)))))
 refine Ch.s (dB (hasS ys u)) (.call 6000 81 _ _ _ en81 rfl (.inl rfl) (.cons (.d _) (.cons (.d _) .nil)) rfl rfl (sp_Contains_str ys u a26) (.skip _ _ (.skip _ _ .nil)) rfl) (Ch.s (dB (hasS ys u)) pa (Ch.nil (T_ret ?_)))
 exact eR [(dB (hasS ys u))] [] [] (.cons (.tmp 3 rfl) .nil) eB (.d _)

theorem sp_impl_IsValidOnOff (n : Int) (xs ys : List (List UInt8)) (hn : xs.length ≤ 1048576) (hx : ∀ x ∈ xs, x.length ≤ 1048576) (hm : ys.length ≤ 1048576) (hy : ∀ x ∈ ys, x.length ≤ 1048576) : Sp Tryz.prog 152 [(.int .i64 n), (.slice false 1 (xs.map D.str)), (.slice false 1 (ys.map D.str))] [.any, .any, .any] (.bool (onoffB n xs ys)) := by
 refine Sp_intro (lend := true) Tryz.func152 rfl rfl rfl (fun _ => rfl) (fun c hc hX => ?_)
 refine Ts hc (Ch.s (.ptr 5000 0) (.box 5000 _ _ rfl (.one _ rfl)) (Ch.s (dB false) pa (Ch.nil (Ts hc (Ch.s (dI n) pm ?_)))))
 refine Ch.s (dB (withinB n 1 8)) (.call 8000 91 _ _ _ en91 rfl (.inl rfl) (.cons (.d _) (.cons (.d _) (.cons (.d _) .nil))) rfl rfl (sp_impl_within n 1 8) (.skip _ _ (.skip _ _ (.skip _ _ .nil))) rfl) (Ch.s (dB (withinB n 1 8)) pm ?_)
 cases h1 : (withinB n 1 8) with
 | true =>
  refine Ch.s (dI n) pm (Ch.s (.d (.slice false 1 (xs.map D.str))) pm (Ch.s (dB (codesI n xs && decide ((xs.length : Int) ≤ 64))) (.call 12000 212 _ _ _ en212 rfl (.inl rfl) (.cons (.d _) (.cons (.d _) (.cons (.d _) .nil))) rfl rfl (sp_impl_areCodes n xs 64 a26 a26) (.skip _ _ (.skip _ _ (.skip _ _ .nil))) rfl) (Ch.s (dB (codesI n xs && decide ((xs.length : Int) ≤ 64))) (pT rfl) (Ch.s (dB (codesI n xs && decide ((xs.length : Int) ≤ 64))) pm ?_))))
  cases h2 : (codesI n xs && decide ((xs.length : Int) ≤ 64)) with
  | true =>
   refine Ch.s (dI n) pm (Ch.s (.d (.slice false 1 (ys.map D.str))) (lP ag23 rfl rfl rfl) (Ch.s (dB (codesI n ys && decide ((ys.length : Int) ≤ 256))) (.call 17000 212 _ _ _ en212 rfl (.inl rfl) (.cons (.d _) (.cons (.d _) (.cons (.d _) .nil))) rfl rfl (sp_impl_areCodes n ys 256 a26 a26) (.skip _ _ (.skip _ _ (.skip _ _ .nil))) rfl) (Ch.s (dB (codesI n ys && decide ((ys.length : Int) ≤ 256))) (pT rfl) (Ch.s (dB (codesI n ys && decide ((ys.length : Int) ≤ 256))) pm ?_))))
   cases h3 : (codesI n ys && decide ((ys.length : Int) ≤ 256)) with
   | true =>
    refine Ch.s (.d (.slice false 1 (xs.map D.str))) pm (Ch.s (.fn 213 [(.ptr 5000 0)]) (.pure (.func _ _ rfl rfl)) (Ch.s (dB (xs.any (fun u => hasS ys u))) (.call 22000 178 _ _ _ en178 rfl (.inl rfl) (.cons (.d _) (.cons (.lend (.fn (.cons (.ptr rfl (.one (.d _) rfl)) .nil))) .nil)) rfl rfl (sp_ContainsFunc_str xs 213 [(.ref (.slice false 1 (ys.map D.str)))] (fun u => hasS ys u) en213 (fun u _ => sp_impl_IsValidOnOff_1 u ys a26) a26) (.skip _ _ (.skip _ _ .nil)) rfl) (Ch.s (dB (!(xs.any (fun u => hasS ys u)))) (nT rfl) (Ch.s (dB (!(xs.any (fun u => hasS ys u)))) (pT rfl) (Ch.s (dB (!(xs.any (fun u => hasS ys u)))) pa (Ch.nil (T_ret ?_)))))))
    exact eR [(dB (!(xs.any (fun u => hasS ys u))))] [] [] (.cons (.tmp 6 rfl) .nil) eC (Exp.of (congrArg D.bool a85) (.d _))
   | false =>
    refine Ck (Ck (Ck (Ck (Ch.s (dB false) (pF rfl) (Ch.s (dB false) pa (Ch.nil (T_ret ?_)))))))
    exact eR [(dB false)] [] [] (.cons (.tmp 6 rfl) .nil) eC (Exp.of (congrArg D.bool a85) (.d _))
  | false =>
   refine Ck (Ck (Ck (Ch.s (dB false) (pF rfl) (Ch.s (dB false) pm (Ck (Ck (Ch.skip rfl rfl ?_)))))))
   refine Ck (Ch.s (dB false) (pF rfl) (Ch.s (dB false) pa (Ch.nil (T_ret ?_))))
   exact eR [(dB false)] [] [] (.cons (.tmp 6 rfl) .nil) eC (Exp.of (congrArg D.bool a85) (.d _))
 | false =>
  refine Ck (Ck (Ck (Ch.s (dB false) (pF rfl) (Ch.s (dB false) pm (Ck (Ck (Ch.skip rfl rfl ?_)))))))
  refine Ch.s (dB false) (pF rfl) (Ch.s (dB false) pm (Ck (Ck (Ck (Ck (Ch.s (dB false) (pF rfl) (Ch.s (dB false) pa ?_)))))))
  refine Ch.nil (T_ret ?_)
  exact eR [(dB false)] [] [] (.cons (.tmp 6 rfl) .nil) eC (Exp.of (congrArg D.bool a85) (.d _))

theorem sty164 : SlotTy Tryz.prog 164 5 1 1 := slotTy_mk (by kernel_rfl)

theorem en84 : Enters Tryz.prog 84 := ⟨_, Tryz.func84, by kernel_rfl, rfl⟩

theorem sp_laws_markText (k : Nat) (hk : k ≤ 4194304) : Sp Tryz.prog 84 [(.int .i64 (k : Int))] [.any] (.str (mtext k)) := by
 refine Sp_intro (lend := true) Tryz.func84 rfl rfl rfl (fun _ => rfl) (fun c hc hX => ?_)
 refine Ts hc (Ch.s (dS []) pa (Ch.nil (Tq (Ts hc (Ch.s (dI (k : Int)) pm ?_)))))
 refine Ch.s (dB (decide ((k : Int) ≤ 0))) (iX rfl rfl rfl) (Ch.nil ?_)
 refine T_condD (p := ((k : Int) ≤ 0)) rfl (fun h1 => ?_) (fun h1 => ?_)
 ·
  refine Ts hc (Ch.s (dS [109, 48]) pa (Ch.nil (T_ret ?_)))
  exact eR [(dS [109, 48])] [] [] (.cons (.tmp 2 rfl) .nil) eA (Exp.of (congrArg D.str (by rw [mtext, if_pos (by omega)])) (.d _))
 ·
  refine Tk (Ts hc (Ch.s (dS []) pa (Ch.nil (Tq (Tb ?_)))))
  refine T_loop (ι := Nat × List UInt8) (fun p => { n := 20, sl := [(0, (dI (p.1 : Int))), (3, (dS p.2))], hp := [], pin := [] }) (fun p => p.1 + p.2.length ≤ k ∧ digs p.1 p.2 = digs k []) (fun p => p.1) ⟨(k, []), ⟨by simp, rfl⟩, (Wk.of rfl rfl (ai (vI a126) (ai (vS a126) trivial)) trivial)⟩ (fun p hp0 => ?_)
  refine Tq (Ts hc (Ch.s (dI (p.1 : Int)) pm (Ch.s (dB (decide (0 < (p.1 : Int)))) (iX rfl rfl rfl) (Ch.nil ?_))))
  refine T_condD (p := (0 < (p.1 : Int))) rfl (fun h2 => ?_) (fun h2 => ?_)
  ·
   refine Tk (Tb (Ts hc (Ch.s (dI (p.1 : Int)) pm (Ch.s (dI ((p.1 % 10 : Nat) : Int)) (iX rfl rfl (remN (n := p.1) (d := 10) rfl rfl (by decide))) (Ch.s (dI (48 + ((p.1 % 10 : Nat) : Int))) (iX rfl rfl intV_addA) (Ch.s (.d (.int .u8 ((UInt8.ofNat (48 + p.1 % 10)).toNat : Int))) (.pure (EvP.of (convU8 (n := (48 + p.1 % 10)) (by omega) a52) (.convInt _ _ _ rfl (isSome_of Tryz.underlying3) Tryz.underlying5 rfl))) ?_))))))
   refine Ch.s (.row 12000) (.slice 12000 _ 5 _ rfl sty164 (xs := [.tmp 11]) rfl rfl (.cons (.d _) .nil) rfl rfl (by decide)) (Ch.s (dS [(UInt8.ofNat (48 + p.1 % 10))]) (.string (l := [(UInt8.ofNat (48 + p.1 % 10))]) _ _ _ _ rfl Tryz.underlying164 Tryz.underlying5 Tryz.underlying9 (by first | exact (.row rfl rfl) | exact (.row rfl rfl))) (Ch.s (dS p.2) pm (Ch.s (dS ([(UInt8.ofNat (48 + p.1 % 10))] ++ p.2)) (.pure (.str _ _ _ _ _ rfl rfl rfl (strV_add a52))) (Ch.s (dS ([(UInt8.ofNat (48 + p.1 % 10))] ++ p.2)) pa (Ch.nil (Tz hc (Ch.s (dI (p.1 : Int)) pm ?_)))))))
   refine Ch.s (dI ((p.1 / 10 : Nat) : Int)) (iX rfl rfl (quoN (n := p.1) (d := 10) rfl rfl (by decide) a52)) (Ch.s (dI ((p.1 / 10 : Nat) : Int)) pa (Ch.nil ?_))
   refine Exists.intro ((p.1 / 10, [UInt8.ofNat (48 + p.1 % 10)] ++ p.2)) (And.intro ⟨by (have := hp0.1; simp; omega), (digs_step (k := p.1) (by omega) p.2).symm.trans hp0.2⟩ (And.intro (by (simp; omega)) (Wk.of rfl rfl (ai (vI a126) (ai (vS a126) trivial)) trivial)))
  ·
   refine T_exit (Ts hc (Ch.s (dS p.2) pm (Ch.s (dS ([109] ++ p.2)) (.pure (.str _ _ _ _ _ rfl rfl rfl (strV_add a52))) (Ch.s (dS ([109] ++ p.2)) pa (Ch.nil (T_ret ?_))))))
   exact eR [(dS ([109] ++ p.2))] [] [] (.cons (.tmp 2 rfl) .nil) eA (Exp.of (congrArg D.str (by have hz : p.1 = 0 := (by omega); have h5 := hp0.2; rw [hz, digs_zero] at h5; rw [mtext, if_neg (by omega), h5]; rfl)) (.d _))

theorem sp_laws_markStringS (xs : List (List UInt8)) (k : Nat) (hn : xs.length ≤ 1048576) (hk : k ≤ 3145728) : Sp Tryz.prog 30 [(.slice true 1 (xs.map D.str)), (.int .i64 (k : Int))] [(.slice true 1 ((marks k xs.length).map D.str)), .any] (.int .i64 ((k + xs.length : Nat) : Int)) := by
 refine Sp_intro (lend := false) Tryz.func30 rfl rfl rfl (fun h => nomatch h) (fun c hc hX => ?_)
 refine Ts hc (Ch.s (dI 0) pa (Ch.nil (Tq (Ts hc (Ch.s (dI 0) pa ?_)))))
 refine Ch.nil (Tb ?_)
 refine T_loop (ι := Nat) (fun m => { n := 20, sl := [(0, (.row 1)), (1, (dI ((k + m : Nat) : Int))), (5, (dI (m : Int)))], hp := [(1, (some (.row 1 ((marked xs k m).map D.str))))], pin := [1] }) (fun m => m ≤ xs.length) (fun m => xs.length - m) ⟨0, (by omega), (Wk.of rfl rfl (ar (ai (vI a126) (ai (vI a126) trivial))) (ai (oR a93) trivial))⟩ (fun m hp0 => ?_)
 have hq := marked_length xs k m
 refine Tq (Ts hc (Ch.s (dI (m : Int)) pm (Ch.s (.row 1) pm (Ch.s (dI ((marked xs k m).length : Int)) (.pure (.len _ _ 9 rfl Tryz.underlying23 (.row rfl) (by simp))) (Ch.s (dB (decide ((m : Int) < ((marked xs k m).length : Int)))) (iX rfl rfl rfl) (Ch.nil ?_))))))
 refine T_condD (p := ((m : Int) < ((marked xs k m).length : Int))) rfl (fun h1 => ?_) (fun h1 => ?_)
 ·
  refine Tk (Tq (Tb (Ts hc (Ch.s (.row 1) pm (Ch.s (dI (m : Int)) pm (Ch.s (dI ((k + m : Nat) : Int)) pm ?_))))))
  refine Ch.s (dS (mtext (k + m))) (.call 15000 84 _ _ _ en84 rfl (.inl rfl) (.cons (.d _) .nil) rfl rfl (sp_laws_markText (k + m) a26) (.skip _ _ .nil) rfl) (Ch.s (.el 1 1 m 0) (.pure (.idxRow _ _ _ 9 (m) rfl Tryz.underlying23 sz9 rfl rfl rfl rfl a96)) (Ch.s .junk (.storeEl (y' := (.str (mtext (k + m)))) _ _ _ rfl rfl rfl (.d _) rfl sz9 rfl get_mapA rfl rfl) (Ch.nil (Tz hc (Ch.s (dI ((k + m : Nat) : Int)) pm (Ch.s (dI (((k + m : Nat) : Int) + 1)) (iX rfl rfl intV_addA) (Ch.s (dI (((k + m : Nat) : Int) + 1)) pa ?_)))))))
  refine Ch.nil (Tz hc (Ch.s (dI (m : Int)) pm (Ch.s (dI ((m : Int) + 1)) (iX rfl rfl intV_addA) (Ch.s (dI ((m : Int) + 1)) pa (Ch.nil ?_)))))
  exact nx (m + 1) (by omega) (Wk.of rfl rfl (ar (ai (vI a126) (ai (vI a126) trivial))) (ai (oR a93) trivial))
 ·
  refine T_exit (Ts hc (Ch.s (dI ((k + m : Nat) : Int)) pm (Ch.s (dI ((k + m : Nat) : Int)) pa (Ch.nil (T_ret ?_)))))
  exact eR [(dI ((k + m : Nat) : Int))] [1] [] (.cons (.tmp 4 rfl) .nil) (.cons (Exp.of (congrArg (D.slice true 1) (by rw [marked_all xs k (by omega)])) (.row rfl)) eA) (Exp.of (congrArg (D.int .i64) (by omega)) (.d _))

theorem sp_laws_heldStringS (xs : List (List UInt8)) (k : Nat) (hn : xs.length ≤ 1048576) (hk : k ≤ 3145728) : Sp Tryz.prog 31 [(.slice false 1 (xs.map D.str)), (.int .i64 (k : Int))] [.any, .any] (.int .i64 (heldR xs k)) := by
 refine Sp_intro (lend := true) Tryz.func31 rfl rfl rfl (fun _ => rfl) (fun c hc hX => ?_)
 refine Ts hc (Ch.s (dI 0) pa (Ch.nil (Tq (Ts hc (Ch.s (dI 0) pa ?_)))))
 refine Ch.nil (Tb ?_)
 refine T_loop (ι := Nat) (fun m => { n := 22, sl := [(0, (.d (.slice false 1 (xs.map D.str)))), (1, (dI ((k + m : Nat) : Int))), (5, (dI (m : Int)))], hp := [], pin := [] }) (fun m => m ≤ xs.length ∧ ∀ j, j < m → decide (xs.getD j default = mtext (k + j)) = true) (fun m => xs.length - m) ⟨0, ⟨by omega, fun j hj => by omega⟩, (Wk.of rfl rfl (ar (ai (vI a126) (ai (vI a126) trivial))) trivial)⟩ (fun m hp0 => ?_)
 refine Tq (Ts hc (Ch.s (dI (m : Int)) pm (Ch.s (.d (.slice false 1 (xs.map D.str))) pm (Ch.s (dI (xs.length : Int)) (.pure (.len _ _ 9 rfl Tryz.underlying23 (.sh _ _) (by simp))) (Ch.s (dB (decide ((m : Int) < (xs.length : Int)))) (iX rfl rfl rfl) (Ch.nil ?_))))))
 refine T_condD (p := ((m : Int) < (xs.length : Int))) rfl (fun h1 => ?_) (fun h1 => ?_)
 ·
  refine Tk (Tq (Tb (Tq (Tq ?_))))
  refine T_regionD hc (by kernel_rfl) ?_
  refine ChD.s (.d (.slice false 1 (xs.map D.str))) [] pm (ChD.s (dI (m : Int)) [] pm (ChD.s (.d (.ref (.str (xs.getD m default)))) [] (.pure (.idx _ _ _ 9 (m) rfl Tryz.underlying23 sz9 rfl rfl rfl get_mapA)) (ChD.s (dS (xs.getD m default)) [] (rF ag9 rfl rfl) (ChD.s (dI ((k + m : Nat) : Int)) [] pm (ChD.s (dS (mtext (k + m))) [] (.call 17000 84 _ _ _ en84 rfl (.inl rfl) (.cons (.d _) .nil) rfl rfl (sp_laws_markText (k + m) a26) (.skip _ _ .nil) rfl) (ChD.s (dB (!(decide ((xs.getD m default) = (mtext (k + m)))))) [] (.pure (.str _ _ _ _ _ rfl rfl rfl rfl)) ?_))))))
  refine ChD.nil (And.intro ?_ (by kernel_rfl))
  refine T_condN (b := (decide ((xs.getD m default) = (mtext (k + m))))) rfl (fun h2 => ?_) (fun h2 => ?_)
  ·
   replace h2 := odf h2
   refine Ts hc (Ch.s (dI (-1)) pa (Ch.nil (T_ret ?_)))
   exact eR [(dI (-1))] [] [] (.cons (.tmp 4 rfl) .nil) eB (Exp.of (congrArg (D.int .i64) a62) (.d _))
  ·
   replace h2 := odt h2
   refine Tk (Tz hc (Ch.s (dI ((k + m : Nat) : Int)) pm (Ch.s (dI (((k + m : Nat) : Int) + 1)) (iX rfl rfl intV_addA) (Ch.s (dI (((k + m : Nat) : Int) + 1)) pa (Ch.nil (Tz hc (Ch.s (dI (m : Int)) pm ?_)))))))
   refine Ch.s (dI ((m : Int) + 1)) (iX rfl rfl intV_addA) (Ch.s (dI ((m : Int) + 1)) pa (Ch.nil ?_))
   exact nx (m + 1) ⟨by omega, upto_succ hp0.2 (by simp_all)⟩ (Wk.of rfl rfl (ar (ai (vI a126) (ai (vI a126) trivial))) trivial)
 ·
  refine T_exit (Ts hc (Ch.s (dI ((k + m : Nat) : Int)) pm (Ch.s (dI ((k + m : Nat) : Int)) pa (Ch.nil (T_ret ?_)))))
  exact eR [(dI ((k + m : Nat) : Int))] [] [] (.cons (.tmp 4 rfl) .nil) eB (Exp.of (congrArg (D.int .i64) a62) (.d _))

theorem sp_spec_l5Bit (up : Bool) : Sp Tryz.prog 214 [(.bool (up))] [.any] (.str ([bitN up])) := by
 refine Sp_intro (lend := true) Tryz.func214 rfl rfl rfl (fun _ => rfl) (fun c hc hX => ?_)
 refine Ts hc (Ch.s (dS []) pa (Ch.nil (Tq (Ts hc (Ch.s (dB (up)) pm ?_)))))
 refine Ch.nil ?_
 refine T_cond (b := (up)) rfl (fun h1 => ?_) (fun h1 => ?_)
 ·
  refine Ts hc (Ch.s (dS [49]) pa (Ch.nil (T_ret ?_)))
  exact eR [(dS [49])] [] [] (.cons (.tmp 2 rfl) .nil) eA (Exp.of (congrArg D.str (by subst_vars; rfl)) (.d _))
 ·
  refine Tk (Ts hc (Ch.s (dS [48]) pa (Ch.nil (T_ret ?_))))
  exact eR [(dS [48])] [] [] (.cons (.tmp 2 rfl) .nil) eA (Exp.of (congrArg D.str (by subst_vars; rfl)) (.d _))

theorem sp_spec_l5Set (u : List UInt8) (sig : Int) (v : List UInt8) (hu : u.length ≤ 1048576) (hv : v.length ≤ 1048576) (h0 : 0 ≤ sig) (h1s : sig + 1 ≤ u.length) : Sp Tryz.prog 220 [(.str u), (.int .i64 sig), (.str v)] [.any, .any, .any] (.str (u.take sig.toNat ++ v ++ u.drop (sig + 1).toNat)) := by
 refine Sp_intro (lend := true) Tryz.func220 rfl rfl rfl (fun _ => rfl) (fun c hc hX => ?_)
 refine Ts hc (Ch.s (dS []) pa (Ch.nil (Tq ?_)))
 refine T_regionD hc (by kernel_rfl) ?_
 refine ChD.s (dS u) [] pm (ChD.s (dI sig) [] pm (ChD.s (dS (u.take ((sig).toNat))) [] (.pure (.sliceStr _ _ _ _ (0) ((sig).toNat) rfl Tryz.underlying9 rfl (bndN rfl) (bndS rfl (by omega)) a52 a52 (by simp))) (ChD.s (dS v) [] pm (ChD.s (dS ((u.take ((sig).toNat)) ++ v)) [] (.pure (.str _ _ _ _ _ rfl rfl rfl (strV_add a52))) (ChD.s (dS u) [] pm (ChD.s (dI sig) [] pm (ChD.s (dI (sig + 1)) [] (iX rfl rfl intV_addA) ?_)))))))
 refine ChD.s (dS (u.drop (((sig + 1)).toNat))) [] (.pure (.sliceStr _ _ _ _ (((sig + 1)).toNat) (u.length) rfl Tryz.underlying9 rfl (bndS rfl (by omega)) (bndN rfl) a52 a52 (by simp))) (ChD.s (dS (((u.take ((sig).toNat)) ++ v) ++ (u.drop (((sig + 1)).toNat)))) [] (.pure (.str _ _ _ _ _ rfl rfl rfl (strV_add a52))) (ChD.s (dS (((u.take ((sig).toNat)) ++ v) ++ (u.drop (((sig + 1)).toNat)))) [] pa ?_))
 refine ChD.nil (And.intro ?_ (by kernel_rfl))
 refine T_ret ?_
 exact eR [(dS (((u.take ((sig).toNat)) ++ v) ++ (u.drop (((sig + 1)).toNat))))] [] [] (.cons (.tmp 6 rfl) .nil) eC (Exp.of (congrArg D.str (by rfl)) (.d _))

theorem within_two {n lo hi : Int} (h : withinB n lo hi = true) : lo ≤ n ∧ n ≤ hi := by simpa [withinB] using h

theorem sz3 : SizeIs Tryz.prog 3 1 := by unfold SizeIs; kernel_rfl

theorem sz23 : SizeIs Tryz.prog 23 1 := by unfold SizeIs; kernel_rfl

theorem fld29_0 : FieldIs Tryz.prog 29 0 0 1 false := FieldIs.mk Tryz.underlying29 rfl rfl sz23 ag23 rfl

theorem en29 : Enters Tryz.prog 29 := ⟨_, Tryz.func29, by kernel_rfl, rfl⟩

theorem fld29_1 : FieldIs Tryz.prog 29 1 1 1 false := FieldIs.mk Tryz.underlying29 rfl rfl sz23 ag23 rfl

def keepTo {τ : Type} (p : τ → Bool) (xs : List τ) (j : Nat) : List τ := (xs.take j).filter fun u => !p u

theorem keepTo_yes {τ : Type} [Inhabited τ] {p : τ → Bool} {xs : List τ} {j : Nat} (hj : j < xs.length) (h : p (xs.getD j default) = false) : keepTo p xs (j + 1) = keepTo p xs j ++ [xs.getD j default] := by
 have hg : xs.getD j default = xs[j] := by simp [hj]
 rw [hg] at h ⊢
 rw [keepTo, keepTo, List.take_succ_eq_append_getElem hj, List.filter_append]; simp [h]

theorem keepTo_no {τ : Type} [Inhabited τ] {p : τ → Bool} {xs : List τ} {j : Nat} (hj : j < xs.length) (h : p (xs.getD j default) = true) : keepTo p xs (j + 1) = keepTo p xs j := by
 have hg : xs.getD j default = xs[j] := by simp [hj]
 rw [hg] at h
 rw [keepTo, keepTo, List.take_succ_eq_append_getElem hj, List.filter_append]; simp [h]

theorem keepTo_none {τ : Type} [Inhabited τ] {p : τ → Bool} {xs : List τ} : ∀ k, k ≤ xs.length → (∀ j, j < k → p (xs.getD j default) = false) → keepTo p xs k = xs.take k
 | 0, _, _ => rfl
 | k + 1, hk, h => by
  rw [keepTo_yes (by omega) (h k (by omega)), keepTo_none k (by omega) (fun j hj => h j (by omega)), List.take_succ_eq_append_getElem (by omega)]
  simp [show k < xs.length by omega]

theorem ixF_first {τ : Type} [Inhabited τ] {p : τ → Bool} {xs : List τ} (h : ¬ ixF p xs = -1) : ∃ k, k < xs.length ∧ ixF p xs = (k : Int) ∧ keepTo p xs (k + 1) = xs.take k := by
  unfold ixF at *
  split at h
  · rename_i ha
    have hk : xs.findIdx p < xs.length := List.findIdx_lt_length_of_exists (by simpa using ha)
    refine ⟨xs.findIdx p, hk, by rw [if_pos ha], ?_⟩
    have h1 : p (xs.getD (xs.findIdx p) default) = true := by
      have := List.findIdx_getElem (w := hk)
      simpa [hk] using this
    rw [keepTo_no hk h1]
    refine keepTo_none _ (by omega) (fun j hj => ?_)
    have := List.not_of_lt_findIdx hj
    simpa [show j < xs.length by omega] using this
  · exact absurd rfl h

structure DelInv {τ : Type} [Inhabited τ] (p : τ → Bool) (xs : List τ) (j : Nat) (R : List τ) : Prop where
 le : j ≤ xs.length
 len : R.length = xs.length
 lt : (keepTo p xs j).length < j
 pre : R.take (keepTo p xs j).length = keepTo p xs j
 post : R.drop j = xs.drop j

theorem DelInv.get {τ : Type} [Inhabited τ] {p : τ → Bool} {xs : List τ} {j : Nat} {R : List τ} (h : DelInv p xs j R) (hj : j < xs.length) : R.getD j default = xs.getD j default := by
 have h1 : (R.drop j)[0]? = (xs.drop j)[0]? := by rw [h.post]
 rw [List.getElem?_drop, List.getElem?_drop, Nat.add_zero] at h1
 rw [List.getD_eq_getElem?_getD, List.getD_eq_getElem?_getD, h1]

theorem DelInv.start {τ : Type} [Inhabited τ] {p : τ → Bool} {xs : List τ} {k : Nat} (hk : k < xs.length) (h : keepTo p xs (k + 1) = xs.take k) : DelInv p xs (k + 1) xs := by
 have hl : (keepTo p xs (k + 1)).length = k := by rw [h]; simp; omega
 exact ⟨by omega, rfl, by omega, by rw [hl, h], rfl⟩

theorem DelInv.skip {τ : Type} [Inhabited τ] {p : τ → Bool} {xs : List τ} {j : Nat} {R : List τ} (h : DelInv p xs j R) (hj : j < xs.length) (hp : p (R.getD j default) = true) : DelInv p xs (j + 1) R ∧ (keepTo p xs j).length = (keepTo p xs (j + 1)).length := by
 rw [h.get hj] at hp
 have hk := keepTo_no hj hp
 refine ⟨⟨by omega, h.len, by rw [hk]; have := h.lt; omega, by rw [hk]; exact h.pre, ?_⟩, by rw [hk]⟩
 rw [← List.drop_drop, ← List.drop_drop, h.post]

theorem DelInv.keep {τ : Type} [Inhabited τ] {p : τ → Bool} {xs : List τ} {j : Nat} {R : List τ} (h : DelInv p xs j R) (hj : j < xs.length) (hp : p (R.getD j default) = false) : DelInv p xs (j + 1) (R.set (keepTo p xs j).length (R.getD j default)) ∧ (keepTo p xs j).length + 1 = (keepTo p xs (j + 1)).length := by
  have hg := h.get hj
  rw [hg] at hp ⊢
  have hk := keepTo_yes hj hp
  have hl : (keepTo p xs (j + 1)).length = (keepTo p xs j).length + 1 := by rw [hk]; simp
  have hlt := h.lt
  have hlen := h.len
  refine ⟨⟨by omega, by simp [h.len], by omega, ?_, ?_⟩, hl.symm⟩
  · rw [hl, hk, List.take_succ_eq_append_getElem (by simp; omega), List.getElem_set_self, List.take_set_of_le (Nat.le_refl _), h.pre]
  · rw [List.drop_set_of_lt (by omega), ← List.drop_drop, ← List.drop_drop, h.post]

theorem DelInv.mem {τ : Type} [Inhabited τ] {p : τ → Bool} {xs : List τ} {j : Nat} {R : List τ} (h : DelInv p xs j R) (hj : j < R.length) : R.getD j default ∈ xs := by
 rw [h.get (by rw [← h.len]; exact hj)]; exact getD_mem (by rw [← h.len]; exact hj)

theorem DelInv.done {τ : Type} [Inhabited τ] {p : τ → Bool} {xs : List τ} {j : Nat} {R : List τ} (h : DelInv p xs j R) (hj : xs.length ≤ j) : R.take (keepTo p xs j).length = xs.filter fun u => !p u := by
 rw [h.pre, keepTo, List.take_of_length_le hj]

theorem ixF_bounds {τ : Type} [Inhabited τ] (p : τ → Bool) (xs : List τ) : -1 ≤ ixF p xs ∧ ixF p xs ≤ xs.length := by
  unfold ixF
  have := List.findIdx_le_length (p := p) (xs := xs)
  split <;> omega

theorem take_cut {τ : Type} {A Z B : List τ} {k : Nat} (h : k ≤ A.length) : (A.take k ++ Z ++ B).take k = A.take k := by
 rw [List.append_assoc, List.take_append_of_le_length (by simp; omega), List.take_of_length_le (by simp; omega)]

theorem ixF_all {τ : Type} [Inhabited τ] {p : τ → Bool} {xs : List τ} (h : ixF p xs = -1) : xs.filter (fun u => !p u) = xs := by
  unfold ixF at h
  split at h
  · omega
  · rename_i ha
    rw [List.filter_eq_self]
    intro u hu
    have : ¬ p u = true := fun hp => ha (List.any_eq_true.2 ⟨u, hu, hp⟩)
    simpa using this

theorem sp_DeleteFunc_str (xs : List (List UInt8)) (f : FuncId) (caps : List D) (p : List UInt8 → Bool) (hf : Enters Tryz.prog f) (hp : ∀ x ∈ xs, Sp Tryz.prog f (D.str x :: caps) (.any :: anys caps) (.bool (p x))) (hn : xs.length ≤ 1048576) : Sp Tryz.prog 223 [(.slice true 1 (xs.map D.str)), (.fn f caps)] [.any, .any] (.slice true 1 ((xs.filter (fun u => !p u)).map D.str)) := by
 refine Sp_intro (lend := false) Tryz.func223 rfl rfl rfl (fun h => nomatch h) (fun c hc hX => ?_)
 have hixb := ixF_bounds p xs
 refine Ts hc (Ch.s (.c (.slice none 0 0)) pa (Ch.nil (Ts hc (Ch.s (.row 1) pm (Ch.s (.d (.fn f caps)) pm ?_)))))
 refine Ch.s (dI (ixF p xs)) (.call 10000 230 _ _ _ en230 rfl (.inl rfl) (.cons (.lend (.row rfl (frozs_map (fun _ => rfl) _))) (.cons (.d _) .nil)) rfl rfl (sp_IndexFunc_str xs f caps p hf hp a26) (.skip _ _ (.skip _ _ .nil)) rfl) (Ch.s (dI (ixF p xs)) pa (Ch.nil (Tq (Ts hc (Ch.s (dI (ixF p xs)) pm (Ch.s (dB (decide ((ixF p xs) = (-1)))) (iX rfl rfl rfl) ?_))))))
 refine Ch.nil ?_
 refine T_condD (p := ((ixF p xs) = (-1))) rfl (fun h1 => ?_) (fun h1 => ?_)
 ·
  refine Ts hc (Ch.s (.row 1) pm (Ch.s (.row 1) pa (Ch.nil (T_ret ?_))))
  exact eR [(.row 1)] [] [1] (.cons (.tmp 4 rfl) .nil) eB (Exp.of (congrArg (D.slice true 1) a79) (.row rfl))
 ·
  refine Tk (Tq (Ts hc (Ch.s (dI (ixF p xs)) pm (Ch.s (dI ((ixF p xs) + 1)) (iX rfl rfl intV_addA) (Ch.s (dI ((ixF p xs) + 1)) pa (Ch.nil ?_))))))
  refine Tb ?_
  refine T_loop (ι := Nat × List (List UInt8)) (fun q => { n := 42, sl := [(0, (.row 1)), (1, (.d (.fn f caps))), (5, (dI ((keepTo p xs q.1).length : Int))), (6, (dI (q.1 : Int)))], hp := [(1, (some (.row 1 (q.2.map D.str))))], pin := [1] }) (fun q => DelInv p xs q.1 q.2) (fun q => xs.length - q.1) ⟨((ixF p xs).toNat + 1, xs), (by obtain ⟨k0, hk0, hk1, hk2⟩ := ixF_first h1; have e : (ixF p xs).toNat = k0 := (by omega); rw [e]; exact DelInv.start hk0 hk2), (Wk.of rfl rfl (ar (ar (ai (vI a21) (ai (vI a126) trivial)))) (ai (oR a131) trivial))⟩ (fun q hp0 => ?_)
  have hq1 := hp0.len; have hq2 := hp0.lt; have hq3 := hp0.le
  refine Tq (Ts hc (Ch.s (dI (q.1 : Int)) pm (Ch.s (.row 1) pm (Ch.s (dI (q.2.length : Int)) (.pure (.len _ _ 9 rfl Tryz.underlying23 (.row rfl) (by simp))) (Ch.s (dB (decide ((q.1 : Int) < (q.2.length : Int)))) (iX rfl rfl rfl) (Ch.nil ?_))))))
  refine T_condD (p := ((q.1 : Int) < (q.2.length : Int))) rfl (fun h2 => ?_) (fun h2 => ?_)
  ·
   refine Tk (Tq (Tb (Ts hc (Ch.s (.row 1) pm (Ch.s (dI (q.1 : Int)) pm (Ch.s (.el 1 1 q.1 0) (.pure (.idxRow _ _ _ 9 (q.1) rfl Tryz.underlying23 sz9 rfl rfl rfl rfl a96)) ?_))))))
   refine Ch.s (dS (q.2.getD q.1 default)) (.pure (.loadEl1 _ _ rfl ag9 rfl rfl get_mapA rfl rfl rfl)) (Ch.s (dS (q.2.getD q.1 default)) pa (Ch.nil (Ts hc (Ch.s (.d (.fn f caps)) pm (Ch.s (dS (q.2.getD q.1 default)) pm ?_)))))
   refine Ch.step (v := (dB (p (q.2.getD q.1 default)))) rfl (.callS 28000 f _ #[.tmp 27] _ hf rfl (.inr ⟨caps, rfl, rfl⟩) (.cons (.d _) (exps_ds caps)) rfl ((by first | exact hp _ (getD_mem (by omega)) | exact hp _ (hp0.mem (by omega)))) (.skip _ _ (back_anys caps)) rfl) rfl rfl ?_
   refine Ch.s (dB (!(p (q.2.getD q.1 default)))) (nT rfl) (Ch.nil ?_)
   refine T_condN (b := (p (q.2.getD q.1 default))) rfl (fun h3 => ?_) (fun h3 => ?_)
   ·
    refine Ts hc (Ch.s (.row 1) pm (Ch.s (dI ((keepTo p xs q.1).length : Int)) pm (Ch.s (dS (q.2.getD q.1 default)) pm (Ch.s (.el 1 1 ((keepTo p xs q.1).length) 0) (.pure (.idxRow _ _ _ 9 ((keepTo p xs q.1).length) rfl Tryz.underlying23 sz9 rfl rfl rfl rfl a96)) (Ch.s .junk (.storeEl (y' := (.str (q.2.getD q.1 default))) _ _ _ rfl rfl rfl (.d _) rfl sz9 rfl get_mapA rfl rfl) (Ch.nil ?_))))))
    refine Tz hc (Ch.s (dI ((keepTo p xs q.1).length : Int)) pm (Ch.s (dI (((keepTo p xs q.1).length : Int) + 1)) (iX rfl rfl intV_addA) (Ch.s (dI (((keepTo p xs q.1).length : Int) + 1)) pa (Ch.nil (Tz hc (Ch.s (dI (q.1 : Int)) pm (Ch.s (dI ((q.1 : Int) + 1)) (iX rfl rfl intV_addA) ?_)))))))
    refine Ch.s (dI ((q.1 : Int) + 1)) pa (Ch.nil ?_)
    exact nx (q.1 + 1, q.2.set (keepTo p xs q.1).length (q.2.getD q.1 default)) a86 (Wk.of rfl rfl (ar (ar (ai (vI a21) (ai (vI a126) trivial)))) (ai (oR a131) trivial))
   ·
    refine Tk (Tz hc (Ch.s (dI (q.1 : Int)) pm (Ch.s (dI ((q.1 : Int) + 1)) (iX rfl rfl intV_addA) (Ch.s (dI ((q.1 : Int) + 1)) pa (Ch.nil ?_)))))
    exact nx (q.1 + 1, q.2) a86 (Wk.of rfl rfl (ar (ar (ai (vI a21) (ai (vI a126) trivial)))) (ai (oR a131) trivial))
  ·
   refine T_exit (Ts hc (Ch.s (.row 1) pm (Ch.s (dI ((keepTo p xs q.1).length : Int)) pm (Ch.s (.sub 1 1 ((keepTo p xs q.1).length) q.2.length) (.pure (.subRow _ _ _ _ 9 ((keepTo p xs q.1).length) (q.2.length) rfl Tryz.underlying23 sz9 rfl rfl (bndS rfl rfl) (bndN (by simp)) a52 a52)) (Ch.s .junk (.clear _ _ 9 rfl sty23 rfl rfl a52 (noUs_map (fun _ => rfl) _) (zeroD_mk (zd := (.str [])) zr9 a134 rfl)) (Ch.nil ?_))))))
   refine Ts hc (Ch.s (.row 1) pm (Ch.s (dI ((keepTo p xs q.1).length : Int)) pm (Ch.s (.row 41000) (.cut 41000 _ _ _ 9 ((keepTo p xs q.1).length) rfl Tryz.underlying23 sz9 rfl rfl (bndS rfl rfl) a52 rfl) (Ch.s (.row 41000) pa (Ch.nil (T_ret ?_))))))
   exact eR [(.row 41000)] [] [41000] (.cons (.tmp 4 rfl) .nil) eB (Exp.of (congrArg (D.slice true 1) a79) (.row rfl))

def both (u : List UInt8) : List (List UInt8) := [u ++ [48], u ++ [49]]

def codes : Nat → List (List UInt8)
 | 0 => [[]]
 | n + 1 => (codes n).flatMap both

theorem shl1 {b : Int} {n : Nat} (h : b = (n : Int)) (hn : n ≤ 62) : shiftV .shl .i64 1 b = some (.int .i64 ((2 ^ n : Nat) : Int)) := by
 subst h
 rw [shiftV, if_neg (by omega)]
 have h1 : min (n : Int).toNat IntKind.i64.bits = n := by
  have : IntKind.i64.bits = 64 := rfl
  rw [this, Int.toNat_natCast]; omega
 have h2 : 2 ^ n ≤ 2 ^ 62 := Nat.pow_le_pow_right (by omega) hn
 rw [h1, Int.one_mul, show (2 : Int) ^ n = ((2 ^ n : Nat) : Int) by simp]
 generalize 2 ^ n = m at h2
 rw [IntWalk.i64_in _ (by omega)]

theorem codesB_len {n : Int} {xs : List (List UInt8)} (h : codesB n xs = true) : ∀ u ∈ xs, (u.length : Int) = n := by
 intro u hu
 obtain ⟨j, hj, rfl⟩ := List.mem_iff_getElem.1 hu
 have h1 := allB_true.1 h j hj
 have e : xs.getD j default = xs[j] := by simp [hj]
 rw [e] at h1
 unfold codeN at h1
 simp only [Bool.and_eq_true, decide_eq_true_iff] at h1
 exact h1.1.2

theorem onoff_parts {n : Int} {xs ys : List (List UInt8)} (h : onoffB n xs ys = true) : (1 ≤ n ∧ n ≤ 8) ∧ xs.length ≤ 64 ∧ ys.length ≤ 256 ∧ (∀ u ∈ xs, (u.length : Int) = n) ∧ (∀ u ∈ ys, (u.length : Int) = n) := by
 unfold onoffB at h
 simp only [Bool.and_eq_true, decide_eq_true_iff] at h
 have h1 := within_two h.1
 exact ⟨h1, by omega, by omega, codesB_len h.2.2.2.1, codesB_len h.2.2.2.2.1⟩

theorem en198 : Enters Tryz.prog 198 := ⟨_, Tryz.func198, by kernel_rfl, rfl⟩

theorem en259 : Enters Tryz.prog 259 := ⟨_, Tryz.func259, by kernel_rfl, rfl⟩

theorem en220 : Enters Tryz.prog 220 := ⟨_, Tryz.func220, by kernel_rfl, rfl⟩

theorem en252 : Enters Tryz.prog 252 := ⟨_, Tryz.func252, by kernel_rfl, rfl⟩

theorem en225 : Enters Tryz.prog 225 := ⟨_, Tryz.func225, by kernel_rfl, rfl⟩

theorem en199 : Enters Tryz.prog 199 := ⟨_, Tryz.func199, by kernel_rfl, rfl⟩

theorem en253 : Enters Tryz.prog 253 := ⟨_, Tryz.func253, by kernel_rfl, rfl⟩

theorem en226 : Enters Tryz.prog 226 := ⟨_, Tryz.func226, by kernel_rfl, rfl⟩

theorem en201 : Enters Tryz.prog 201 := ⟨_, Tryz.func201, by kernel_rfl, rfl⟩

theorem en224 : Enters Tryz.prog 224 := ⟨_, Tryz.func224, by kernel_rfl, rfl⟩

theorem en223 : Enters Tryz.prog 223 := ⟨_, Tryz.func223, by kernel_rfl, rfl⟩

theorem en136 : Enters Tryz.prog 136 := ⟨_, Tryz.func136, by kernel_rfl, rfl⟩

theorem en210 : Enters Tryz.prog 210 := ⟨_, Tryz.func210, by kernel_rfl, rfl⟩

def ftake {τ : Type} (p : τ → Bool) (xs : List τ) (k : Nat) : List τ := (xs.take k).filter p

theorem ftake_yes {τ : Type} [Inhabited τ] {p : τ → Bool} {xs : List τ} {k : Nat} (hk : k < xs.length) (h : p (xs.getD k default) = true) : ftake p xs k ++ [xs.getD k default] = ftake p xs (k + 1) := by
 have hg : xs.getD k default = xs[k] := by simp [hk]
 rw [hg] at h ⊢
 rw [ftake, ftake, List.take_succ_eq_append_getElem hk, List.filter_append]; simp [h]

theorem ftake_no {τ : Type} [Inhabited τ] {p : τ → Bool} {xs : List τ} {k : Nat} (hk : k < xs.length) (h : p (xs.getD k default) = false) : ftake p xs k = ftake p xs (k + 1) := by
 have hg : xs.getD k default = xs[k] := by simp [hk]
 rw [hg] at h
 rw [ftake, ftake, List.take_succ_eq_append_getElem hk, List.filter_append]; simp [h]

theorem ftake_all {τ : Type} {p : τ → Bool} {xs : List τ} {k : Nat} (h : xs.length ≤ k) : ftake p xs k = xs.filter p := by rw [ftake, List.take_of_length_le h]

theorem ftake_le {τ : Type} (p : τ → Bool) (xs : List τ) (k : Nat) : (ftake p xs k).length ≤ k := by
 have h1 := List.length_filter_le p (xs.take k)
 rw [List.length_take] at h1
 unfold ftake; omega

def three (u : List UInt8) : List (List UInt8) := [u ++ [45], u ++ [48], u ++ [49]]

def cubes : Nat → List (List UInt8)
 | 0 => [[]]
 | n + 1 => (cubes n).flatMap three

def cubesMid (k m : Nat) : List (List UInt8) := ((cubes k).take m).flatMap three

theorem cubesMid_all {k m : Nat} (h : (cubes k).length ≤ m) : cubesMid k m = cubes (k + 1) := by rw [cubesMid, List.take_of_length_le h]; rfl

theorem cubesMid_succ {k m : Nat} (h : m < (cubes k).length) : cubesMid k m ++ [(cubes k).getD m default ++ [45], (cubes k).getD m default ++ [48], (cubes k).getD m default ++ [49]] = cubesMid k (m + 1) := by
 rw [cubesMid, cubesMid, List.take_succ_eq_append_getElem h, List.flatMap_append]; simp [three, h]

theorem three_length : ∀ l : List (List UInt8), (l.flatMap three).length = 3 * l.length
 | [] => rfl
 | u :: l => by rw [List.flatMap_cons, List.length_append, three_length l]; simp [three]; omega

theorem cubes_length : ∀ n, (cubes n).length = 3 ^ n
 | 0 => rfl
 | n + 1 => by rw [cubes, three_length, cubes_length n]; omega

theorem cubesMid_length (k m : Nat) (h : m ≤ (cubes k).length) : (cubesMid k m).length = 3 * m := by rw [cubesMid, three_length, List.length_take, Nat.min_eq_left h]

theorem cubes_mem : ∀ n, ∀ u ∈ cubes n, u.length = n
  | 0, u, h => by simp [cubes] at h; simp [h]
  | n + 1, u, h => by
    rw [cubes, List.mem_flatMap] at h
    obtain ⟨v, hv, hu⟩ := h
    have := cubes_mem n v hv
    simp [three] at hu
    rcases hu with rfl | rfl | rfl <;> simp [this]

theorem sp_impl_allCubes (n : Int) (h0 : 0 ≤ n) (hn : n ≤ 8) : Sp Tryz.prog 201 [(.int .i64 n)] [.any] (.slice true 1 ((cubes n.toNat).map D.str)) := by
 refine Sp_intro (lend := true) Tryz.func201 rfl rfl rfl (fun _ => rfl) (fun c hc hX => ?_)
 refine Ts hc (Ch.s (.c (.slice none 0 0)) pa (Ch.nil (Ts hc (Ch.s (.row 7000) (.slice 7000 _ 9 _ rfl sty23 (xs := [.const (.string { data := #[] })]) rfl rfl (.cons (.d _) .nil) rfl rfl (by decide)) (Ch.s (.row 7000) pa ?_)))))
 refine Ch.nil (Tq (Ts hc (Ch.s (dI n) pm (Ch.s (dI 0) pm (Ch.nil (Tb ?_))))))
 refine T_loop (ι := Nat) (fun k => { n := 31, sl := [(3, (.row 3)), (8, (dI n)), (9, (dI (k : Int)))], hp := [(3, (some (.row 1 ((cubes k).map D.str))))], pin := [] }) (fun k => (k : Int) ≤ n) (fun k => n.toNat - k) ⟨0, (by omega), (Wk.ren [(3, 7000)] rfl rfl rfl rfl (ar (ar (ai (vI a126) trivial))) (ai (oR a127) trivial))⟩ (fun k hp0 => ?_)
 have hl := cubes_length k; have hp3 : 3 ^ k ≤ 3 ^ 8 := Nat.pow_le_pow_right (by omega) (by omega)
 refine Ts hc (Ch.s (dB (decide ((k : Int) < n))) (iX rfl rfl rfl) (Ch.nil (Tq ?_)))
 refine T_condD (p := ((k : Int) < n)) rfl (fun h1 => ?_) (fun h1 => ?_)
 ·
  refine Tk (Tq (Tb (Ts hc (Ch.s (.row 11000) (.slice 11000 _ 9 _ rfl sty23 (xs := []) rfl rfl .nil rfl rfl (by decide)) (Ch.s (.row 11000) pa (Ch.nil ?_))))))
  refine Tq (Ts hc (Ch.s (.row 3) pm (Ch.s (dI ((cubes k).length : Int)) (.pure (.len _ _ 9 rfl Tryz.underlying23 (.row rfl) (by simp))) (Ch.s (dI 0) pm (Ch.nil (Tb ?_))))))
  refine T_loop (ι := Nat) (fun m => { n := 31, sl := [(4, (.row 4)), (8, (dI n)), (9, (dI (k : Int))), (12, (.row 3)), (13, (dI ((cubes k).length : Int))), (14, (dI (m : Int)))], hp := [(3, (some (.row 1 ((cubes k).map D.str)))), (4, (some (.row 1 ((cubesMid k m).map D.str))))], pin := [] }) (fun m => m ≤ (cubes k).length) (fun m => (cubes k).length - m) ⟨0, (by omega), (Wk.ren [(4, 11000)] rfl rfl rfl rfl (ar (ar (ar (ar (ar (ai (vI a126) trivial)))))) (ar (ai (oR a108) trivial)))⟩ (fun m hp1 => ?_)
  have hm := cubesMid_length k m hp1
  refine Ts hc (Ch.s (dB (decide ((m : Int) < ((cubes k).length : Int)))) (iX rfl rfl rfl) (Ch.nil (Tq ?_)))
  refine T_condD (p := ((m : Int) < ((cubes k).length : Int))) rfl (fun h2 => ?_) (fun h2 => ?_)
  ·
   try have hk := cubes_mem k _ (getD_mem (l := cubes k) (j := m) (d := default) (by omega))
   refine Tk (Tq (Tb (Ts hc (Ch.s (.el 3 1 m 0) (.pure (.idxRow _ _ _ 9 (m) rfl Tryz.underlying23 sz9 rfl rfl rfl rfl a96)) (Ch.s (dS ((cubes k).getD m default)) (.pure (.loadEl1 _ _ rfl ag9 rfl rfl get_mapA rfl rfl rfl)) (Ch.s (dS ((cubes k).getD m default)) pa ?_))))))
   refine Ch.nil (Tz hc (Ch.s (.row 4) pm (Ch.s (dS ((cubes k).getD m default)) pm (Ch.s (dS (((cubes k).getD m default) ++ [45])) (.pure (.str _ _ _ _ _ rfl rfl rfl (strV_add a52))) (Ch.s (dS ((cubes k).getD m default)) pm (Ch.s (dS (((cubes k).getD m default) ++ [48])) (.pure (.str _ _ _ _ _ rfl rfl rfl (strV_add a52))) (Ch.s (dS ((cubes k).getD m default)) pm ?_)))))))
   refine Ch.s (dS (((cubes k).getD m default) ++ [49])) (.pure (.str _ _ _ _ _ rfl rfl rfl (strV_add a52))) (Ch.s (.row 25000) (.slice 25000 _ 9 _ rfl sty23 (xs := [.tmp 20, .tmp 22, .tmp 24]) rfl rfl (.cons (.d _) (.cons (.d _) (.cons (.d _) .nil))) rfl rfl (by decide)) ?_)
   refine Ch.step (v := (.row 26000)) rfl (.append 26000 _ _ _ 9 rfl sty23 (by decide) (.rowK rfl) (.inr ⟨_, rfl, rfl⟩) (.row rfl rfl) rfl a69) rfl rfl ?_
   refine Ch.s (.row 26000) pa (Ch.nil (Tz hc (Ch.s (dI ((m : Int) + 1)) (iX rfl rfl intV_addA) (Ch.s (dI ((m : Int) + 1)) pm (Ch.nil ?_)))))
   exact nx (m + 1) (by omega) (Wk.ren [(4, 26000)] rfl rfl rfl rfl (ar (ar (ar (ar (ar (ai (vI a126) trivial)))))) (ar (ai (oR a108) trivial)))
  ·
   try have hk := cubes_mem k _ (getD_mem (l := cubes k) (j := m) (d := default) (by omega))
   refine T_exit (Tz hc (Ch.s (.row 4) pm (Ch.s (.row 4) pa (Ch.nil (Tz hc (Ch.s (dI ((k : Int) + 1)) (iX rfl rfl intV_addA) (Ch.s (dI ((k : Int) + 1)) pm ?_)))))))
   refine Ch.nil ?_
   exact nx (k + 1) (by omega) (Wk.ren [(3, 4)] rfl rfl rfl rfl (ar (ar (ai (vI a126) trivial))) (ai (oR a127) trivial))
 ·
  refine T_exit (Ts hc (Ch.s (.row 3) pm (Ch.s (.row 3) pa (Ch.nil (T_ret ?_)))))
  exact eR [(.row 3)] [] [3] (.cons (.tmp 2 rfl) .nil) eA (Exp.of (congrArg (D.slice true 1) (by rw [show n.toNat = k by omega])) (.row rfl))

theorem sp_spec_l14Cubes (n : Int) (h0 : 0 ≤ n) (hn : n ≤ 8) : Sp Tryz.prog 199 [(.int .i64 n)] [.any] (.slice true 1 ((cubes n.toNat).map D.str)) := by
 refine Sp_intro (lend := true) Tryz.func199 rfl rfl rfl (fun _ => rfl) (fun c hc hX => ?_)
 refine Ts hc (Ch.s (.c (.slice none 0 0)) pa (Ch.nil (Ts hc (Ch.s (.row 7000) (.slice 7000 _ 9 _ rfl sty23 (xs := [.const (.string { data := #[] })]) rfl rfl (.cons (.d _) .nil) rfl rfl (by decide)) (Ch.s (.row 7000) pa ?_)))))
 refine Ch.nil (Tq (Tb ?_))
 refine T_loop (ι := Nat) (fun k => { n := 30, sl := [(0, (dI (n - k))), (3, (.row 3))], hp := [(3, (some (.row 1 ((cubes k).map D.str))))], pin := [] }) (fun k => (k : Int) ≤ n) (fun k => n.toNat - k) ⟨0, (by omega), (Wk.ren [(3, 7000)] rfl rfl rfl rfl (ai (vI (by omega)) (ar trivial)) (ai (oR a127) trivial))⟩ (fun k hp0 => ?_)
 have hl := cubes_length k; have hp3 : 3 ^ k ≤ 3 ^ 8 := Nat.pow_le_pow_right (by omega) (by omega)
 refine Tq (Ts hc (Ch.s (dI (n - k)) pm (Ch.s (dB (decide (0 < (n - k)))) (iX rfl rfl rfl) (Ch.nil ?_))))
 refine T_condD (p := (0 < (n - k))) rfl (fun h1 => ?_) (fun h1 => ?_)
 ·
  refine Tk (Tq (Tb (Ts hc (Ch.s (.c (.slice none 0 0)) pa (Ch.nil (Tq ?_))))))
  refine Ts hc (Ch.s (.row 3) pm (Ch.s (dI ((cubes k).length : Int)) (.pure (.len _ _ 9 rfl Tryz.underlying23 (.row rfl) (by simp))) (Ch.s (dI 0) pm (Ch.nil (Tb ?_)))))
  refine T_loop (ι := Nat) (fun m => { n := 30, sl := [(0, (dI (n - k))), (4, (.row 4)), (12, (.row 3)), (13, (dI ((cubes k).length : Int))), (14, (dI (m : Int)))], hp := [(3, (some (.row 1 ((cubes k).map D.str)))), (4, (some (.row 1 ((cubesMid k m).map D.str))))], pin := [] }) (fun m => m ≤ (cubes k).length) (fun m => (cubes k).length - m) ⟨0, (by omega), (Wk.trans (Wk.nilrow 4 900004 1 rfl rfl rfl) (Wk.ren [(4, 900004)] rfl rfl rfl rfl (ar (ar (ar (ar (ai (vI a126) trivial))))) (ar (ai (oR a108) trivial))))⟩ (fun m hp1 => ?_)
  have hm := cubesMid_length k m hp1
  refine Ts hc (Ch.s (dB (decide ((m : Int) < ((cubes k).length : Int)))) (iX rfl rfl rfl) (Ch.nil (Tq ?_)))
  refine T_condD (p := ((m : Int) < ((cubes k).length : Int))) rfl (fun h2 => ?_) (fun h2 => ?_)
  ·
   try have hk := cubes_mem k _ (getD_mem (l := cubes k) (j := m) (d := default) (by omega))
   refine Tk (Tq (Tb (Ts hc (Ch.s (.el 3 1 m 0) (.pure (.idxRow _ _ _ 9 (m) rfl Tryz.underlying23 sz9 rfl rfl rfl rfl a96)) (Ch.s (dS ((cubes k).getD m default)) (.pure (.loadEl1 _ _ rfl ag9 rfl rfl get_mapA rfl rfl rfl)) (Ch.s (dS ((cubes k).getD m default)) pa ?_))))))
   refine Ch.nil (Tz hc (Ch.s (.row 4) pm (Ch.s (dS ((cubes k).getD m default)) pm (Ch.s (dS (((cubes k).getD m default) ++ [45])) (.pure (.str _ _ _ _ _ rfl rfl rfl (strV_add a52))) (Ch.s (dS ((cubes k).getD m default)) pm (Ch.s (dS (((cubes k).getD m default) ++ [48])) (.pure (.str _ _ _ _ _ rfl rfl rfl (strV_add a52))) (Ch.s (dS ((cubes k).getD m default)) pm ?_)))))))
   refine Ch.s (dS (((cubes k).getD m default) ++ [49])) (.pure (.str _ _ _ _ _ rfl rfl rfl (strV_add a52))) (Ch.s (.row 25000) (.slice 25000 _ 9 _ rfl sty23 (xs := [.tmp 20, .tmp 22, .tmp 24]) rfl rfl (.cons (.d _) (.cons (.d _) (.cons (.d _) .nil))) rfl rfl (by decide)) ?_)
   refine Ch.step (v := (.row 26000)) rfl (.append 26000 _ _ _ 9 rfl sty23 (by decide) (.rowK rfl) (.inr ⟨_, rfl, rfl⟩) (.row rfl rfl) rfl a69) rfl rfl ?_
   refine Ch.s (.row 26000) pa (Ch.nil (Tz hc (Ch.s (dI ((m : Int) + 1)) (iX rfl rfl intV_addA) (Ch.s (dI ((m : Int) + 1)) pm (Ch.nil ?_)))))
   exact nx (m + 1) (by omega) (Wk.ren [(4, 26000)] rfl rfl rfl rfl (ar (ar (ar (ar (ai (vI a126) trivial))))) (ar (ai (oR a108) trivial)))
  ·
   try have hk := cubes_mem k _ (getD_mem (l := cubes k) (j := m) (d := default) (by omega))
   refine T_exit (Tz hc (Ch.s (.row 4) pm (Ch.s (.row 4) pa (Ch.nil (Tz hc (Ch.s (dI (n - k)) pm (Ch.s (dI ((n - k) - 1)) (iX rfl rfl intV_subA) ?_)))))))
   refine Ch.s (dI ((n - k) - 1)) pa (Ch.nil ?_)
   exact nx (k + 1) (by omega) (Wk.ren [(3, 4)] rfl rfl rfl rfl (ai (vI (by omega)) (ar trivial)) (ai (oR a127) trivial))
 ·
  refine T_exit (Ts hc (Ch.s (.row 3) pm (Ch.s (.row 3) pa (Ch.nil (T_ret ?_)))))
  exact eR [(.row 3)] [] [3] (.cons (.tmp 2 rfl) .nil) eA (Exp.of (congrArg (D.slice true 1) (by rw [show n.toNat = k by omega])) (.row rfl))

def anyB (a : List UInt8) (us : List (List UInt8)) : Bool := us.any fun u => hasB a u

def dashAt (a : List UInt8) (j : Nat) : List UInt8 := a.take j ++ [45] ++ a.drop (j + 1)

theorem dashAt_length {a : List UInt8} {j : Nat} (h : j < a.length) : (dashAt a j).length = a.length := by simp [dashAt]; omega

def primeB (a : List UInt8) (off : List (List UInt8)) : Bool := allB a.length fun j => !(isLit a j && !anyB (dashAt a j) off)

def primP (on off : List (List UInt8)) (a : List UInt8) : Bool := anyB a on && (!anyB a off && primeB a off)

def primL (n : Nat) (on off : List (List UInt8)) : List (List UInt8) := (cubes n).filter (primP on off)

theorem sp_spec_l14Any (a : List UInt8) (us : List (List UInt8)) (hn : us.length ≤ 1048576) (ha : a.length ≤ 1048576) (hx : ∀ u ∈ us, a.length ≤ u.length) : Sp Tryz.prog 252 [(.str a), (.slice false 1 (us.map D.str))] [.any, .any] (.bool (anyB a us)) := by
 refine Sp_intro (lend := true) Tryz.func252 rfl rfl rfl (fun _ => rfl) (fun c hc hX => ?_)
 refine Ts hc (Ch.s (dB false) pa (Ch.nil (Tq (Ts hc (Ch.s (.d (.slice false 1 (us.map D.str))) pm ?_)))))
 refine Ch.s (dI (us.length : Int)) (.pure (.len _ _ 9 rfl Tryz.underlying23 (.sh _ _) (by simp))) (Ch.s (dI 0) pm (Ch.nil (Tb ?_)))
 refine T_loop (ι := Nat) (fun k => { n := 17, sl := [(0, (dS a)), (7, (.d (.slice false 1 (us.map D.str)))), (8, (dI (us.length : Int))), (9, (dI (k : Int)))], hp := [], pin := [] }) (fun k => k ≤ us.length ∧ ∀ j, j < k → hasB a (us.getD j default) = false) (fun k => us.length - k) ⟨0, ⟨by omega, fun j hj => by omega⟩, (Wk.of rfl rfl (ar (ar (ar (ai (vI a126) trivial)))) trivial)⟩ (fun k hp0 => ?_)
 refine Ts hc (Ch.s (dB (decide ((k : Int) < (us.length : Int)))) (iX rfl rfl rfl) (Ch.nil (Tq ?_)))
 refine T_condD (p := ((k : Int) < (us.length : Int))) rfl (fun h1 => ?_) (fun h1 => ?_)
 ·
  try have hk := hx _ (getD_mem (l := us) (j := k) (d := default) (by omega))
  refine Tk (Tq (Tb (Ts hc (Ch.s (.d (.ref (.str (us.getD k default)))) (.pure (.idx _ _ _ 9 (k) rfl Tryz.underlying23 sz9 rfl rfl rfl get_mapA)) (Ch.s (dS (us.getD k default)) (rF ag9 rfl rfl) (Ch.s (dS (us.getD k default)) pa ?_))))))
  refine Ch.nil (Ts hc (Ch.s (dS a) pm (Ch.s (dS (us.getD k default)) pm (Ch.s (dB (hasB a (us.getD k default))) (.call 15000 197 _ _ _ en197 rfl (.inl rfl) (.cons (.d _) (.cons (.d _) .nil)) rfl rfl (sp_spec_l13Has a (us.getD k default) a26 a26) (.skip _ _ (.skip _ _ .nil)) rfl) (Ch.nil ?_)))))
  refine T_cond (b := (hasB a (us.getD k default))) rfl (fun h2 => ?_) (fun h2 => ?_)
  ·
   refine Ts hc (Ch.s (dB true) pa (Ch.nil (T_ret ?_)))
   exact eR [(dB true)] [] [] (.cons (.tmp 4 rfl) .nil) eB (Exp.of (congrArg D.bool (by exact any_yes default k (by omega) (by assumption))) (.d _))
  ·
   refine Tk (Tz hc (Ch.s (dI ((k : Int) + 1)) (iX rfl rfl intV_addA) (Ch.s (dI ((k : Int) + 1)) pm (Ch.nil ?_))))
   exact nx (k + 1) ⟨by omega, upto_succ hp0.2 (by assumption)⟩ (Wk.of rfl rfl (ar (ar (ar (ai (vI a126) trivial)))) trivial)
 ·
  try have hk := hx _ (getD_mem (l := us) (j := k) (d := default) (by omega))
  refine T_exit (Ts hc (Ch.s (dB false) pa (Ch.nil (T_ret ?_))))
  exact eR [(dB false)] [] [] (.cons (.tmp 4 rfl) .nil) eB (Exp.of (congrArg D.bool a124) (.d _))

theorem sp_impl_avoids_1 (u a : List UInt8) (ha : a.length ≤ 1048576) (hl : a.length ≤ u.length) : Sp Tryz.prog 259 [(.str u), (.ref (.str a))] [.any, .any] (.bool (hasB a u)) := by
 refine Sp_intro (lend := true) Tryz.func259 rfl rfl rfl (fun _ => rfl) (fun c hc hX => ?_)
 refine Ts hc (Ch.s (dB false) pa (Ch.nil (Ts hc (Ch.s (dS a) (rF ag9 rfl rfl) (Ch.s (dS u) pm ?_)))))
 refine Ch.s (dB (hasB a u)) (.call 6000 198 _ _ _ en198 rfl (.inl rfl) (.cons (.d _) (.cons (.d _) .nil)) rfl rfl (sp_impl_contains a u a26 a26) (.skip _ _ (.skip _ _ .nil)) rfl) (Ch.s (dB (hasB a u)) pa (Ch.nil (T_ret ?_)))
 exact eR [(dB (hasB a u))] [] [] (.cons (.tmp 3 rfl) .nil) eB (.d _)

theorem sp_impl_avoids (a : List UInt8) (us : List (List UInt8)) (hn : us.length ≤ 1048576) (ha : a.length ≤ 1048576) (hx : ∀ u ∈ us, a.length ≤ u.length) : Sp Tryz.prog 225 [(.str a), (.slice false 1 (us.map D.str))] [.any, .any] (.bool (!anyB a us)) := by
 refine Sp_intro (lend := true) Tryz.func225 rfl rfl rfl (fun _ => rfl) (fun c hc hX => ?_)
 refine Ts hc (Ch.s (.ptr 2000 0) (.box 2000 _ _ rfl (.one _ rfl)) (Ch.s (dB false) pa (Ch.nil (Ts hc (Ch.s (.d (.slice false 1 (us.map D.str))) pm ?_)))))
 refine Ch.s (.fn 259 [(.ptr 2000 0)]) (.pure (.func _ _ rfl rfl)) (Ch.s (dB (us.any (fun u => hasB a u))) (.call 7000 178 _ _ _ en178 rfl (.inl rfl) (.cons (.d _) (.cons (.lend (.fn (.cons (.ptr rfl (.one (.d _) rfl)) .nil))) .nil)) rfl rfl (sp_ContainsFunc_str us 259 [(.ref (.str a))] (fun u => hasB a u) en259 (fun u hu => sp_impl_avoids_1 u a a26 (hx u hu)) a26) (.skip _ _ (.skip _ _ .nil)) rfl) (Ch.s (dB (!(us.any (fun u => hasB a u)))) (nT rfl) (Ch.s (dB (!(us.any (fun u => hasB a u)))) pa (Ch.nil (T_ret ?_)))))
 exact eR [(dB (!(us.any (fun u => hasB a u))))] [] [] (.cons (.tmp 4 rfl) .nil) eB (Exp.of (congrArg D.bool (by rfl)) (.d _))

theorem sp_spec_l14Prime (a : List UInt8) (off : List (List UInt8)) (hn : off.length ≤ 1048576) (ha : a.length ≤ 1048576) (hx : ∀ u ∈ off, a.length ≤ u.length) : Sp Tryz.prog 253 [(.str a), (.slice false 1 (off.map D.str))] [.any, .any] (.bool (primeB a off)) := by
 refine Sp_intro (lend := true) Tryz.func253 rfl rfl rfl (fun _ => rfl) (fun c hc hX => ?_)
 refine Ts hc (Ch.s (dB false) pa (Ch.nil (Tq (Ts hc (Ch.s (dI 0) pa ?_)))))
 refine Ch.nil (Tb ?_)
 refine T_loop (ι := Nat) (fun k => { n := 24, sl := [(0, (dS a)), (1, (.d (.slice false 1 (off.map D.str)))), (5, (dI (k : Int)))], hp := [], pin := [] }) (fun k => k ≤ a.length ∧ ∀ j, j < k → (!(isLit a j && !anyB (dashAt a j) off)) = true) (fun k => a.length - k) ⟨0, ⟨by omega, fun j hj => by omega⟩, (Wk.of rfl rfl (ar (ar (ai (vI a126) trivial))) trivial)⟩ (fun k hp0 => ?_)
 refine Tq (Ts hc (Ch.s (dI (k : Int)) pm (Ch.s (dS a) pm (Ch.s (dI (a.length : Int)) (.pure (.lenStr _ _ rfl Tryz.underlying9 rfl)) (Ch.s (dB (decide ((k : Int) < (a.length : Int)))) (iX rfl rfl rfl) (Ch.nil ?_))))))
 refine T_condD (p := ((k : Int) < (a.length : Int))) rfl (fun h1 => ?_) (fun h1 => ?_)
 ·
  try have hdl := dashAt_length (a := a) (j := k) (by omega)
  try have hdx : ∀ u ∈ off, (dashAt a k).length ≤ u.length := fun u hu => by (rw [hdl]; exact hx u hu)
  try have hds : (a.take k ++ [45] ++ a.drop (k + 1)).length ≤ 1048576 := by (rw [show (a.take k ++ [45] ++ a.drop (k + 1)).length = a.length from hdl]; exact ha)
  refine Tk (Tq (Tb (Ts hc (Ch.s (dS a) pm (Ch.s (dI (k : Int)) pm (Ch.s (.d (.int .u8 ((a.getD k 0).toNat : Int))) (.pure (.idxStr _ _ _ (k) rfl Tryz.underlying9 rfl rfl rfl get_strA)) ?_))))))
  refine Ch.s (dB (!(decide (((a.getD k 0) : UInt8) = 45)))) (iX rfl rfl (u8_neq ((a.getD k 0) : UInt8) 45 rfl rfl)) (Ch.s (dB (!(decide (((a.getD k 0) : UInt8) = 45)))) pm ?_)
  cases h2 : (decide (((a.getD k 0) : UInt8) = 45)) with
  | true =>
   replace h2 := odt h2
   refine Ck (Ck (Ck (Ck (Ck (Ck (Ch.s (dB false) (pF rfl) (Ch.nil ?_)))))))
   refine T_cond (b := false) rfl (fun h => nomatch h) (fun _ => ?_)
   refine Tk (Tz hc (Ch.s (dI (k : Int)) pm (Ch.s (dI ((k : Int) + 1)) (iX rfl rfl intV_addA) (Ch.s (dI ((k : Int) + 1)) pa (Ch.nil ?_)))))
   exact nx (k + 1) ⟨by omega, upto_succ hp0.2 (by simp_all [isLit, dashAt])⟩ (Wk.of rfl rfl (ar (ar (ai (vI a126) trivial))) trivial)
  | false =>
   replace h2 := odf h2
   refine Ch.s (dS a) pm (Ch.s (dI (k : Int)) pm (Ch.s (dS (dashAt a k)) (.call 19000 220 _ _ _ en220 rfl (.inl rfl) (.cons (.d _) (.cons (.d _) (.cons (.d _) .nil))) rfl rfl (sp_spec_l5Set a (k : Int) ([45]) a26 a130 a26 a26) (.skip _ _ (.skip _ _ (.skip _ _ .nil))) rfl) (Ch.s (.d (.slice false 1 (off.map D.str))) pm (Ch.s (dB (anyB (dashAt a k) off)) (.call 21000 252 _ _ _ en252 rfl (.inl rfl) (.cons (.d _) (.cons (.d _) .nil)) rfl rfl (sp_spec_l14Any (dashAt a k) off a26 a26 a26) (.skip _ _ (.skip _ _ .nil)) rfl) (Ch.s (dB (!(anyB (dashAt a k) off))) (nT rfl) (Ch.s (dB (!(anyB (dashAt a k) off))) (pT rfl) (Ch.nil ?_)))))))
   refine T_condN (b := (anyB (dashAt a k) off)) rfl (fun h3 => ?_) (fun h3 => ?_)
   ·
    refine Ts hc (Ch.s (dB false) pa (Ch.nil (T_ret ?_)))
    exact eR [(dB false)] [] [] (.cons (.tmp 4 rfl) .nil) eB (Exp.of (congrArg D.bool a65) (.d _))
   ·
    refine Tk (Tz hc (Ch.s (dI (k : Int)) pm (Ch.s (dI ((k : Int) + 1)) (iX rfl rfl intV_addA) (Ch.s (dI ((k : Int) + 1)) pa (Ch.nil ?_)))))
    exact nx (k + 1) ⟨by omega, upto_succ hp0.2 (by simp_all [isLit, dashAt])⟩ (Wk.of rfl rfl (ar (ar (ai (vI a126) trivial))) trivial)
 ·
  try have hdl := dashAt_length (a := a) (j := k) (by omega)
  try have hdx : ∀ u ∈ off, (dashAt a k).length ≤ u.length := fun u hu => by (rw [hdl]; exact hx u hu)
  try have hds : (a.take k ++ [45] ++ a.drop (k + 1)).length ≤ 1048576 := by (rw [show (a.take k ++ [45] ++ a.drop (k + 1)).length = a.length from hdl]; exact ha)
  refine T_exit (Ts hc (Ch.s (dB true) pa (Ch.nil (T_ret ?_))))
  exact eR [(dB true)] [] [] (.cons (.tmp 4 rfl) .nil) eB (Exp.of (congrArg D.bool a65) (.d _))

theorem sp_impl_isPrime (a : List UInt8) (off : List (List UInt8)) (hn : off.length ≤ 1048576) (ha : a.length ≤ 1048576) (hx : ∀ u ∈ off, a.length ≤ u.length) : Sp Tryz.prog 226 [(.str a), (.slice false 1 (off.map D.str))] [.any, .any] (.bool (primeB a off)) := by
 refine Sp_intro (lend := true) Tryz.func226 rfl rfl rfl (fun _ => rfl) (fun c hc hX => ?_)
 refine Ts hc (Ch.s (dB false) pa (Ch.nil (Tq (Ts hc (Ch.s (dS a) pm ?_)))))
 refine Ch.s (dI (a.length : Int)) (.pure (.lenStr _ _ rfl Tryz.underlying9 rfl)) (Ch.s (dI 0) pm (Ch.nil (Tb ?_)))
 refine T_loop (ι := Nat) (fun k => { n := 29, sl := [(0, (dS a)), (1, (.d (.slice false 1 (off.map D.str)))), (7, (dI (a.length : Int))), (8, (dI (k : Int)))], hp := [], pin := [] }) (fun k => k ≤ a.length ∧ ∀ j, j < k → (!(isLit a j && !anyB (dashAt a j) off)) = true) (fun k => a.length - k) ⟨0, ⟨by omega, fun j hj => by omega⟩, (Wk.of rfl rfl (ar (ar (ar (ai (vI a126) trivial)))) trivial)⟩ (fun k hp0 => ?_)
 refine Ts hc (Ch.s (dB (decide ((k : Int) < (a.length : Int)))) (iX rfl rfl rfl) (Ch.nil (Tq ?_)))
 refine T_condD (p := ((k : Int) < (a.length : Int))) rfl (fun h1 => ?_) (fun h1 => ?_)
 ·
  try have hdl := dashAt_length (a := a) (j := k) (by omega)
  try have hdx : ∀ u ∈ off, (dashAt a k).length ≤ u.length := fun u hu => by (rw [hdl]; exact hx u hu)
  try have hds : (a.take k ++ [45] ++ a.drop (k + 1)).length ≤ 1048576 := by (rw [show (a.take k ++ [45] ++ a.drop (k + 1)).length = a.length from hdl]; exact ha)
  refine Tk (Tq (Tb (Ts hc (Ch.s (dI (k : Int)) pm (Ch.s (dI (k : Int)) pa (Ch.nil ?_))))))
  refine Tq ?_
  refine T_regionD hc (by kernel_rfl) ?_
  refine ChD.s (dS a) [] pm (ChD.s (dI (k : Int)) [] pm (ChD.s (.d (.int .u8 ((a.getD k 0).toNat : Int))) [] (.pure (.idxStr _ _ _ (k) rfl Tryz.underlying9 rfl rfl rfl get_strA)) (ChD.s (dB (!(decide (((a.getD k 0) : UInt8) = 45)))) [] (iX rfl rfl (u8_neq ((a.getD k 0) : UInt8) 45 rfl rfl)) (ChD.s (dB (!(decide (((a.getD k 0) : UInt8) = 45)))) [] pm ?_))))
  cases h2 : (decide (((a.getD k 0) : UInt8) = 45)) with
  | true =>
   replace h2 := odt h2
   refine ChD.skip rfl rfl (ChD.skip rfl rfl (ChD.skip rfl rfl (ChD.skip rfl rfl (ChD.skip rfl rfl (ChD.skip rfl rfl (ChD.skip rfl rfl (ChD.skip rfl rfl ?_)))))))
   refine ChD.skip rfl rfl (ChD.skip rfl rfl (ChD.skip rfl rfl (ChD.s (dB false) [] (pF rfl) ?_)))
   refine ChD.nil (And.intro ?_ (by kernel_rfl))
   refine T_cond (b := false) rfl (fun h => nomatch h) (fun _ => ?_)
   refine Tk (Tz hc (Ch.s (dI ((k : Int) + 1)) (iX rfl rfl intV_addA) (Ch.s (dI ((k : Int) + 1)) pm (Ch.nil ?_))))
   exact nx (k + 1) ⟨by omega, upto_succ hp0.2 (by simp_all [isLit, dashAt])⟩ (Wk.of rfl rfl (ar (ar (ar (ai (vI a126) trivial)))) trivial)
  | false =>
   replace h2 := odf h2
   refine ChD.s (dS a) [] pm (ChD.s (dI (k : Int)) [] pm (ChD.s (dS (a.take k)) [] (.pure (.sliceStr _ _ _ _ (0) (k) rfl Tryz.underlying9 rfl (bndN rfl) (bndS rfl rfl) a52 a52 (by simp))) (ChD.s (dS ((a.take k) ++ [45])) [] (.pure (.str _ _ _ _ _ rfl rfl rfl (strV_add a52))) (ChD.s (dS a) [] pm (ChD.s (dI (k : Int)) [] pm (ChD.s (dI ((k : Int) + 1)) [] (iX rfl rfl intV_addA) (ChD.s (dS (a.drop (k + 1))) [] (.pure (.sliceStr _ _ _ _ ((k + 1)) (a.length) rfl Tryz.underlying9 rfl (bndS rfl (by omega)) (bndN rfl) a52 a52 (by simp))) ?_)))))))
   refine ChD.s (dS (((a.take k) ++ [45]) ++ (a.drop (k + 1)))) [] (.pure (.str _ _ _ _ _ rfl rfl rfl (strV_add a52))) (ChD.s (.d (.slice false 1 (off.map D.str))) [] pm (ChD.s (dB (!anyB (((a.take k) ++ [45]) ++ (a.drop (k + 1))) off)) [] (.call 26000 225 _ _ _ en225 rfl (.inl rfl) (.cons (.d _) (.cons (.d _) .nil)) rfl rfl (sp_impl_avoids (((a.take k) ++ [45]) ++ (a.drop (k + 1))) off a26 a26 a26) (.skip _ _ (.skip _ _ .nil)) rfl) (ChD.s (dB (!anyB (((a.take k) ++ [45]) ++ (a.drop (k + 1))) off)) [] (pT rfl) ?_)))
   refine ChD.nil (And.intro ?_ (by kernel_rfl))
   refine T_cond (b := (!anyB (((a.take k) ++ [45]) ++ (a.drop (k + 1))) off)) rfl (fun h3 => ?_) (fun h3 => ?_)
   ·
    refine Ts hc (Ch.s (dB false) pa (Ch.nil (T_ret ?_)))
    exact eR [(dB false)] [] [] (.cons (.tmp 4 rfl) .nil) eB (Exp.of (congrArg D.bool a65) (.d _))
   ·
    refine Tk (Tz hc (Ch.s (dI ((k : Int) + 1)) (iX rfl rfl intV_addA) (Ch.s (dI ((k : Int) + 1)) pm (Ch.nil ?_))))
    exact nx (k + 1) ⟨by omega, upto_succ hp0.2 (by simp_all [isLit, dashAt])⟩ (Wk.of rfl rfl (ar (ar (ar (ai (vI a126) trivial)))) trivial)
 ·
  try have hdl := dashAt_length (a := a) (j := k) (by omega)
  try have hdx : ∀ u ∈ off, (dashAt a k).length ≤ u.length := fun u hu => by (rw [hdl]; exact hx u hu)
  try have hds : (a.take k ++ [45] ++ a.drop (k + 1)).length ≤ 1048576 := by (rw [show (a.take k ++ [45] ++ a.drop (k + 1)).length = a.length from hdl]; exact ha)
  refine T_exit (Ts hc (Ch.s (dB true) pa (Ch.nil (T_ret ?_))))
  exact eR [(dB true)] [] [] (.cons (.tmp 4 rfl) .nil) eB (Exp.of (congrArg D.bool a65) (.d _))

theorem sp_spec_l14Primes (n : Int) (on off : List (List UInt8)) (h0 : 0 ≤ n) (h8 : n ≤ 8) (hn1 : on.length ≤ 1048576) (hn2 : off.length ≤ 1048576) (ho1 : ∀ u ∈ on, (u.length : Int) = n) (ho2 : ∀ u ∈ off, (u.length : Int) = n) : Sp Tryz.prog 210 [(.int .i64 n), (.slice false 1 (on.map D.str)), (.slice false 1 (off.map D.str))] [.any, .any, .any] (.slice true 1 ((primL n.toNat on off).map D.str)) := by
 refine Sp_intro (lend := true) Tryz.func210 rfl rfl rfl (fun _ => rfl) (fun c hc hX => ?_)
 have hcl := cubes_length n.toNat; have hp3 : 3 ^ n.toNat ≤ 3 ^ 8 := Nat.pow_le_pow_right (by omega) (by omega)
 refine Ts hc (Ch.s (.c (.slice none 0 0)) pa (Ch.nil (Ts hc (Ch.s (.c (.slice none 0 0)) pa (Ch.nil ?_)))))
 refine Tq (Ts hc (Ch.s (dI n) pm ?_))
 refine Ch.step (v := (.row 11000)) rfl (.call 11000 199 _ _ _ en199 rfl (.inl rfl) (.cons (.d _) .nil) rfl (sol (solid_row (fun _ => rfl) _) rfl) (sp_spec_l14Cubes n a26 a26) (.skip _ _ .nil) rfl) rfl rfl ?_
 refine Ch.s (dI ((cubes n.toNat).length : Int)) (.pure (.len _ _ 9 rfl Tryz.underlying23 (.row rfl) (by simp))) (Ch.s (dI 0) pm (Ch.nil (Tb ?_)))
 refine T_loop (ι := Nat) (fun k => { n := 37, sl := [(1, (.d (.slice false 1 (on.map D.str)))), (2, (.d (.slice false 1 (off.map D.str)))), (7, (.row 7)), (11, (.row 11000)), (12, (dI ((cubes n.toNat).length : Int))), (13, (dI (k : Int)))], hp := [(7, (some (.row 1 ((ftake (primP on off) (cubes n.toNat) k).map D.str)))), (11000, (some (.row 1 ((cubes n.toNat).map D.str))))], pin := [] }) (fun k => k ≤ (cubes n.toNat).length) (fun k => (cubes n.toNat).length - k) ⟨0, (by omega), (Wk.trans (Wk.nilrow 7 900007 1 rfl rfl rfl) (Wk.ren [(7, 900007)] rfl rfl rfl rfl (ar (ar (ar (ar (ar (ai (vI a126) trivial)))))) (ai (oR a56) (ar trivial))))⟩ (fun k hp0 => ?_)
 have hq := ftake_le (primP on off) (cubes n.toNat) k
 refine Ts hc (Ch.s (dB (decide ((k : Int) < ((cubes n.toNat).length : Int)))) (iX rfl rfl rfl) (Ch.nil (Tq ?_)))
 refine T_condD (p := ((k : Int) < ((cubes n.toNat).length : Int))) rfl (fun h1 => ?_) (fun h1 => ?_)
 ·
  try have hk := cubes_mem n.toNat _ (getD_mem (l := (cubes n.toNat)) (j := k) (d := default) (by omega))
  try have hk1 : ∀ u ∈ on, ((cubes n.toNat).getD k default).length ≤ u.length := fun u hu => by (have := ho1 u hu; omega)
  try have hk2 : ∀ u ∈ off, ((cubes n.toNat).getD k default).length ≤ u.length := fun u hu => by (have := ho2 u hu; omega)
  refine Tk (Tq (Tb (Ts hc (Ch.s (.el 11000 1 k 0) (.pure (.idxRow _ _ _ 9 (k) rfl Tryz.underlying23 sz9 rfl rfl rfl rfl a96)) (Ch.s (dS ((cubes n.toNat).getD k default)) (.pure (.loadEl1 _ _ rfl ag9 rfl rfl get_mapA rfl rfl rfl)) (Ch.s (dS ((cubes n.toNat).getD k default)) pa ?_))))))
  refine Ch.nil (Ts hc (Ch.s (dS ((cubes n.toNat).getD k default)) pm (Ch.s (.d (.slice false 1 (on.map D.str))) pm (Ch.s (dB (anyB ((cubes n.toNat).getD k default) on)) (.call 19000 252 _ _ _ en252 rfl (.inl rfl) (.cons (.d _) (.cons (.d _) .nil)) rfl rfl (sp_spec_l14Any ((cubes n.toNat).getD k default) on a26 a26 a26) (.skip _ _ (.skip _ _ .nil)) rfl) (Ch.s (dB (anyB ((cubes n.toNat).getD k default) on)) pm ?_)))))
  cases h2 : (anyB ((cubes n.toNat).getD k default) on) with
  | true =>
   refine Ch.s (dS ((cubes n.toNat).getD k default)) pm (Ch.s (.d (.slice false 1 (off.map D.str))) pm (Ch.s (dB (anyB ((cubes n.toNat).getD k default) off)) (.call 23000 252 _ _ _ en252 rfl (.inl rfl) (.cons (.d _) (.cons (.d _) .nil)) rfl rfl (sp_spec_l14Any ((cubes n.toNat).getD k default) off a26 a26 a26) (.skip _ _ (.skip _ _ .nil)) rfl) (Ch.s (dB (!(anyB ((cubes n.toNat).getD k default) off))) (nT rfl) (Ch.s (dB (!(anyB ((cubes n.toNat).getD k default) off))) (pT rfl) (Ch.s (dB (!(anyB ((cubes n.toNat).getD k default) off))) pm ?_)))))
   cases h3 : (anyB ((cubes n.toNat).getD k default) off) with
   | true =>
    refine Ck (Ck (Ck (Ch.s (dB false) (pF rfl) (Ch.nil ?_))))
    refine T_cond (b := false) rfl (fun h => nomatch h) (fun _ => ?_)
    refine Tk (Tz hc (Ch.s (dI ((k : Int) + 1)) (iX rfl rfl intV_addA) (Ch.s (dI ((k : Int) + 1)) pm (Ch.nil ?_))))
    exact nx (k + 1) (by omega) (Wk.of rfl rfl (ar (ar (ar (ar (ar (ai (vI a126) trivial)))))) (ai (oR a56) (ar trivial)))
   | false =>
    refine Ch.s (dS ((cubes n.toNat).getD k default)) pm (Ch.s (.d (.slice false 1 (off.map D.str))) pm (Ch.s (dB (primeB ((cubes n.toNat).getD k default) off)) (.call 29000 253 _ _ _ en253 rfl (.inl rfl) (.cons (.d _) (.cons (.d _) .nil)) rfl rfl (sp_spec_l14Prime ((cubes n.toNat).getD k default) off a26 a26 a26) (.skip _ _ (.skip _ _ .nil)) rfl) (Ch.s (dB (primeB ((cubes n.toNat).getD k default) off)) (pT rfl) (Ch.nil ?_))))
    refine T_cond (b := (primeB ((cubes n.toNat).getD k default) off)) rfl (fun h4 => ?_) (fun h4 => ?_)
    ·
     refine Tz hc (Ch.s (.row 7) pm (Ch.s (dS ((cubes n.toNat).getD k default)) pm (Ch.s (.row 33000) (.slice 33000 _ 9 _ rfl sty23 (xs := [.tmp 32]) rfl rfl (.cons (.d _) .nil) rfl rfl (by decide)) ?_)))
     refine Ch.step (v := (.row 34000)) rfl (.append 34000 _ _ _ 9 rfl sty23 (by decide) (.rowK rfl) (.inr ⟨_, rfl, rfl⟩) (.row rfl rfl) rfl a69) rfl rfl ?_
     refine Ch.s (.row 34000) pa (Ch.nil (Tz hc (Ch.s (dI ((k : Int) + 1)) (iX rfl rfl intV_addA) (Ch.s (dI ((k : Int) + 1)) pm (Ch.nil ?_)))))
     exact nx (k + 1) (by omega) (Wk.ren [(7, 34000)] rfl rfl rfl rfl (ar (ar (ar (ar (ar (ai (vI a126) trivial)))))) (ai (oR a56) (ar trivial)))
    ·
     refine Tk (Tz hc (Ch.s (dI ((k : Int) + 1)) (iX rfl rfl intV_addA) (Ch.s (dI ((k : Int) + 1)) pm (Ch.nil ?_))))
     exact nx (k + 1) (by omega) (Wk.of rfl rfl (ar (ar (ar (ar (ar (ai (vI a126) trivial)))))) (ai (oR a56) (ar trivial)))
  | false =>
   refine Ck (Ck (Ck (Ck (Ch.s (dB false) (pF rfl) (Ch.s (dB false) pm (Ck (Ch.skip rfl rfl ?_)))))))
   refine Ck (Ch.s (dB false) (pF rfl) (Ch.nil ?_))
   refine T_cond (b := false) rfl (fun h => nomatch h) (fun _ => ?_)
   refine Tk (Tz hc (Ch.s (dI ((k : Int) + 1)) (iX rfl rfl intV_addA) (Ch.s (dI ((k : Int) + 1)) pm (Ch.nil ?_))))
   exact nx (k + 1) (by omega) (Wk.of rfl rfl (ar (ar (ar (ar (ar (ai (vI a126) trivial)))))) (ai (oR a56) (ar trivial)))
 ·
  try have hk := cubes_mem n.toNat _ (getD_mem (l := (cubes n.toNat)) (j := k) (d := default) (by omega))
  try have hk1 : ∀ u ∈ on, ((cubes n.toNat).getD k default).length ≤ u.length := fun u hu => by (have := ho1 u hu; omega)
  try have hk2 : ∀ u ∈ off, ((cubes n.toNat).getD k default).length ≤ u.length := fun u hu => by (have := ho2 u hu; omega)
  refine T_exit (Ts hc (Ch.s (.row 7) pm (Ch.s (.row 7) pa (Ch.nil (T_ret ?_)))))
  exact eR [(.row 7)] [] [7] (.cons (.tmp 6 rfl) .nil) eC (Exp.of (congrArg (D.slice true 1) (by rw [ftake_all (by omega)]; rfl)) (.row rfl))

theorem sp_impl_primes_1 (a : List UInt8) (on off : List (List UInt8)) (hn1 : on.length ≤ 1048576) (hn2 : off.length ≤ 1048576) (ha : a.length ≤ 1048576) (hk1 : ∀ u ∈ on, a.length ≤ u.length) (hk2 : ∀ u ∈ off, a.length ≤ u.length) : Sp Tryz.prog 224 [(.str a), (.ref (.slice false 1 (on.map D.str))), (.ref (.slice false 1 (off.map D.str)))] [.any, .any, .any] (.bool (!primP on off a)) := by
 refine Sp_intro (lend := true) Tryz.func224 rfl rfl rfl (fun _ => rfl) (fun c hc hX => ?_)
 refine Ts hc (Ch.s (dB false) pa (Ch.nil (Ts hc (Ch.s (dS a) pm (Ch.s (.d (.slice false 1 (on.map D.str))) (rF ag23 rfl rfl) ?_)))))
 refine Ch.s (dB (!anyB a on)) (.call 7000 225 _ _ _ en225 rfl (.inl rfl) (.cons (.d _) (.cons (.d _) .nil)) rfl rfl (sp_impl_avoids a on a26 a26 a26) (.skip _ _ (.skip _ _ .nil)) rfl) (Ch.s (dB (!anyB a on)) pm ?_)
 cases h1 : (!anyB a on) with
 | true =>
  refine Ck (Ck (Ck (Ck (Ch.s (dB true) (pT rfl) (Ch.s (dB true) pm (Ck (Ch.skip rfl rfl ?_)))))))
  refine Ck (Ck (Ch.s (dB true) (pT rfl) (Ch.s (dB true) pa (Ch.nil (T_ret ?_)))))
  exact eR [(dB true)] [] [] (.cons (.tmp 4 rfl) .nil) eC (Exp.of (congrArg D.bool a109) (.d _))
 | false =>
  refine Ch.s (dS a) pm (Ch.s (.d (.slice false 1 (off.map D.str))) (rF ag23 rfl rfl) (Ch.s (dB (!anyB a off)) (.call 11000 225 _ _ _ en225 rfl (.inl rfl) (.cons (.d _) (.cons (.d _) .nil)) rfl rfl (sp_impl_avoids a off a26 a26 a26) (.skip _ _ (.skip _ _ .nil)) rfl) (Ch.s (dB (!(!anyB a off))) (nT rfl) (Ch.s (dB (!(!anyB a off))) (pF rfl) (Ch.s (dB (!(!anyB a off))) pm ?_)))))
  cases h2 : (!anyB a off) with
  | true =>
   refine Ch.s (dS a) pm (Ch.s (.d (.slice false 1 (off.map D.str))) (rF ag23 rfl rfl) (Ch.s (dB (primeB a off)) (.call 17000 226 _ _ _ en226 rfl (.inl rfl) (.cons (.d _) (.cons (.d _) .nil)) rfl rfl (sp_impl_isPrime a off a26 a26 a26) (.skip _ _ (.skip _ _ .nil)) rfl) (Ch.s (dB (!(primeB a off))) (nT rfl) (Ch.s (dB (!(primeB a off))) (pF rfl) (Ch.s (dB (!(primeB a off))) pa (Ch.nil (T_ret ?_)))))))
   exact eR [(dB (!(primeB a off)))] [] [] (.cons (.tmp 4 rfl) .nil) eC (Exp.of (congrArg D.bool a109) (.d _))
  | false =>
   refine Ck (Ck (Ck (Ck (Ch.s (dB true) (pT rfl) (Ch.s (dB true) pa (Ch.nil (T_ret ?_)))))))
   exact eR [(dB true)] [] [] (.cons (.tmp 4 rfl) .nil) eC (Exp.of (congrArg D.bool a109) (.d _))

theorem primL_del (n : Nat) (on off : List (List UInt8)) : (cubes n).filter (fun u => !(fun u => !primP on off u) u) = primL n on off := by
 unfold primL; congr 1; funext u; simp

theorem primL_le (n : Nat) (on off : List (List UInt8)) : (primL n on off).length ≤ 3 ^ n := by
 rw [← cubes_length n]; exact List.length_filter_le _ _

theorem primL_mem {n : Nat} {on off : List (List UInt8)} : ∀ u ∈ primL n on off, u.length = n := fun u hu => cubes_mem n u (List.mem_filter.1 hu).1

def primOk (n : Int) (on off : List (List UInt8)) : Bool := onoffB n on off && decide (((primL n.toNat on off).length : Int) ≤ 60)

def primR (n : Int) (on off : List (List UInt8)) : List (List UInt8) := if primOk n on off then primL n.toNat on off else []

theorem sp_impl_primes (n : Int) (on off : List (List UInt8)) (h0 : 0 ≤ n) (h8 : n ≤ 8) (hn1 : on.length ≤ 1048576) (hn2 : off.length ≤ 1048576) (ho1 : ∀ u ∈ on, (u.length : Int) = n) (ho2 : ∀ u ∈ off, (u.length : Int) = n) : Sp Tryz.prog 175 [(.int .i64 n), (.slice false 1 (on.map D.str)), (.slice false 1 (off.map D.str))] [.any, .any, .any] (.tup [(.slice true 1 ((primL n.toNat on off).map D.str)), (.bool (decide (((primL n.toNat on off).length : Int) ≤ 60)))]) := by
 refine Sp_intro (lend := true) Tryz.func175 rfl rfl rfl (fun _ => rfl) (fun c hc hX => ?_)
 have hcl := cubes_length n.toNat; have hp3 : 3 ^ n.toNat ≤ 3 ^ 8 := Nat.pow_le_pow_right (by omega) (by omega)
 refine Ts hc (Ch.s (.ptr 4000 0) (.box 4000 _ _ rfl (.one _ rfl)) (Ch.s (.ptr 5000 0) (.box 5000 _ _ rfl (.one _ rfl)) (Ch.s (.c (.slice none 0 0)) pa (Ch.s (dB false) pa (Ch.nil (Tq ?_))))))
 refine Tz hc (Ch.s (dI n) pm ?_)
 refine Ch.step (v := (.row 10000)) rfl (.call 10000 201 _ _ _ en201 rfl (.inl rfl) (.cons (.d _) .nil) rfl (sol (solid_row (fun _ => rfl) _) rfl) (sp_impl_allCubes n a26 a26) (.skip _ _ .nil) rfl) rfl rfl ?_
 refine Ch.s (.fn 224 [(.ptr 4000 0), (.ptr 5000 0)]) (.pure (.func _ _ rfl rfl)) ?_
 refine Ch.step (v := (.row 12000)) rfl (.call 12000 223 _ _ _ en223 rfl (.inl rfl) (.cons (.row rfl) (.cons (.lend (.fn (.cons (.ptr rfl (.one (.d _) rfl)) (.cons (.ptr rfl (.one (.d _) rfl)) .nil)))) .nil)) rfl (sol (solid_row (fun _ => rfl) _) rfl) (sp_DeleteFunc_str (cubes n.toNat) 224 [(.ref (.slice false 1 (on.map D.str))), (.ref (.slice false 1 (off.map D.str)))] (fun u => !primP on off u) en224 (fun u hu => sp_impl_primes_1 u on off hn1 hn2 (by have h6 := cubes_mem _ u hu; omega) (fun v hv => by (have h6 := cubes_mem _ u hu; have h7 := ho1 v hv; omega)) (fun v hv => by (have h6 := cubes_mem _ u hu; have h7 := ho2 v hv; omega))) a26) (.skip _ _ (.skip _ _ .nil)) rfl) rfl rfl ?_
 refine Ch.s (.row 12000) pa (Ch.nil (Ts hc (Ch.s (.row 12000) pm (Ch.s (.row 12000) pm (Ch.s (dI ((((cubes n.toNat).filter (fun u => !(fun u => !primP on off u) u)).length : Nat) : Int)) (.pure (.len _ _ 9 rfl Tryz.underlying23 (.row rfl) (by simp))) (Ch.s (dB (decide (((((cubes n.toNat).filter (fun u => !(fun u => !primP on off u) u)).length : Nat) : Int) ≤ 60))) (iX rfl rfl rfl) ?_))))))
 refine Ch.s (.row 12000) pa (Ch.s (dB (decide (((((cubes n.toNat).filter (fun u => !(fun u => !primP on off u) u)).length : Nat) : Int) ≤ 60))) pa (Ch.nil (T_ret ?_)))
 exact eR [(.row 12000), (dB (decide (((((cubes n.toNat).filter (fun u => !(fun u => !primP on off u) u)).length : Nat) : Int) ≤ 60)))] [] [12000] (.cons (.tmp 6 rfl) (.cons (.tmp 7 rfl) .nil)) eC (.tup (.cons (Exp.of (congrArg (D.slice true 1) (by first | rfl | (rw [primL_del]; done))) (.row rfl)) (.cons (Exp.of (congrArg D.bool (by first | rfl | (rw [primL_del]; done))) (.d _)) .nil)))

theorem sp_spec_Primes (n : Int) (on off : List (List UInt8)) (hn1 : on.length ≤ 1048576) (hx1 : ∀ x ∈ on, x.length ≤ 1048576) (hn2 : off.length ≤ 1048576) (hx2 : ∀ x ∈ off, x.length ≤ 1048576) : Sp Tryz.prog 150 [(.int .i64 n), (.slice false 1 (on.map D.str)), (.slice false 1 (off.map D.str))] [.any, .any, .any] (.tup [(.slice true 1 ((primR n on off).map D.str)), (.bool (primOk n on off))]) := by
 refine Sp_intro (lend := true) Tryz.func150 rfl rfl rfl (fun _ => rfl) (fun c hc hX => ?_)
 refine Ts hc (Ch.s (.c (.slice none 0 0)) pa (Ch.s (dB false) pa (Ch.nil (Tq (Tq (Tz hc ?_))))))
 refine Ch.s (dI n) pm (Ch.s (.d (.slice false 1 (on.map D.str))) pm (Ch.s (.d (.slice false 1 (off.map D.str))) pm (Ch.s (dB (onoffB n on off)) (.call 12000 136 _ _ _ en136 rfl (.inl rfl) (.cons (.d _) (.cons (.d _) (.cons (.d _) .nil))) rfl rfl (sp_spec_l14Sets n on off a26 a26 a26 a26) (.skip _ _ (.skip _ _ (.skip _ _ .nil))) rfl) (Ch.s (dB (!(onoffB n on off))) (nT rfl) (Ch.nil ?_)))))
 refine T_condN (b := (onoffB n on off)) rfl (fun h1 => ?_) (fun h1 => ?_)
 ·
  try have hop := onoff_parts h1
  try have h0 : 0 ≤ n := by (have := hop.1; omega)
  try have h8 := hop.1.2
  try have ho1 := hop.2.2.2.1
  try have ho2 := hop.2.2.2.2
  try have hpl := primL_le n.toNat on off
  try have hp3 : 3 ^ n.toNat ≤ 3 ^ 8 := Nat.pow_le_pow_right (by omega) (by omega)
  refine Ts hc (Ch.s (.c (.slice none 0 0)) pa (Ch.s (dB false) pa (Ch.nil (T_ret ?_))))
  exact eR [(.c (.slice none 0 0)), (dB false)] [] [] (.cons (.tmp 6 rfl) (.cons (.tmp 7 rfl) .nil)) eC (.tup (.cons (Exp.of (congrArg (D.slice true 1) a5) (.nil true 1)) (.cons (Exp.of (congrArg D.bool a5) (.d _)) .nil)))
 ·
  try have hop := onoff_parts h1
  try have h0 : 0 ≤ n := by (have := hop.1; omega)
  try have h8 := hop.1.2
  try have ho1 := hop.2.2.2.1
  try have ho2 := hop.2.2.2.2
  try have hpl := primL_le n.toNat on off
  try have hp3 : 3 ^ n.toNat ≤ 3 ^ 8 := Nat.pow_le_pow_right (by omega) (by omega)
  refine Tk (Ts hc (Ch.s (dI n) pm (Ch.s (.d (.slice false 1 (on.map D.str))) pm (Ch.s (.d (.slice false 1 (off.map D.str))) pm ?_))))
  refine Ch.step (v := (.row 17000)) rfl (.call 17000 210 _ _ _ en210 rfl (.inl rfl) (.cons (.d _) (.cons (.d _) (.cons (.d _) .nil))) rfl (sol (solid_row (fun _ => rfl) _) rfl) (sp_spec_l14Primes n on off a26 a26 a26 a26 a26 a26) (.skip _ _ (.skip _ _ (.skip _ _ .nil))) rfl) rfl rfl ?_
  refine Ch.s (.row 17000) pa (Ch.nil (Tq (Ts hc (Ch.s (.row 17000) pm (Ch.s (dI ((primL n.toNat on off).length : Int)) (.pure (.len _ _ 9 rfl Tryz.underlying23 (.row rfl) (by simp))) (Ch.s (dB (decide (60 < ((primL n.toNat on off).length : Int)))) (iX rfl rfl rfl) ?_))))))
  refine Ch.nil ?_
  refine T_condD (p := (60 < ((primL n.toNat on off).length : Int))) rfl (fun h2 => ?_) (fun h2 => ?_)
  ·
   refine Ts hc (Ch.s (.c (.slice none 0 0)) pa (Ch.s (dB false) pa (Ch.nil (T_ret ?_))))
   exact eR [(.c (.slice none 0 0)), (dB false)] [] [] (.cons (.tmp 6 rfl) (.cons (.tmp 7 rfl) .nil)) eC (.tup (.cons (Exp.of (congrArg (D.slice true 1) a5) (.nil true 1)) (.cons (Exp.of (congrArg D.bool a5) (.d _)) .nil)))
  ·
   refine Tk (Ts hc (Ch.s (.row 17000) pm (Ch.s (.row 17000) pa (Ch.s (dB true) pa (Ch.nil (T_ret ?_))))))
   exact eR [(.row 17000), (dB true)] [] [17000] (.cons (.tmp 6 rfl) (.cons (.tmp 7 rfl) .nil)) eC (.tup (.cons (Exp.of (congrArg (D.slice true 1) a5) (.row rfl)) (.cons (Exp.of (congrArg D.bool a5) (.d _)) .nil)))

theorem sp_Clone_str (xs : List (List UInt8)) (hn : xs.length ≤ 1048576) : Sp Tryz.prog 227 [(.slice false 1 (xs.map D.str))] [.any] (.slice true 1 (xs.map D.str)) := by
 refine Sp_intro (lend := true) Tryz.func227 rfl rfl rfl (fun _ => rfl) (fun c hc hX => ?_)
 refine Ts hc (Ch.s (.c (.slice none 0 0)) pa (Ch.nil (Tq (Ts hc (Ch.s (.d (.slice false 1 (xs.map D.str))) pm ?_)))))
 refine Ch.nilq (sz := 1) (xs := (xs.map D.str)) _ _ _ _ 9 rfl rfl Tryz.underlying23 (.sh _ _) rfl rfl (fun q1 hzq1 => ?_)
 refine Ch.nil ?_
 refine T_cond (b := (q1)) rfl (fun h1 => ?_) (fun h1 => ?_)
 ·
  try have hz := hzq1 h1
  refine Ts hc (Ch.s (.c (.slice none 0 0)) pa (Ch.nil (T_ret ?_)))
  exact eR [(.c (.slice none 0 0))] [] [] (.cons (.tmp 2 rfl) .nil) eA (Exp.of (congrArg (D.slice true 1) (by first | rfl | (rw [hz]; done))) (.nil true 1))
 ·
  try have hz := hzq1 h1
  refine Tk (Ts hc (Ch.s (.row 5000) (.slice 5000 _ 9 _ rfl sty23 (xs := []) rfl rfl .nil rfl rfl (by decide)) (Ch.s (.d (.slice false 1 (xs.map D.str))) pm ?_)))
  refine Ch.step (v := (.row 7000)) rfl (.append 7000 _ _ _ 9 rfl sty23 (by decide) (.rowK rfl) (.inr ⟨_, rfl, rfl⟩) (.sh _ _) rfl a69) rfl rfl ?_
  refine Ch.s (.row 7000) pa (Ch.nil (T_ret ?_))
  exact eR [(.row 7000)] [] [7000] (.cons (.tmp 2 rfl) .nil) eA (.row rfl)

theorem sp_spec_l1OwnS (xs : List (List UInt8)) (hn : xs.length ≤ 1048576) : Sp Tryz.prog 183 [(.slice false 1 (xs.map D.str))] [.any] (.slice true 1 (xs.map D.str)) := by
 refine Sp_intro (lend := true) Tryz.func183 rfl rfl rfl (fun _ => rfl) (fun c hc hX => ?_)
 refine Ts hc (Ch.s (.c (.slice none 0 0)) pa (Ch.nil (Ts hc (Ch.s (.row 3000) (.slice 3000 _ 9 _ rfl sty23 (xs := []) rfl rfl .nil rfl rfl (by decide)) (Ch.s (.d (.slice false 1 (xs.map D.str))) pm ?_)))))
 refine Ch.step (v := (.row 5000)) rfl (.append 5000 _ _ _ 9 rfl sty23 (by decide) (.rowK rfl) (.inr ⟨_, rfl, rfl⟩) (.sh _ _) rfl a69) rfl rfl ?_
 refine Ch.s (.row 5000) pa (Ch.nil (T_ret ?_))
 exact eR [(.row 5000)] [] [5000] (.cons (.tmp 2 rfl) .nil) eA (.row rfl)

theorem fld151_0 : FieldIs Tryz.prog 151 0 0 1 false := FieldIs.mk Tryz.underlying151 rfl rfl sz9 ag9 rfl

theorem sz151 : SizeIs Tryz.prog 151 2 := by unfold SizeIs; kernel_rfl

theorem ag151 : AggIs Tryz.prog 151 true := by unfold AggIs; kernel_rfl

theorem en133 : Enters Tryz.prog 133 := ⟨_, Tryz.func133, by kernel_rfl, rfl⟩

theorem zr154 : (Tryz.prog.info? 154).bind (·.zero) = some (.agg #[.string .empty, .int .i64 0]) := by kernel_rfl

theorem zer154 : ∃ i z, Tryz.prog.info? 154 = some i ∧ i.zero = some z ∧ z.cells = List.toArray [.string .empty, .int .i64 0] := zero_mk zr154 rfl

theorem fld154_0 : FieldIs Tryz.prog 154 0 0 1 false := FieldIs.mk Tryz.underlying154 rfl rfl sz9 ag9 rfl

theorem fld151_1 : FieldIs Tryz.prog 151 1 1 1 false := FieldIs.mk Tryz.underlying151 rfl rfl sz3 ag3 rfl

theorem fld154_1 : FieldIs Tryz.prog 154 1 1 1 false := FieldIs.mk Tryz.underlying154 rfl rfl sz3 ag3 rfl

theorem ag154 : AggIs Tryz.prog 154 true := by unfold AggIs; kernel_rfl

theorem sz154 : SizeIs Tryz.prog 154 2 := by unfold SizeIs; kernel_rfl

theorem sty32 : SlotTy Tryz.prog 32 154 2 24 := slotTy_mk (by kernel_rfl)

theorem en137 : Enters Tryz.prog 137 := ⟨_, Tryz.func137, by kernel_rfl, rfl⟩

theorem en144 : Enters Tryz.prog 144 := ⟨_, Tryz.func144, by kernel_rfl, rfl⟩

theorem fld113_0 : FieldIs Tryz.prog 113 0 0 1 false := FieldIs.mk Tryz.underlying113 rfl rfl sz3 ag3 rfl

theorem fld113_1 : FieldIs Tryz.prog 113 1 1 1 false := FieldIs.mk Tryz.underlying113 rfl rfl sz3 ag3 rfl

theorem fld113_2 : FieldIs Tryz.prog 113 2 2 1 false := FieldIs.mk Tryz.underlying113 rfl rfl sz23 ag23 rfl

theorem fld113_3 : FieldIs Tryz.prog 113 3 3 1 false := FieldIs.mk Tryz.underlying113 rfl rfl sz23 ag23 rfl

theorem sz113 : SizeIs Tryz.prog 113 4 := by unfold SizeIs; kernel_rfl

theorem ag113 : AggIs Tryz.prog 113 true := by unfold AggIs; kernel_rfl

theorem en174 : Enters Tryz.prog 174 := ⟨_, Tryz.func174, by kernel_rfl, rfl⟩

theorem zr125 : (Tryz.prog.info? 125).bind (·.zero) = some (.agg #[.int .i64 0, .int .i64 0, .bool false, .int .i64 0]) := by kernel_rfl

theorem zer125 : ∃ i z, Tryz.prog.info? 125 = some i ∧ i.zero = some z ∧ z.cells = List.toArray [.int .i64 0, .int .i64 0, .bool false, .int .i64 0] := zero_mk zr125 rfl

theorem fld157_0 : FieldIs Tryz.prog 157 0 0 1 false := FieldIs.mk Tryz.underlying157 rfl rfl sz3 ag3 rfl

theorem fld125_0 : FieldIs Tryz.prog 125 0 0 1 false := FieldIs.mk Tryz.underlying125 rfl rfl sz3 ag3 rfl

theorem fld157_1 : FieldIs Tryz.prog 157 1 1 1 false := FieldIs.mk Tryz.underlying157 rfl rfl sz3 ag3 rfl

theorem fld125_1 : FieldIs Tryz.prog 125 1 1 1 false := FieldIs.mk Tryz.underlying125 rfl rfl sz3 ag3 rfl

theorem sz4 : SizeIs Tryz.prog 4 1 := by unfold SizeIs; kernel_rfl

theorem ag4 : AggIs Tryz.prog 4 false := by unfold AggIs; kernel_rfl

theorem fld157_2 : FieldIs Tryz.prog 157 2 2 1 false := FieldIs.mk Tryz.underlying157 rfl rfl sz4 ag4 rfl

theorem fld125_2 : FieldIs Tryz.prog 125 2 2 1 false := FieldIs.mk Tryz.underlying125 rfl rfl sz4 ag4 rfl

theorem fld157_3 : FieldIs Tryz.prog 157 3 3 1 false := FieldIs.mk Tryz.underlying157 rfl rfl sz3 ag3 rfl

theorem fld125_3 : FieldIs Tryz.prog 125 3 3 1 false := FieldIs.mk Tryz.underlying125 rfl rfl sz3 ag3 rfl

theorem ag125 : AggIs Tryz.prog 125 true := by unfold AggIs; kernel_rfl

theorem sz125 : SizeIs Tryz.prog 125 4 := by unfold SizeIs; kernel_rfl

theorem sty33 : SlotTy Tryz.prog 33 125 4 32 := slotTy_mk (by kernel_rfl)

theorem sz157 : SizeIs Tryz.prog 157 4 := by unfold SizeIs; kernel_rfl

theorem ag157 : AggIs Tryz.prog 157 true := by unfold AggIs; kernel_rfl

theorem en138 : Enters Tryz.prog 138 := ⟨_, Tryz.func138, by kernel_rfl, rfl⟩

theorem en145 : Enters Tryz.prog 145 := ⟨_, Tryz.func145, by kernel_rfl, rfl⟩

theorem sz32 : SizeIs Tryz.prog 32 1 := by unfold SizeIs; kernel_rfl

theorem ag32 : AggIs Tryz.prog 32 false := by unfold AggIs; kernel_rfl

theorem fld63_0 : FieldIs Tryz.prog 63 0 0 1 false := FieldIs.mk Tryz.underlying63 rfl rfl sz32 ag32 rfl

theorem en74 : Enters Tryz.prog 74 := ⟨_, Tryz.func74, by kernel_rfl, rfl⟩

theorem sz61 : SizeIs Tryz.prog 61 1 := by unfold SizeIs; kernel_rfl

theorem ag61 : AggIs Tryz.prog 61 false := by unfold AggIs; kernel_rfl

theorem fld63_1 : FieldIs Tryz.prog 63 1 1 1 false := FieldIs.mk Tryz.underlying63 rfl rfl sz61 ag61 rfl

theorem en98 : Enters Tryz.prog 98 := ⟨_, Tryz.func98, by kernel_rfl, rfl⟩

theorem sz22 : SizeIs Tryz.prog 22 1 := by unfold SizeIs; kernel_rfl

theorem ag22 : AggIs Tryz.prog 22 false := by unfold AggIs; kernel_rfl

theorem fld26_0 : FieldIs Tryz.prog 26 0 0 1 false := FieldIs.mk Tryz.underlying26 rfl rfl sz22 ag22 rfl

theorem en66 : Enters Tryz.prog 66 := ⟨_, Tryz.func66, by kernel_rfl, rfl⟩

theorem fld26_1 : FieldIs Tryz.prog 26 1 1 1 false := FieldIs.mk Tryz.underlying26 rfl rfl sz23 ag23 rfl

theorem en67 : Enters Tryz.prog 67 := ⟨_, Tryz.func67, by kernel_rfl, rfl⟩

theorem sz24 : SizeIs Tryz.prog 24 1 := by unfold SizeIs; kernel_rfl

theorem ag24 : AggIs Tryz.prog 24 false := by unfold AggIs; kernel_rfl

theorem fld26_2 : FieldIs Tryz.prog 26 2 2 1 false := FieldIs.mk Tryz.underlying26 rfl rfl sz24 ag24 rfl

theorem en68 : Enters Tryz.prog 68 := ⟨_, Tryz.func68, by kernel_rfl, rfl⟩

theorem zr35 : (Tryz.prog.info? 35).bind (·.zero) = some (.agg #[.slice none 0 0, .slice none 0 0, .slice none 0 0]) := by kernel_rfl

theorem zer35 : ∃ i z, Tryz.prog.info? 35 = some i ∧ i.zero = some z ∧ z.cells = List.toArray [.slice none 0 0, .slice none 0 0, .slice none 0 0] := zero_mk zr35 rfl

theorem en70 : Enters Tryz.prog 70 := ⟨_, Tryz.func70, by kernel_rfl, rfl⟩

theorem fld35_0 : FieldIs Tryz.prog 35 0 0 1 false := FieldIs.mk Tryz.underlying35 rfl rfl sz32 ag32 rfl

theorem en71 : Enters Tryz.prog 71 := ⟨_, Tryz.func71, by kernel_rfl, rfl⟩

theorem fld35_1 : FieldIs Tryz.prog 35 1 1 1 false := FieldIs.mk Tryz.underlying35 rfl rfl sz23 ag23 rfl

theorem en72 : Enters Tryz.prog 72 := ⟨_, Tryz.func72, by kernel_rfl, rfl⟩

theorem sz33 : SizeIs Tryz.prog 33 1 := by unfold SizeIs; kernel_rfl

theorem ag33 : AggIs Tryz.prog 33 false := by unfold AggIs; kernel_rfl

theorem fld35_2 : FieldIs Tryz.prog 35 2 2 1 false := FieldIs.mk Tryz.underlying35 rfl rfl sz33 ag33 rfl

theorem ag35 : AggIs Tryz.prog 35 true := by unfold AggIs; kernel_rfl

theorem sz35 : SizeIs Tryz.prog 35 3 := by unfold SizeIs; kernel_rfl

theorem en75 : Enters Tryz.prog 75 := ⟨_, Tryz.func75, by kernel_rfl, rfl⟩

theorem froz_c {x y : D} {xs ys : List D} (h : x.froz = y) (h2 : frozs xs = ys) : frozs (x :: xs) = y :: ys := by rw [frozs, h, h2]

theorem slice_froz {u : Bool} {sz : Nat} {xs ys : List D} (h : frozs xs = ys) : (D.slice u sz xs).froz = D.slice false sz ys := by rw [D.froz, h]

theorem frozs_to {τ : Type} {f g : τ → D} (h : ∀ x, (f x).froz = g x) (l : List τ) : frozs (l.map f) = l.map g := by
 rw [frozs_eq, List.map_map]; congr 1; funext x; exact h x

def intsD (l : List Int) : D := .slice false 1 (l.map fun n => D.int .i64 n)

def intsU (l : List Int) : D := .slice true 1 (l.map fun n => D.int .i64 n)

theorem intsU_fz (l : List Int) : (intsU l).froz = intsD l := slice_froz (frozs_map (fun _ => rfl) _)

def sumF {τ : Type} (f : τ → Nat) (xs : List τ) (k : Nat) : Nat := ((xs.take k).map f).sum

def bulkF {τ : Type} (f : τ → Nat) (xs : List τ) : Nat := xs.length + (xs.map f).sum

theorem sumF_zero {τ : Type} (f : τ → Nat) (xs : List τ) : sumF f xs 0 = 0 := rfl

theorem sumF_succ {τ : Type} [Inhabited τ] (f : τ → Nat) {xs : List τ} {k : Nat} (h : k < xs.length) : sumF f xs (k + 1) = sumF f xs k + f (xs.getD k default) := by
 have hg : xs.getD k default = xs[k] := by simp [h]
 unfold sumF
 rw [hg, List.take_succ_eq_append_getElem h, List.map_append, List.sum_append]
 simp only [List.map_cons, List.map_nil, List.sum_cons, List.sum_nil, Nat.add_zero]

theorem sumF_all {τ : Type} (f : τ → Nat) {xs : List τ} {k : Nat} (h : xs.length ≤ k) : sumF f xs k = (xs.map f).sum := by rw [sumF, List.take_of_length_le h]

theorem sumF_le {τ : Type} (f : τ → Nat) (xs : List τ) (k : Nat) : sumF f xs k ≤ (xs.map f).sum := by
 conv => rhs; rw [← List.take_append_drop k xs, List.map_append, List.sum_append]
 unfold sumF; omega

theorem le_sumL {x : Nat} : ∀ {l : List Nat}, x ∈ l → x ≤ l.sum
  | y :: l, h => by
    rw [List.sum_cons]
    rcases List.mem_cons.1 h with rfl | h
    · omega
    · have := le_sumL h; omega

theorem sum_zero {τ : Type} {f : τ → Nat} (h : ∀ x, f x = 0) : ∀ xs : List τ, (xs.map f).sum = 0
 | [] => rfl
 | x :: xs => by rw [List.map_cons, List.sum_cons, h x, sum_zero h xs]

theorem bulkF_len {τ : Type} {f : τ → Nat} {xs : List τ} {n : Nat} (h : bulkF f xs ≤ n) : xs.length ≤ n := by unfold bulkF at h; omega

theorem bulkF_mem {τ : Type} {f : τ → Nat} {xs : List τ} {n : Nat} (h : bulkF f xs ≤ n) : ∀ x ∈ xs, f x ≤ n := by
 intro x hx
 have : f x ≤ (xs.map f).sum := le_sumL (List.mem_map.2 ⟨x, hx, rfl⟩)
 unfold bulkF at h; omega

def szR (t : Nat) (left : Int) : Int := if (t : Int) ≤ left then left - t else -1

theorem szR_cases (t : Nat) (left : Int) : ((t : Int) ≤ left ∧ szR t left = left - t) ∨ (left < t ∧ szR t left = -1) := by
  unfold szR; split
  · exact .inl ⟨by assumption, rfl⟩
  · exact .inr ⟨by omega, rfl⟩

theorem szR_ok {t : Nat} {left : Int} (h : ¬ szR t left < 0) (h0 : 0 ≤ left) : t ≤ left.toNat ∧ szR t left = left - t := by
  rcases szR_cases t left with ⟨h1, h2⟩ | ⟨h1, h2⟩
  · exact ⟨by omega, h2⟩
  · exact absurd h2 (by omega)

theorem szS_cases (xs : List (List UInt8)) (left : Int) : ((bulkS xs : Int) ≤ left ∧ szS xs left = left - bulkS xs) ∨ (left < bulkS xs ∧ szS xs left = -1) := szR_cases (bulkS xs) left

theorem dr_int {S w k n} : DR S w (.int k n) (.int k n) [] := by rw [DR]; exact ⟨rfl, rfl⟩

theorem dr_bool {S w b} : DR S w (.bool b) (.bool b) [] := by rw [DR]; exact ⟨rfl, rfl⟩

theorem dr_str0 {S w} : DR S w (.str []) (.string .empty) [] := by rw [DR]; exact ⟨rfl, rfl⟩

theorem dr_agg {S w ds vs} (h : (ds.all D.one) = true) (hd : DRs S w ds vs []) : DR S w (.agg ds) (.agg vs.toArray) [] := by
 rw [DR]; exact ⟨fun c hc => List.all_eq_true.1 h c hc, vs, rfl, hd⟩

theorem drs_nil {S w} : DRs S w [] [] [] := by rw [DRs]; exact ⟨rfl, rfl⟩

theorem drs_cons {S w d v ds vs} (h : DR S w d v []) (h2 : DRs S w ds vs []) : DRs S w (d :: ds) (v :: vs) [] := by
 rw [DRs]; exact ⟨v, vs, [], [], rfl, rfl, h, h2⟩

theorem get_set {τ : Type} {l : List τ} {j : Nat} {y : τ} (h : j < l.length) : (l.set j y)[j]? = some y := by simp [h]

theorem set_back {τ : Type} {f : τ → D} [Inhabited τ] {l : List τ} {j : Nat} {a : D} (h : j < l.length) : ((l.map f).set j a).set j (f (l.getD j default)) = l.map f := by
  rw [List.set_set]
  apply List.ext_getElem
  · simp
  · intro q h1 h2
    rw [List.getElem_set]
    split
    · rename_i e; subst e; simp [h]
    · rfl

theorem set_hole {τ : Type} {f : τ → D} {l : List τ} {j : Nat} {a : D} {y : τ} : ((l.map f).set j a).set j (f y) = (l.set j y).map f := by
 rw [List.set_set, List.map_set]

structure Sgn where
 name : List UInt8
 kind : Int
 deriving DecidableEq, Inhabited

def Sgn.d (x : Sgn) : D := (.agg [(.str x.name), (.int .i64 x.kind)])

def Sgn.bulk (x : Sgn) : Nat := x.name.length

def Sgn.wide (x : Sgn) : Prop := (x.name.length ≤ 9223372036854775807)

theorem Sgn.parts {x : Sgn} {n : Nat} (h : x.bulk ≤ n) : (x.name.length ≤ n) := by unfold Sgn.bulk at h; omega

structure Lab where
 sig : Int
 up : Bool
 deriving DecidableEq, Inhabited

def Lab.d (x : Lab) : D := (.agg [(.int .i64 x.sig), (.bool (x.up))])

def Lab.bulk (x : Lab) : Nat := 0

def Lab.wide (x : Lab) : Prop := True

theorem Lab.eqv (x y : Lab) : ((decide (x.sig = y.sig) && (decide (x.up = y.up) && true))) = decide (x = y) := by cases x; cases y; simp

structure Arc where
 src : Int
 sig : Int
 up : Bool
 dst : Int
 deriving DecidableEq, Inhabited

def Arc.d (x : Arc) : D := (.agg [(.int .i64 x.src), (.int .i64 x.sig), (.bool (x.up)), (.int .i64 x.dst)])

def Arc.bulk (x : Arc) : Nat := 0

def Arc.wide (x : Arc) : Prop := True

structure Gat where
 sig : Int
 kind : Int
 ups : List (List UInt8)
 downs : List (List UInt8)
 deriving DecidableEq, Inhabited

def Gat.d (x : Gat) : D := (.agg [(.int .i64 x.sig), (.int .i64 x.kind), (.slice false 1 (x.ups.map D.str)), (.slice false 1 (x.downs.map D.str))])

def Gat.u (x : Gat) : D := (.agg [(.int .i64 x.sig), (.int .i64 x.kind), (.slice true 1 (x.ups.map D.str)), (.slice true 1 (x.downs.map D.str))])

theorem Gat.fz (x : Gat) : (Gat.u x).froz = Gat.d x := congrArg D.agg (froz_c rfl (froz_c rfl (froz_c (slice_froz (frozs_map (fun _ => rfl) _)) (froz_c (slice_froz (frozs_map (fun _ => rfl) _)) rfl))))

theorem Gat.sol (x : Gat) : (Gat.u x).solid = true := by unfold Gat.u; rw [D.solid]; exact (solids_c rfl (solids_c rfl (solids_c (solid_row (fun _ => rfl) _) (solids_c (solid_row (fun _ => rfl) _) rfl))))

def Gat.bulk (x : Gat) : Nat := bulkS x.ups + bulkS x.downs

def Gat.wide (x : Gat) : Prop := (x.ups.length ≤ 9223372036854775807 ∧ ∀ y ∈ x.ups, y.length ≤ 9223372036854775807) ∧ (x.downs.length ≤ 9223372036854775807 ∧ ∀ y ∈ x.downs, y.length ≤ 9223372036854775807)

theorem Gat.parts {x : Gat} {n : Nat} (h : x.bulk ≤ n) : (bulkS x.ups ≤ n) ∧ (bulkS x.downs ≤ n) := by unfold Gat.bulk at h; omega

structure Cir where
 sigs : List (Sgn)
 gates : List (Gat)
 deriving DecidableEq, Inhabited

def Cir.d (x : Cir) : D := (.agg [(.slice false 2 (x.sigs.map Sgn.d)), (.slice false 4 (x.gates.map Gat.d))])

def Cir.u (x : Cir) : D := (.agg [(.slice true 2 (x.sigs.map Sgn.d)), (.slice true 4 (x.gates.map Gat.u))])

theorem Cir.sol (x : Cir) : (Cir.u x).solid = true := by unfold Cir.u; rw [D.solid]; exact (solids_c (solid_row (fun _ => rfl) _) (solids_c (solid_row Gat.sol _) rfl))

def Cir.bulk (x : Cir) : Nat := bulkF Sgn.bulk x.sigs + bulkF Gat.bulk x.gates

def Cir.wide (x : Cir) : Prop := (x.sigs.length ≤ 9223372036854775807 ∧ ∀ y ∈ x.sigs, Sgn.wide y) ∧ (x.gates.length ≤ 9223372036854775807 ∧ ∀ y ∈ x.gates, Gat.wide y)

theorem Cir.parts {x : Cir} {n : Nat} (h : x.bulk ≤ n) : (bulkF Sgn.bulk x.sigs ≤ n) ∧ (bulkF Gat.bulk x.gates ≤ n) := by unfold Cir.bulk at h; omega

structure Sgr where
 sigs : List (Sgn)
 codes : List (List UInt8)
 arcs : List (Arc)
 deriving DecidableEq, Inhabited

def Sgr.d (x : Sgr) : D := (.agg [(.slice false 2 (x.sigs.map Sgn.d)), (.slice false 1 (x.codes.map D.str)), (.slice false 4 (x.arcs.map Arc.d))])

def Sgr.u (x : Sgr) : D := (.agg [(.slice true 2 (x.sigs.map Sgn.d)), (.slice true 1 (x.codes.map D.str)), (.slice true 4 (x.arcs.map Arc.d))])

theorem Sgr.sol (x : Sgr) : (Sgr.u x).solid = true := by unfold Sgr.u; rw [D.solid]; exact (solids_c (solid_row (fun _ => rfl) _) (solids_c (solid_row (fun _ => rfl) _) (solids_c (solid_row (fun _ => rfl) _) rfl)))

def Sgr.bulk (x : Sgr) : Nat := bulkF Sgn.bulk x.sigs + bulkS x.codes + bulkF Arc.bulk x.arcs

def Sgr.wide (x : Sgr) : Prop := (x.sigs.length ≤ 9223372036854775807 ∧ ∀ y ∈ x.sigs, Sgn.wide y) ∧ (x.codes.length ≤ 9223372036854775807 ∧ ∀ y ∈ x.codes, y.length ≤ 9223372036854775807) ∧ (x.arcs.length ≤ 9223372036854775807 ∧ ∀ y ∈ x.arcs, Arc.wide y)

theorem Sgr.parts {x : Sgr} {n : Nat} (h : x.bulk ≤ n) : (bulkF Sgn.bulk x.sigs ≤ n) ∧ (bulkS x.codes ≤ n) ∧ (bulkF Arc.bulk x.arcs ≤ n) := by unfold Sgr.bulk at h; omega

structure Stp where
 src : Int
 dst : Int
 deriving DecidableEq, Inhabited

def Stp.d (x : Stp) : D := (.agg [(.int .i64 x.src), (.int .i64 x.dst)])

def Stp.bulk (x : Stp) : Nat := 0

def Stp.wide (x : Stp) : Prop := True

structure Pvi where
 st : Int
 sig : Int
 arc : Int
 deriving DecidableEq, Inhabited

def Pvi.d (x : Pvi) : D := (.agg [(.int .i64 x.st), (.int .i64 x.sig), (.int .i64 x.arc)])

def Pvi.bulk (x : Pvi) : Nat := 0

def Pvi.wide (x : Pvi) : Prop := True

def vX (x : Sgr) : List V := [(.d (.slice false 2 (x.sigs.map Sgn.d))), (.d (.slice false 1 (x.codes.map D.str))), (.d (.slice false 4 (x.arcs.map Arc.d)))]

theorem lX {h hb : Nat → Option Ob} {a b c : D} (h1 : ([a, b, c].all D.one) = true := by rfl) : Exp h hb (.agg [.d a, .d b, .d c]) (.agg [a, b, c]) [] := .lend (.agg (.cons (.d _) (.cons (.d _) (.cons (.d _) .nil))) h1)

theorem sp_laws_szSignal (x : Sgn) (left : Int) (h0 : 0 ≤ left) (h0u : left ≤ 1048576) (hw : x.wide) : Sp Tryz.prog 133 [(.agg [(.str x.name), (.int .i64 x.kind)]), (.int .i64 left)] [.any, .any] (.int .i64 (szR x.bulk left)) := by
 refine Sp_intro (lend := true) Tryz.func133 rfl rfl rfl (fun _ => rfl) (fun c hc hX => ?_)
 have ef := szR_cases (x.name.length) left
 unfold Sgn.wide at hw
 refine Ts hc (Ch.s (.ptr 2000 0) (.box 2000 _ _ rfl (.aggD _)) (Ch.s (dI 0) pa (Ch.nil (Ts hc (Ch.s (dI left) pm ?_)))))
 refine Ch.s (.ptr 2000 0) (fP fld151_0 rfl) (Ch.s (dS x.name) (lP ag9 rfl rfl rfl) (Ch.s (dI (x.name.length : Int)) (.pure (.lenStr _ _ rfl Tryz.underlying9 rfl)) (Ch.s (dI (left - (x.name.length : Int))) (iX rfl rfl intV_subA) (Ch.s (dI (left - (x.name.length : Int))) pa (Ch.nil (Tq (Tq ?_)))))))
 refine Tz hc (Ch.s (dI (left - (x.name.length : Int))) pm (Ch.s (dB (decide ((left - (x.name.length : Int)) < 0))) (iX rfl rfl rfl) (Ch.nil ?_)))
 refine T_condD (p := ((left - (x.name.length : Int)) < 0)) rfl (fun h1 => ?_) (fun h1 => ?_)
 ·
  refine Ts hc (Ch.s (dI (-1)) pa (Ch.nil (T_ret ?_)))
  exact eR [(dI (-1))] [] [] (.cons (.tmp 4 rfl) .nil) eB (Exp.of (congrArg (D.int .i64) (by show _ = szR (x.name.length) left; omega)) (.d _))
 ·
  refine Tk (Ts hc (Ch.s (dI (left - (x.name.length : Int))) pm (Ch.s (dI (left - (x.name.length : Int))) pa (Ch.nil (T_ret ?_)))))
  exact eR [(dI (left - (x.name.length : Int)))] [] [] (.cons (.tmp 4 rfl) .nil) eB (Exp.of (congrArg (D.int .i64) (by show _ = szR (x.name.length) left; omega)) (.d _))

theorem sp_laws_szSignalS (xs : List (Sgn)) (left : Int) (h0 : 0 ≤ left) (h0u : left ≤ 1048576) (hn : xs.length ≤ 9223372036854775807) (hx : ∀ y ∈ xs, Sgn.wide y) : Sp Tryz.prog 66 [(.slice false 2 (xs.map Sgn.d)), (.int .i64 left)] [.any, .any] (.int .i64 (szR (bulkF Sgn.bulk xs) left)) := by
 refine Sp_intro (lend := true) Tryz.func66 rfl rfl rfl (fun _ => rfl) (fun c hc hX => ?_)
 refine Ts hc (Ch.s (dI 0) pa (Ch.nil (Ts hc (Ch.s (dI left) pm (Ch.s (.d (.slice false 2 (xs.map Sgn.d))) pm ?_)))))
 refine Ch.s (dI (xs.length : Int)) (.pure (.len _ _ 151 rfl Tryz.underlying22 (.sh _ _) (by simp))) (Ch.s (dI (left - (xs.length : Int))) (iX rfl rfl intV_subA) (Ch.s (dI (left - (xs.length : Int))) pa (Ch.nil (Tq (Ts hc (Ch.s (dI (left - (xs.length : Int))) pm ?_))))))
 refine Ch.s (dB (decide ((left - (xs.length : Int)) < 0))) (iX rfl rfl rfl) (Ch.nil ?_)
 refine T_condD (p := ((left - (xs.length : Int)) < 0)) rfl (fun h1 => ?_) (fun h1 => ?_)
 ·
  refine Ts hc (Ch.s (dI (-1)) pa (Ch.nil (T_ret ?_)))
  exact eR [(dI (-1))] [] [] (.cons (.tmp 4 rfl) .nil) eB (Exp.of (congrArg (D.int .i64) a67) (.d _))
 ·
  refine Tk (Tq (Ts hc (Ch.s (dI 0) pa (Ch.nil (Tb ?_)))))
  refine T_loop (ι := Nat) (fun k => { n := 27, sl := [(0, (.d (.slice false 2 (xs.map Sgn.d)))), (1, (dI (left - xs.length - sumF Sgn.bulk xs k))), (5, (dI (k : Int)))], hp := [], pin := [] }) (fun k => k ≤ xs.length ∧ 0 ≤ left - xs.length - sumF Sgn.bulk xs k) (fun k => xs.length - k) ⟨0, ⟨by omega, by rw [sumF_zero]; omega⟩, (Wk.of rfl rfl (ar (ai (vI a105) (ai (vI a126) trivial))) trivial)⟩ (fun k hp0 => ?_)
  have hsl := sumF_le Sgn.bulk xs k; have hsc := szR_cases (Sgn.bulk (xs.getD k default)) (left - xs.length - sumF Sgn.bulk xs k)
  refine Tq (Ts hc (Ch.s (dI (k : Int)) pm (Ch.s (.d (.slice false 2 (xs.map Sgn.d))) pm (Ch.s (dI (xs.length : Int)) (.pure (.len _ _ 151 rfl Tryz.underlying22 (.sh _ _) (by simp))) (Ch.s (dB (decide ((k : Int) < (xs.length : Int)))) (iX rfl rfl rfl) (Ch.nil ?_))))))
  refine T_condD (p := ((k : Int) < (xs.length : Int))) rfl (fun h2 => ?_) (fun h2 => ?_)
  ·
   try have hk := hx _ (getD_mem (l := xs) (j := k) (d := default) (by omega))
   try have hs1 := sumF_succ Sgn.bulk (xs := xs) (k := k) (by omega)
   try have hs2 := sumF_le Sgn.bulk xs (k + 1)
   refine Tk (Tq (Tb (Ts hc (Ch.s (.d (.slice false 2 (xs.map Sgn.d))) pm (Ch.s (dI (k : Int)) pm (Ch.s (.d (.ref (.agg [(.str ((xs.getD k default).name)), (.int .i64 ((xs.getD k default).kind))]))) (.pure (.idx _ _ _ 151 (k) rfl Tryz.underlying22 sz151 rfl rfl rfl get_mapA)) ?_))))))
   refine Ch.s (.d (.agg [(.str ((xs.getD k default).name)), (.int .i64 ((xs.getD k default).kind))])) (.pure (.loadRefA _ _ rfl ag151 sz151 rfl)) (Ch.s (dI (left - xs.length - sumF Sgn.bulk xs k)) pm (Ch.s (dI (szR (xs.getD k default).bulk (left - xs.length - sumF Sgn.bulk xs k))) (.call 23000 133 _ _ _ en133 rfl (.inl rfl) (.cons (.d _) (.cons (.d _) .nil)) rfl rfl (sp_laws_szSignal (xs.getD k default) (left - xs.length - sumF Sgn.bulk xs k) a26 a26 a54) (.skip _ _ (.skip _ _ .nil)) rfl) (Ch.s (dI (szR (xs.getD k default).bulk (left - xs.length - sumF Sgn.bulk xs k))) pa (Ch.nil (Ts hc (Ch.s (dI (szR (xs.getD k default).bulk (left - xs.length - sumF Sgn.bulk xs k))) pm ?_))))))
   refine Ch.s (dB (decide ((szR (xs.getD k default).bulk (left - xs.length - sumF Sgn.bulk xs k)) < 0))) (iX rfl rfl rfl) (Ch.nil ?_)
   refine T_condD (p := ((szR (xs.getD k default).bulk (left - xs.length - sumF Sgn.bulk xs k)) < 0)) rfl (fun h3 => ?_) (fun h3 => ?_)
   ·
    refine Ts hc (Ch.s (dI (-1)) pa (Ch.nil (T_ret ?_)))
    exact eR [(dI (-1))] [] [] (.cons (.tmp 4 rfl) .nil) eB (Exp.of (congrArg (D.int .i64) a67) (.d _))
   ·
    refine Tk (Tz hc (Ch.s (dI (k : Int)) pm (Ch.s (dI ((k : Int) + 1)) (iX rfl rfl intV_addA) (Ch.s (dI ((k : Int) + 1)) pa (Ch.nil ?_)))))
    exact nx (k + 1) ⟨by omega, by rw [sumF_succ _ (by omega)]; omega⟩ (Wk.of rfl rfl (ar (ai (vI a105) (ai (vI a126) trivial))) trivial)
  ·
   try have hk := hx _ (getD_mem (l := xs) (j := k) (d := default) (by omega))
   try have hs1 := sumF_succ Sgn.bulk (xs := xs) (k := k) (by omega)
   try have hs2 := sumF_le Sgn.bulk xs (k + 1)
   refine T_exit (Ts hc (Ch.s (dI (left - xs.length - sumF Sgn.bulk xs k)) pm (Ch.s (dI (left - xs.length - sumF Sgn.bulk xs k)) pa (Ch.nil (T_ret ?_)))))
   exact eR [(dI (left - xs.length - sumF Sgn.bulk xs k))] [] [] (.cons (.tmp 4 rfl) .nil) eB (Exp.of (congrArg (D.int .i64) a67) (.d _))

theorem sp_laws_toSignal (x : Sgn) (hb : x.bulk ≤ 1048576) : Sp Tryz.prog 137 [(.agg [(.str x.name), (.int .i64 x.kind)])] [.any] (.agg [(.str x.name), (.int .i64 x.kind)]) := by
 refine Sp_intro (lend := true) Tryz.func137 rfl rfl rfl (fun _ => rfl) (fun c hc hX => ?_)
 have hp0 := Sgn.parts hb
 refine Ts hc (Ch.s (.ptr 1000 0) (.box 1000 _ _ rfl (.aggD _)) (Ch.s (.ptr 2000 0) (.alloc 2000 _ rfl zer154) (Ch.nil (Ts hc (Ch.s (.ptr 3000 0) (.alloc 3000 _ rfl zer154) ?_)))))
 refine Ch.nil (Ts hc (Ch.s (.ptr 1000 0) (fP fld151_0 rfl) (Ch.s (dS x.name) (lP ag9 rfl rfl rfl) (Ch.s (.ptr 3000 0) (fP fld154_0 rfl) (Ch.s .junk (.storePtr _ _ _ rfl rfl rfl (.one _ rfl) sz9 (lb rfl)) (Ch.nil ?_))))))
 refine Ts hc (Ch.s (.ptr 1000 1) (fP fld151_1 rfl) (Ch.s (dI x.kind) (lP ag3 rfl rfl rfl) (Ch.s (.ptr 3000 1) (fP fld154_1 rfl) (Ch.s .junk (.storePtr _ _ _ rfl rfl rfl (.one _ rfl) sz3 (lb rfl)) (Ch.nil (Tq ?_))))))
 refine Tz hc (Ch.s (.agg [(dS x.name), (dI x.kind)]) (lA ag154 sz154 rfl rfl (lb rfl) rfl) (Ch.s .junk (.storePtr _ _ _ rfl rfl rfl (.agg _ rfl) sz154 (lb rfl)) (Ch.nil (T_ret ?_))))
 exact eR [(.agg [(dS x.name), (dI x.kind)])] [] [] (.cons (.cellA _ _ rfl rfl ag154 sz154) .nil) eA (.agg (.cons (.d _) (.cons (.d _) .nil)) rfl)

theorem sp_laws_toSignalS (xs : List (Sgn)) (hb : bulkF Sgn.bulk xs ≤ 1048576) : Sp Tryz.prog 70 [(.slice false 2 (xs.map Sgn.d))] [.any] (.slice true 2 (xs.map Sgn.d)) := by
 refine Sp_intro (lend := true) Tryz.func70 rfl rfl rfl (fun _ => rfl) (fun c hc hX => ?_)
 have hn := bulkF_len hb
 refine Ts hc (Ch.s (.c (.slice none 0 0)) pa (Ch.nil (Ts hc (Ch.s (.d (.slice false 2 (xs.map Sgn.d))) pm (Ch.s (dI (xs.length : Int)) (.pure (.len _ _ 151 rfl Tryz.underlying22 (.sh _ _) (by simp))) ?_)))))
 refine Ch.s (.row 7000) (.make 7000 _ 154 _ _ (xs.length) (xs.length) rfl sty32 rfl rfl rfl rfl a52 a52 a52 (zeroD_mk (zd := (.agg [(.str []), (.int .i64 0)])) zr154 (by intro S w; exact dr_agg rfl (drs_cons dr_str0 (drs_cons dr_int drs_nil))) rfl)) (Ch.s (.row 7000) pa (Ch.nil (Tq (Ts hc (Ch.s (dI 0) pa (Ch.nil ?_))))))
 refine Tb ?_
 refine T_loop (ι := Nat) (fun k => { n := 23, sl := [(0, (.d (.slice false 2 (xs.map Sgn.d)))), (3, (.row 3)), (4, (dI (k : Int)))], hp := [(3, (some (.row 2 ((fill xs default k).map Sgn.d))))], pin := [] }) (fun k => k ≤ xs.length) (fun k => xs.length - k) ⟨0, (by omega), (Wk.ren [(3, 7000)] rfl rfl rfl rfl (ar (ar (ai (vI a126) trivial))) (ai (oR a78) trivial))⟩ (fun k hp0 => ?_)
 refine Tq (Ts hc (Ch.s (dI (k : Int)) pm (Ch.s (.d (.slice false 2 (xs.map Sgn.d))) pm (Ch.s (dI (xs.length : Int)) (.pure (.len _ _ 151 rfl Tryz.underlying22 (.sh _ _) (by simp))) (Ch.s (dB (decide ((k : Int) < (xs.length : Int)))) (iX rfl rfl rfl) (Ch.nil ?_))))))
 refine T_condD (p := ((k : Int) < (xs.length : Int))) rfl (fun h1 => ?_) (fun h1 => ?_)
 ·
  try have hk := bulkF_mem hb _ (getD_mem (l := xs) (j := k) (d := default) (by omega))
  refine Tk (Tq (Tb (Tz hc (Ch.s (.row 3) pm (Ch.s (dI (k : Int)) pm (Ch.s (.d (.slice false 2 (xs.map Sgn.d))) pm (Ch.s (dI (k : Int)) pm ?_)))))))
  refine Ch.s (.d (.ref (.agg [(.str ((xs.getD k default).name)), (.int .i64 ((xs.getD k default).kind))]))) (.pure (.idx _ _ _ 151 (k) rfl Tryz.underlying22 sz151 rfl rfl rfl get_mapA)) (Ch.s (.d (.agg [(.str ((xs.getD k default).name)), (.int .i64 ((xs.getD k default).kind))])) (.pure (.loadRefA _ _ rfl ag151 sz151 rfl)) (Ch.s (.d (.agg [(.str ((xs.getD k default).name)), (.int .i64 ((xs.getD k default).kind))])) (.call 20000 137 _ _ _ en137 rfl (.inl rfl) (.cons (.d _) .nil) rfl rfl (sp_laws_toSignal (xs.getD k default) a46) (.skip _ _ .nil) rfl) (Ch.s (.el 3 2 k 0) (.pure (.idxRow _ _ _ 154 (k) rfl Tryz.underlying32 sz154 rfl rfl rfl rfl a96)) (Ch.s .junk (.storeEl (y' := (.agg [(.str ((xs.getD k default).name)), (.int .i64 ((xs.getD k default).kind))])) _ _ _ rfl rfl rfl (.d _) rfl sz154 rfl get_mapA rfl rfl) (Ch.nil (Tz hc (Ch.s (dI (k : Int)) pm ?_)))))))
  refine Ch.s (dI ((k : Int) + 1)) (iX rfl rfl intV_addA) (Ch.s (dI ((k : Int) + 1)) pa (Ch.nil ?_))
  exact nx (k + 1) (by omega) (Wk.of rfl rfl (ar (ar (ai (vI a126) trivial))) (ai (oR a78) trivial))
 ·
  try have hk := bulkF_mem hb _ (getD_mem (l := xs) (j := k) (d := default) (by omega))
  refine T_exit (Ts hc (Ch.s (.row 3) pm (Ch.s (.row 3) pa (Ch.nil (T_ret ?_)))))
  exact eR [(.row 3)] [] [3] (.cons (.tmp 2 rfl) .nil) eA (Exp.of (congrArg (D.slice true 2) (by rw [fill_all xs default (by omega)])) (.row rfl))

theorem sp_laws_eqSignal (x y : Sgn) (hb : x.bulk ≤ 1048576) : Sp Tryz.prog 144 [(.agg [(.str x.name), (.int .i64 x.kind)]), (.agg [(.str y.name), (.int .i64 y.kind)])] [.any, .any] (.bool (decide (x = y))) := by
 refine Sp_intro (lend := true) Tryz.func144 rfl rfl rfl (fun _ => rfl) (fun c hc hX => ?_)
 have hp0 := Sgn.parts hb
 refine Ts hc (Ch.s (.ptr 2000 0) (.box 2000 _ _ rfl (.aggD _)) (Ch.s (.ptr 3000 0) (.box 3000 _ _ rfl (.aggD _)) (Ch.s (dB false) pa (Ch.nil (Tq (Tq ?_))))))
 refine Tz hc (Ch.s (.ptr 2000 0) (fP fld154_0 rfl) (Ch.s (dS x.name) (lP ag9 rfl rfl rfl) (Ch.s (.ptr 3000 0) (fP fld154_0 rfl) (Ch.s (dS y.name) (lP ag9 rfl rfl rfl) (Ch.s (dB (!(decide (x.name = y.name)))) (.pure (.str _ _ _ _ _ rfl rfl rfl rfl)) (Ch.nil ?_))))))
 refine T_condN (b := (decide (x.name = y.name))) rfl (fun h1 => ?_) (fun h1 => ?_)
 ·
  replace h1 := odf h1
  refine Ts hc (Ch.s (dB false) pa (Ch.nil (T_ret ?_)))
  exact eR [(dB false)] [] [] (.cons (.tmp 4 rfl) .nil) eB (Exp.of (congrArg D.bool a136) (.d _))
 ·
  replace h1 := odt h1
  refine Tk (Tq (Ts hc (Ch.s (.ptr 2000 1) (fP fld154_1 rfl) (Ch.s (dI x.kind) (lP ag3 rfl rfl rfl) (Ch.s (.ptr 3000 1) (fP fld154_1 rfl) (Ch.s (dI y.kind) (lP ag3 rfl rfl rfl) ?_))))))
  refine Ch.s (dB (!(decide (x.kind = y.kind)))) (iX rfl rfl rfl) (Ch.nil ?_)
  refine T_condN (b := (decide (x.kind = y.kind))) rfl (fun h2 => ?_) (fun h2 => ?_)
  ·
   replace h2 := odf h2
   refine Ts hc (Ch.s (dB false) pa (Ch.nil (T_ret ?_)))
   exact eR [(dB false)] [] [] (.cons (.tmp 4 rfl) .nil) eB (Exp.of (congrArg D.bool a136) (.d _))
  ·
   replace h2 := odt h2
   refine Tk (Ts hc (Ch.s (dB true) pa (Ch.nil (T_ret ?_))))
   exact eR [(dB true)] [] [] (.cons (.tmp 4 rfl) .nil) eB (Exp.of (congrArg D.bool a136) (.d _))

theorem sp_laws_eqSignalS (xs ys : List (Sgn)) (hb : bulkF Sgn.bulk xs ≤ 1048576) : Sp Tryz.prog 74 [(.slice false 2 (xs.map Sgn.d)), (.slice false 2 (ys.map Sgn.d))] [.any, .any] (.bool (decide (xs = ys))) := by
 refine Sp_intro (lend := true) Tryz.func74 rfl rfl rfl (fun _ => rfl) (fun c hc hX => ?_)
 have hn := bulkF_len hb
 refine Ts hc (Ch.s (dB false) pa (Ch.nil (Tq (Ts hc (Ch.s (.d (.slice false 2 (xs.map Sgn.d))) pm ?_)))))
 refine Ch.s (dI (xs.length : Int)) (.pure (.len _ _ 154 rfl Tryz.underlying32 (.sh _ _) (by simp))) (Ch.s (.d (.slice false 2 (ys.map Sgn.d))) pm (Ch.s (dI (ys.length : Int)) (.pure (.len _ _ 154 rfl Tryz.underlying32 (.sh _ _) (by simp))) (Ch.s (dB (!(decide ((xs.length : Int) = (ys.length : Int))))) (iX rfl rfl rfl) (Ch.nil ?_))))
 refine T_condN (b := (decide ((xs.length : Int) = (ys.length : Int)))) rfl (fun h1 => ?_) (fun h1 => ?_)
 ·
  replace h1 := odf h1
  refine Ts hc (Ch.s (dB false) pa (Ch.nil (T_ret ?_)))
  exact eR [(dB false)] [] [] (.cons (.tmp 4 rfl) .nil) eB (Exp.of (congrArg D.bool (by exact eqL_len (by omega))) (.d _))
 ·
  replace h1 := odt h1
  refine Tk (Tq (Ts hc (Ch.s (dI 0) pa (Ch.nil (Tb ?_)))))
  refine T_loop (ι := Nat) (fun k => { n := 27, sl := [(0, (.d (.slice false 2 (xs.map Sgn.d)))), (1, (.d (.slice false 2 (ys.map Sgn.d)))), (5, (dI (k : Int)))], hp := [], pin := [] }) (fun k => k ≤ xs.length ∧ ∀ j, j < k → xs.getD j default = ys.getD j default) (fun k => xs.length - k) ⟨0, ⟨by omega, fun j hj => by omega⟩, (Wk.of rfl rfl (ar (ar (ai (vI a126) trivial))) trivial)⟩ (fun k hp0 => ?_)
  refine Tq (Ts hc (Ch.s (dI (k : Int)) pm (Ch.s (.d (.slice false 2 (xs.map Sgn.d))) pm (Ch.s (dI (xs.length : Int)) (.pure (.len _ _ 154 rfl Tryz.underlying32 (.sh _ _) (by simp))) (Ch.s (dB (decide ((k : Int) < (xs.length : Int)))) (iX rfl rfl rfl) (Ch.nil ?_))))))
  refine T_condD (p := ((k : Int) < (xs.length : Int))) rfl (fun h2 => ?_) (fun h2 => ?_)
  ·
   try have hk := bulkF_mem hb _ (getD_mem (l := xs) (j := k) (d := default) (by omega))
   refine Tk (Tq (Tb (Tq ?_)))
   refine T_regionD hc (by kernel_rfl) ?_
   refine ChD.s (.d (.slice false 2 (xs.map Sgn.d))) [] pm (ChD.s (dI (k : Int)) [] pm (ChD.s (.d (.ref (.agg [(.str ((xs.getD k default).name)), (.int .i64 ((xs.getD k default).kind))]))) [] (.pure (.idx _ _ _ 154 (k) rfl Tryz.underlying32 sz154 rfl rfl rfl get_mapA)) (ChD.s (.d (.agg [(.str ((xs.getD k default).name)), (.int .i64 ((xs.getD k default).kind))])) [] (.pure (.loadRefA _ _ rfl ag154 sz154 rfl)) (ChD.s (.d (.slice false 2 (ys.map Sgn.d))) [] pm (ChD.s (dI (k : Int)) [] pm (ChD.s (.d (.ref (.agg [(.str ((ys.getD k default).name)), (.int .i64 ((ys.getD k default).kind))]))) [] (.pure (.idx _ _ _ 154 (k) rfl Tryz.underlying32 sz154 rfl rfl rfl get_mapA)) (ChD.s (.d (.agg [(.str ((ys.getD k default).name)), (.int .i64 ((ys.getD k default).kind))])) [] (.pure (.loadRefA _ _ rfl ag154 sz154 rfl)) ?_)))))))
   refine ChD.s (dB (decide ((xs.getD k default) = (ys.getD k default)))) [] (.call 25000 144 _ _ _ en144 rfl (.inl rfl) (.cons (.d _) (.cons (.d _) .nil)) rfl rfl (sp_laws_eqSignal (xs.getD k default) (ys.getD k default) a46) (.skip _ _ (.skip _ _ .nil)) rfl) (ChD.s (dB (!(decide ((xs.getD k default) = (ys.getD k default))))) [] (nT rfl) ?_)
   refine ChD.nil (And.intro ?_ (by kernel_rfl))
   refine T_condN (b := (decide ((xs.getD k default) = (ys.getD k default)))) rfl (fun h3 => ?_) (fun h3 => ?_)
   ·
    replace h3 := odf h3
    refine Ts hc (Ch.s (dB false) pa (Ch.nil (T_ret ?_)))
    exact eR [(dB false)] [] [] (.cons (.tmp 4 rfl) .nil) eB (Exp.of (congrArg D.bool a132) (.d _))
   ·
    replace h3 := odt h3
    refine Tk (Tz hc (Ch.s (dI (k : Int)) pm (Ch.s (dI ((k : Int) + 1)) (iX rfl rfl intV_addA) (Ch.s (dI ((k : Int) + 1)) pa (Ch.nil ?_)))))
    exact nx (k + 1) ⟨by omega, upto_succ hp0.2 (by assumption)⟩ (Wk.of rfl rfl (ar (ar (ai (vI a126) trivial))) trivial)
  ·
   try have hk := bulkF_mem hb _ (getD_mem (l := xs) (j := k) (d := default) (by omega))
   refine T_exit (Ts hc (Ch.s (dB true) pa (Ch.nil (T_ret ?_))))
   exact eR [(dB true)] [] [] (.cons (.tmp 4 rfl) .nil) eB (Exp.of (congrArg D.bool a112) (.d _))

theorem sp_laws_eqGate (x y : Gat) (hb : x.bulk ≤ 1048576) : Sp Tryz.prog 174 [(.agg [(.int .i64 x.sig), (.int .i64 x.kind), (.slice false 1 (x.ups.map D.str)), (.slice false 1 (x.downs.map D.str))]), (.agg [(.int .i64 y.sig), (.int .i64 y.kind), (.slice false 1 (y.ups.map D.str)), (.slice false 1 (y.downs.map D.str))])] [.any, .any] (.bool (decide (x = y))) := by
 refine Sp_intro (lend := true) Tryz.func174 rfl rfl rfl (fun _ => rfl) (fun c hc hX => ?_)
 obtain ⟨hp0, hp1⟩ := Gat.parts hb
 have hn0 := bulk_len hp0
 have hx0 := bulk_mem hp0
 have hn1 := bulk_len hp1
 have hx1 := bulk_mem hp1
 refine Ts hc (Ch.s (.ptr 2000 0) (.box 2000 _ _ rfl (.aggD _)) (Ch.s (.ptr 3000 0) (.box 3000 _ _ rfl (.aggD _)) (Ch.s (dB false) pa (Ch.nil (Tq (Tq ?_))))))
 refine Tz hc (Ch.s (.ptr 2000 0) (fP fld113_0 rfl) (Ch.s (dI x.sig) (lP ag3 rfl rfl rfl) (Ch.s (.ptr 3000 0) (fP fld113_0 rfl) (Ch.s (dI y.sig) (lP ag3 rfl rfl rfl) (Ch.s (dB (!(decide (x.sig = y.sig)))) (iX rfl rfl rfl) (Ch.nil ?_))))))
 refine T_condN (b := (decide (x.sig = y.sig))) rfl (fun h1 => ?_) (fun h1 => ?_)
 ·
  replace h1 := odf h1
  refine Ts hc (Ch.s (dB false) pa (Ch.nil (T_ret ?_)))
  exact eR [(dB false)] [] [] (.cons (.tmp 4 rfl) .nil) eB (Exp.of (congrArg D.bool a136) (.d _))
 ·
  replace h1 := odt h1
  refine Tk (Tq (Ts hc (Ch.s (.ptr 2000 1) (fP fld113_1 rfl) (Ch.s (dI x.kind) (lP ag3 rfl rfl rfl) (Ch.s (.ptr 3000 1) (fP fld113_1 rfl) (Ch.s (dI y.kind) (lP ag3 rfl rfl rfl) ?_))))))
  refine Ch.s (dB (!(decide (x.kind = y.kind)))) (iX rfl rfl rfl) (Ch.nil ?_)
  refine T_condN (b := (decide (x.kind = y.kind))) rfl (fun h2 => ?_) (fun h2 => ?_)
  ·
   replace h2 := odf h2
   refine Ts hc (Ch.s (dB false) pa (Ch.nil (T_ret ?_)))
   exact eR [(dB false)] [] [] (.cons (.tmp 4 rfl) .nil) eB (Exp.of (congrArg D.bool a136) (.d _))
  ·
   replace h2 := odt h2
   refine Tk (Tq (Ts hc (Ch.s (.ptr 2000 2) (fP fld113_2 rfl) (Ch.s (.d (.slice false 1 (x.ups.map D.str))) (lP ag23 rfl rfl rfl) (Ch.s (.ptr 3000 2) (fP fld113_2 rfl) (Ch.s (.d (.slice false 1 (y.ups.map D.str))) (lP ag23 rfl rfl rfl) ?_))))))
   refine Ch.s (dB (decide (x.ups = y.ups))) (.call 19000 29 _ _ _ en29 rfl (.inl rfl) (.cons (.d _) (.cons (.d _) .nil)) rfl rfl (sp_laws_eqStringS x.ups y.ups a26) (.skip _ _ (.skip _ _ .nil)) rfl) (Ch.s (dB (!(decide (x.ups = y.ups)))) (nT rfl) (Ch.nil ?_))
   refine T_condN (b := (decide (x.ups = y.ups))) rfl (fun h3 => ?_) (fun h3 => ?_)
   ·
    replace h3 := odf h3
    refine Ts hc (Ch.s (dB false) pa (Ch.nil (T_ret ?_)))
    exact eR [(dB false)] [] [] (.cons (.tmp 4 rfl) .nil) eB (Exp.of (congrArg D.bool a136) (.d _))
   ·
    replace h3 := odt h3
    refine Tk (Tq (Ts hc (Ch.s (.ptr 2000 3) (fP fld113_3 rfl) (Ch.s (.d (.slice false 1 (x.downs.map D.str))) (lP ag23 rfl rfl rfl) (Ch.s (.ptr 3000 3) (fP fld113_3 rfl) (Ch.s (.d (.slice false 1 (y.downs.map D.str))) (lP ag23 rfl rfl rfl) ?_))))))
    refine Ch.s (dB (decide (x.downs = y.downs))) (.call 25000 29 _ _ _ en29 rfl (.inl rfl) (.cons (.d _) (.cons (.d _) .nil)) rfl rfl (sp_laws_eqStringS x.downs y.downs a26) (.skip _ _ (.skip _ _ .nil)) rfl) (Ch.s (dB (!(decide (x.downs = y.downs)))) (nT rfl) (Ch.nil ?_))
    refine T_condN (b := (decide (x.downs = y.downs))) rfl (fun h4 => ?_) (fun h4 => ?_)
    ·
     replace h4 := odf h4
     refine Ts hc (Ch.s (dB false) pa (Ch.nil (T_ret ?_)))
     exact eR [(dB false)] [] [] (.cons (.tmp 4 rfl) .nil) eB (Exp.of (congrArg D.bool a136) (.d _))
    ·
     replace h4 := odt h4
     refine Tk (Ts hc (Ch.s (dB true) pa (Ch.nil (T_ret ?_))))
     exact eR [(dB true)] [] [] (.cons (.tmp 4 rfl) .nil) eB (Exp.of (congrArg D.bool a136) (.d _))

theorem sp_laws_eqGateS (xs ys : List (Gat)) (hb : bulkF Gat.bulk xs ≤ 1048576) : Sp Tryz.prog 98 [(.slice false 4 (xs.map Gat.d)), (.slice false 4 (ys.map Gat.d))] [.any, .any] (.bool (decide (xs = ys))) := by
 refine Sp_intro (lend := true) Tryz.func98 rfl rfl rfl (fun _ => rfl) (fun c hc hX => ?_)
 have hn := bulkF_len hb
 refine Ts hc (Ch.s (dB false) pa (Ch.nil (Tq (Ts hc (Ch.s (.d (.slice false 4 (xs.map Gat.d))) pm ?_)))))
 refine Ch.s (dI (xs.length : Int)) (.pure (.len _ _ 113 rfl Tryz.underlying61 (.sh _ _) (by simp))) (Ch.s (.d (.slice false 4 (ys.map Gat.d))) pm (Ch.s (dI (ys.length : Int)) (.pure (.len _ _ 113 rfl Tryz.underlying61 (.sh _ _) (by simp))) (Ch.s (dB (!(decide ((xs.length : Int) = (ys.length : Int))))) (iX rfl rfl rfl) (Ch.nil ?_))))
 refine T_condN (b := (decide ((xs.length : Int) = (ys.length : Int)))) rfl (fun h1 => ?_) (fun h1 => ?_)
 ·
  replace h1 := odf h1
  refine Ts hc (Ch.s (dB false) pa (Ch.nil (T_ret ?_)))
  exact eR [(dB false)] [] [] (.cons (.tmp 4 rfl) .nil) eB (Exp.of (congrArg D.bool (by exact eqL_len (by omega))) (.d _))
 ·
  replace h1 := odt h1
  refine Tk (Tq (Ts hc (Ch.s (dI 0) pa (Ch.nil (Tb ?_)))))
  refine T_loop (ι := Nat) (fun k => { n := 27, sl := [(0, (.d (.slice false 4 (xs.map Gat.d)))), (1, (.d (.slice false 4 (ys.map Gat.d)))), (5, (dI (k : Int)))], hp := [], pin := [] }) (fun k => k ≤ xs.length ∧ ∀ j, j < k → xs.getD j default = ys.getD j default) (fun k => xs.length - k) ⟨0, ⟨by omega, fun j hj => by omega⟩, (Wk.of rfl rfl (ar (ar (ai (vI a126) trivial))) trivial)⟩ (fun k hp0 => ?_)
  refine Tq (Ts hc (Ch.s (dI (k : Int)) pm (Ch.s (.d (.slice false 4 (xs.map Gat.d))) pm (Ch.s (dI (xs.length : Int)) (.pure (.len _ _ 113 rfl Tryz.underlying61 (.sh _ _) (by simp))) (Ch.s (dB (decide ((k : Int) < (xs.length : Int)))) (iX rfl rfl rfl) (Ch.nil ?_))))))
  refine T_condD (p := ((k : Int) < (xs.length : Int))) rfl (fun h2 => ?_) (fun h2 => ?_)
  ·
   try have hk := bulkF_mem hb _ (getD_mem (l := xs) (j := k) (d := default) (by omega))
   refine Tk (Tq (Tb (Tq ?_)))
   refine T_regionD hc (by kernel_rfl) ?_
   refine ChD.s (.d (.slice false 4 (xs.map Gat.d))) [] pm (ChD.s (dI (k : Int)) [] pm (ChD.s (.d (.ref (.agg [(.int .i64 ((xs.getD k default).sig)), (.int .i64 ((xs.getD k default).kind)), (.slice false 1 (((xs.getD k default).ups).map D.str)), (.slice false 1 (((xs.getD k default).downs).map D.str))]))) [] (.pure (.idx _ _ _ 113 (k) rfl Tryz.underlying61 sz113 rfl rfl rfl get_mapA)) (ChD.s (.d (.agg [(.int .i64 ((xs.getD k default).sig)), (.int .i64 ((xs.getD k default).kind)), (.slice false 1 (((xs.getD k default).ups).map D.str)), (.slice false 1 (((xs.getD k default).downs).map D.str))])) [] (.pure (.loadRefA _ _ rfl ag113 sz113 rfl)) (ChD.s (.d (.slice false 4 (ys.map Gat.d))) [] pm (ChD.s (dI (k : Int)) [] pm (ChD.s (.d (.ref (.agg [(.int .i64 ((ys.getD k default).sig)), (.int .i64 ((ys.getD k default).kind)), (.slice false 1 (((ys.getD k default).ups).map D.str)), (.slice false 1 (((ys.getD k default).downs).map D.str))]))) [] (.pure (.idx _ _ _ 113 (k) rfl Tryz.underlying61 sz113 rfl rfl rfl get_mapA)) (ChD.s (.d (.agg [(.int .i64 ((ys.getD k default).sig)), (.int .i64 ((ys.getD k default).kind)), (.slice false 1 (((ys.getD k default).ups).map D.str)), (.slice false 1 (((ys.getD k default).downs).map D.str))])) [] (.pure (.loadRefA _ _ rfl ag113 sz113 rfl)) ?_)))))))
   refine ChD.s (dB (decide ((xs.getD k default) = (ys.getD k default)))) [] (.call 25000 174 _ _ _ en174 rfl (.inl rfl) (.cons (.d _) (.cons (.d _) .nil)) rfl rfl (sp_laws_eqGate (xs.getD k default) (ys.getD k default) a46) (.skip _ _ (.skip _ _ .nil)) rfl) (ChD.s (dB (!(decide ((xs.getD k default) = (ys.getD k default))))) [] (nT rfl) ?_)
   refine ChD.nil (And.intro ?_ (by kernel_rfl))
   refine T_condN (b := (decide ((xs.getD k default) = (ys.getD k default)))) rfl (fun h3 => ?_) (fun h3 => ?_)
   ·
    replace h3 := odf h3
    refine Ts hc (Ch.s (dB false) pa (Ch.nil (T_ret ?_)))
    exact eR [(dB false)] [] [] (.cons (.tmp 4 rfl) .nil) eB (Exp.of (congrArg D.bool a132) (.d _))
   ·
    replace h3 := odt h3
    refine Tk (Tz hc (Ch.s (dI (k : Int)) pm (Ch.s (dI ((k : Int) + 1)) (iX rfl rfl intV_addA) (Ch.s (dI ((k : Int) + 1)) pa (Ch.nil ?_)))))
    exact nx (k + 1) ⟨by omega, upto_succ hp0.2 (by assumption)⟩ (Wk.of rfl rfl (ar (ar (ai (vI a126) trivial))) trivial)
  ·
   try have hk := bulkF_mem hb _ (getD_mem (l := xs) (j := k) (d := default) (by omega))
   refine T_exit (Ts hc (Ch.s (dB true) pa (Ch.nil (T_ret ?_))))
   exact eR [(dB true)] [] [] (.cons (.tmp 4 rfl) .nil) eB (Exp.of (congrArg D.bool a112) (.d _))

theorem sp_laws_szArcS (xs : List (Arc)) (left : Int) (h0 : 0 ≤ left) (h0u : left ≤ 1048576) (hn : xs.length ≤ 9223372036854775807) (hx : ∀ y ∈ xs, Arc.wide y) : Sp Tryz.prog 68 [(.slice false 4 (xs.map Arc.d)), (.int .i64 left)] [.any, .any] (.int .i64 (szR (bulkF Arc.bulk xs) left)) := by
 refine Sp_intro (lend := true) Tryz.func68 rfl rfl rfl (fun _ => rfl) (fun c hc hX => ?_)
 have hz : (xs.map Arc.bulk).sum = 0 := sum_zero (fun _ => rfl) xs
 refine Ts hc (Ch.s (dI 0) pa (Ch.nil (Ts hc (Ch.s (dI left) pm (Ch.s (.d (.slice false 4 (xs.map Arc.d))) pm ?_)))))
 refine Ch.s (dI (xs.length : Int)) (.pure (.len _ _ 157 rfl Tryz.underlying24 (.sh _ _) (by simp))) (Ch.s (dI (left - (xs.length : Int))) (iX rfl rfl intV_subA) (Ch.s (dI (left - (xs.length : Int))) pa (Ch.nil (Tq (Ts hc (Ch.s (dI (left - (xs.length : Int))) pm ?_))))))
 refine Ch.s (dB (decide ((left - (xs.length : Int)) < 0))) (iX rfl rfl rfl) (Ch.nil ?_)
 refine T_condD (p := ((left - (xs.length : Int)) < 0)) rfl (fun h1 => ?_) (fun h1 => ?_)
 ·
  refine Ts hc (Ch.s (dI (-1)) pa (Ch.nil (T_ret ?_)))
  exact eR [(dI (-1))] [] [] (.cons (.tmp 4 rfl) .nil) eB (Exp.of (congrArg (D.int .i64) (by rw [szR, bulkF, hz]; split <;> omega)) (.d _))
 ·
  refine Tk (Ts hc (Ch.s (dI (left - (xs.length : Int))) pm (Ch.s (dI (left - (xs.length : Int))) pa (Ch.nil (T_ret ?_)))))
  exact eR [(dI (left - (xs.length : Int)))] [] [] (.cons (.tmp 4 rfl) .nil) eB (Exp.of (congrArg (D.int .i64) (by rw [szR, bulkF, hz]; split <;> omega)) (.d _))

theorem sp_laws_toArc (x : Arc) (hb : x.bulk ≤ 1048576) : Sp Tryz.prog 138 [(.agg [(.int .i64 x.src), (.int .i64 x.sig), (.bool (x.up)), (.int .i64 x.dst)])] [.any] (.agg [(.int .i64 x.src), (.int .i64 x.sig), (.bool (x.up)), (.int .i64 x.dst)]) := by
 refine Sp_intro (lend := true) Tryz.func138 rfl rfl rfl (fun _ => rfl) (fun c hc hX => ?_)
 refine Ts hc (Ch.s (.ptr 1000 0) (.box 1000 _ _ rfl (.aggD _)) (Ch.s (.ptr 2000 0) (.alloc 2000 _ rfl zer125) (Ch.nil (Ts hc (Ch.s (.ptr 3000 0) (.alloc 3000 _ rfl zer125) ?_)))))
 refine Ch.nil (Ts hc (Ch.s (.ptr 1000 0) (fP fld157_0 rfl) (Ch.s (dI x.src) (lP ag3 rfl rfl rfl) (Ch.s (.ptr 3000 0) (fP fld125_0 rfl) (Ch.s .junk (.storePtr _ _ _ rfl rfl rfl (.one _ rfl) sz3 (lb rfl)) (Ch.nil ?_))))))
 refine Ts hc (Ch.s (.ptr 1000 1) (fP fld157_1 rfl) (Ch.s (dI x.sig) (lP ag3 rfl rfl rfl) (Ch.s (.ptr 3000 1) (fP fld125_1 rfl) (Ch.s .junk (.storePtr _ _ _ rfl rfl rfl (.one _ rfl) sz3 (lb rfl)) (Ch.nil (Tq ?_))))))
 refine Tz hc (Ch.s (.ptr 1000 2) (fP fld157_2 rfl) (Ch.s (dB (x.up)) (lP ag4 rfl rfl rfl) (Ch.s (.ptr 3000 2) (fP fld125_2 rfl) (Ch.s .junk (.storePtr _ _ _ rfl rfl rfl (.one _ rfl) sz4 (lb rfl)) (Ch.nil (Tq (Tz hc ?_)))))))
 refine Ch.s (.ptr 1000 3) (fP fld157_3 rfl) (Ch.s (dI x.dst) (lP ag3 rfl rfl rfl) (Ch.s (.ptr 3000 3) (fP fld125_3 rfl) (Ch.s .junk (.storePtr _ _ _ rfl rfl rfl (.one _ rfl) sz3 (lb rfl)) (Ch.nil (Ts hc (Ch.s (.agg [(dI x.src), (dI x.sig), (dB (x.up)), (dI x.dst)]) (lA ag125 sz125 rfl rfl (lb rfl) rfl) ?_))))))
 refine Ch.s .junk (.storePtr _ _ _ rfl rfl rfl (.agg _ rfl) sz125 (lb rfl)) (Ch.nil (T_ret ?_))
 exact eR [(.agg [(dI x.src), (dI x.sig), (dB (x.up)), (dI x.dst)])] [] [] (.cons (.cellA _ _ rfl rfl ag125 sz125) .nil) eA (.agg (.cons (.d _) (.cons (.d _) (.cons (.d _) (.cons (.d _) .nil)))) rfl)

theorem sp_laws_toArcS (xs : List (Arc)) (hb : bulkF Arc.bulk xs ≤ 1048576) : Sp Tryz.prog 72 [(.slice false 4 (xs.map Arc.d))] [.any] (.slice true 4 (xs.map Arc.d)) := by
 refine Sp_intro (lend := true) Tryz.func72 rfl rfl rfl (fun _ => rfl) (fun c hc hX => ?_)
 have hn := bulkF_len hb
 refine Ts hc (Ch.s (.c (.slice none 0 0)) pa (Ch.nil (Ts hc (Ch.s (.d (.slice false 4 (xs.map Arc.d))) pm (Ch.s (dI (xs.length : Int)) (.pure (.len _ _ 157 rfl Tryz.underlying24 (.sh _ _) (by simp))) ?_)))))
 refine Ch.s (.row 7000) (.make 7000 _ 125 _ _ (xs.length) (xs.length) rfl sty33 rfl rfl rfl rfl a52 a52 a52 (zeroD_mk (zd := (.agg [(.int .i64 0), (.int .i64 0), (.bool false), (.int .i64 0)])) zr125 (by intro S w; exact dr_agg rfl (drs_cons dr_int (drs_cons dr_int (drs_cons dr_bool (drs_cons dr_int drs_nil))))) rfl)) (Ch.s (.row 7000) pa (Ch.nil (Tq (Ts hc (Ch.s (dI 0) pa (Ch.nil ?_))))))
 refine Tb ?_
 refine T_loop (ι := Nat) (fun k => { n := 23, sl := [(0, (.d (.slice false 4 (xs.map Arc.d)))), (3, (.row 3)), (4, (dI (k : Int)))], hp := [(3, (some (.row 4 ((fill xs default k).map Arc.d))))], pin := [] }) (fun k => k ≤ xs.length) (fun k => xs.length - k) ⟨0, (by omega), (Wk.ren [(3, 7000)] rfl rfl rfl rfl (ar (ar (ai (vI a126) trivial))) (ai (oR a78) trivial))⟩ (fun k hp0 => ?_)
 refine Tq (Ts hc (Ch.s (dI (k : Int)) pm (Ch.s (.d (.slice false 4 (xs.map Arc.d))) pm (Ch.s (dI (xs.length : Int)) (.pure (.len _ _ 157 rfl Tryz.underlying24 (.sh _ _) (by simp))) (Ch.s (dB (decide ((k : Int) < (xs.length : Int)))) (iX rfl rfl rfl) (Ch.nil ?_))))))
 refine T_condD (p := ((k : Int) < (xs.length : Int))) rfl (fun h1 => ?_) (fun h1 => ?_)
 ·
  try have hk := bulkF_mem hb _ (getD_mem (l := xs) (j := k) (d := default) (by omega))
  refine Tk (Tq (Tb (Tz hc (Ch.s (.row 3) pm (Ch.s (dI (k : Int)) pm (Ch.s (.d (.slice false 4 (xs.map Arc.d))) pm (Ch.s (dI (k : Int)) pm ?_)))))))
  refine Ch.s (.d (.ref (.agg [(.int .i64 ((xs.getD k default).src)), (.int .i64 ((xs.getD k default).sig)), (.bool ((xs.getD k default).up)), (.int .i64 ((xs.getD k default).dst))]))) (.pure (.idx _ _ _ 157 (k) rfl Tryz.underlying24 sz157 rfl rfl rfl get_mapA)) (Ch.s (.d (.agg [(.int .i64 ((xs.getD k default).src)), (.int .i64 ((xs.getD k default).sig)), (.bool ((xs.getD k default).up)), (.int .i64 ((xs.getD k default).dst))])) (.pure (.loadRefA _ _ rfl ag157 sz157 rfl)) (Ch.s (.d (.agg [(.int .i64 ((xs.getD k default).src)), (.int .i64 ((xs.getD k default).sig)), (.bool ((xs.getD k default).up)), (.int .i64 ((xs.getD k default).dst))])) (.call 20000 138 _ _ _ en138 rfl (.inl rfl) (.cons (.d _) .nil) rfl rfl (sp_laws_toArc (xs.getD k default) a46) (.skip _ _ .nil) rfl) (Ch.s (.el 3 4 k 0) (.pure (.idxRow _ _ _ 125 (k) rfl Tryz.underlying33 sz125 rfl rfl rfl rfl a96)) (Ch.s .junk (.storeEl (y' := (.agg [(.int .i64 ((xs.getD k default).src)), (.int .i64 ((xs.getD k default).sig)), (.bool ((xs.getD k default).up)), (.int .i64 ((xs.getD k default).dst))])) _ _ _ rfl rfl rfl (.d _) rfl sz125 rfl get_mapA rfl rfl) (Ch.nil (Tz hc (Ch.s (dI (k : Int)) pm ?_)))))))
  refine Ch.s (dI ((k : Int) + 1)) (iX rfl rfl intV_addA) (Ch.s (dI ((k : Int) + 1)) pa (Ch.nil ?_))
  exact nx (k + 1) (by omega) (Wk.of rfl rfl (ar (ar (ai (vI a126) trivial))) (ai (oR a78) trivial))
 ·
  try have hk := bulkF_mem hb _ (getD_mem (l := xs) (j := k) (d := default) (by omega))
  refine T_exit (Ts hc (Ch.s (.row 3) pm (Ch.s (.row 3) pa (Ch.nil (T_ret ?_)))))
  exact eR [(.row 3)] [] [3] (.cons (.tmp 2 rfl) .nil) eA (Exp.of (congrArg (D.slice true 4) (by rw [fill_all xs default (by omega)])) (.row rfl))

theorem sp_laws_eqArc (x y : Arc) (hb : x.bulk ≤ 1048576) : Sp Tryz.prog 145 [(.agg [(.int .i64 x.src), (.int .i64 x.sig), (.bool (x.up)), (.int .i64 x.dst)]), (.agg [(.int .i64 y.src), (.int .i64 y.sig), (.bool (y.up)), (.int .i64 y.dst)])] [.any, .any] (.bool (decide (x = y))) := by
 refine Sp_intro (lend := true) Tryz.func145 rfl rfl rfl (fun _ => rfl) (fun c hc hX => ?_)
 refine Ts hc (Ch.s (.ptr 2000 0) (.box 2000 _ _ rfl (.aggD _)) (Ch.s (.ptr 3000 0) (.box 3000 _ _ rfl (.aggD _)) (Ch.s (dB false) pa (Ch.nil (Tq (Tq ?_))))))
 refine Tz hc (Ch.s (.ptr 2000 0) (fP fld125_0 rfl) (Ch.s (dI x.src) (lP ag3 rfl rfl rfl) (Ch.s (.ptr 3000 0) (fP fld125_0 rfl) (Ch.s (dI y.src) (lP ag3 rfl rfl rfl) (Ch.s (dB (!(decide (x.src = y.src)))) (iX rfl rfl rfl) (Ch.nil ?_))))))
 refine T_condN (b := (decide (x.src = y.src))) rfl (fun h1 => ?_) (fun h1 => ?_)
 ·
  replace h1 := odf h1
  refine Ts hc (Ch.s (dB false) pa (Ch.nil (T_ret ?_)))
  exact eR [(dB false)] [] [] (.cons (.tmp 4 rfl) .nil) eB (Exp.of (congrArg D.bool a136) (.d _))
 ·
  replace h1 := odt h1
  refine Tk (Tq (Ts hc (Ch.s (.ptr 2000 1) (fP fld125_1 rfl) (Ch.s (dI x.sig) (lP ag3 rfl rfl rfl) (Ch.s (.ptr 3000 1) (fP fld125_1 rfl) (Ch.s (dI y.sig) (lP ag3 rfl rfl rfl) ?_))))))
  refine Ch.s (dB (!(decide (x.sig = y.sig)))) (iX rfl rfl rfl) (Ch.nil ?_)
  refine T_condN (b := (decide (x.sig = y.sig))) rfl (fun h2 => ?_) (fun h2 => ?_)
  ·
   replace h2 := odf h2
   refine Ts hc (Ch.s (dB false) pa (Ch.nil (T_ret ?_)))
   exact eR [(dB false)] [] [] (.cons (.tmp 4 rfl) .nil) eB (Exp.of (congrArg D.bool a136) (.d _))
  ·
   replace h2 := odt h2
   refine Tk (Tq (Ts hc (Ch.s (.ptr 2000 2) (fP fld125_2 rfl) (Ch.s (dB (x.up)) (lP ag4 rfl rfl rfl) (Ch.s (.ptr 3000 2) (fP fld125_2 rfl) (Ch.s (dB (y.up)) (lP ag4 rfl rfl rfl) ?_))))))
   refine Ch.s (dB (!(decide ((x.up) = (y.up))))) (.pure (.neB _ _ _ _ rfl Tryz.underlying4 rfl rfl)) (Ch.nil ?_)
   refine T_condN (b := (decide ((x.up) = (y.up)))) rfl (fun h3 => ?_) (fun h3 => ?_)
   ·
    replace h3 := odf h3
    refine Ts hc (Ch.s (dB false) pa (Ch.nil (T_ret ?_)))
    exact eR [(dB false)] [] [] (.cons (.tmp 4 rfl) .nil) eB (Exp.of (congrArg D.bool a136) (.d _))
   ·
    replace h3 := odt h3
    refine Tk (Tq (Ts hc (Ch.s (.ptr 2000 3) (fP fld125_3 rfl) (Ch.s (dI x.dst) (lP ag3 rfl rfl rfl) (Ch.s (.ptr 3000 3) (fP fld125_3 rfl) (Ch.s (dI y.dst) (lP ag3 rfl rfl rfl) ?_))))))
    refine Ch.s (dB (!(decide (x.dst = y.dst)))) (iX rfl rfl rfl) (Ch.nil ?_)
    refine T_condN (b := (decide (x.dst = y.dst))) rfl (fun h4 => ?_) (fun h4 => ?_)
    ·
     replace h4 := odf h4
     refine Ts hc (Ch.s (dB false) pa (Ch.nil (T_ret ?_)))
     exact eR [(dB false)] [] [] (.cons (.tmp 4 rfl) .nil) eB (Exp.of (congrArg D.bool a136) (.d _))
    ·
     replace h4 := odt h4
     refine Tk (Ts hc (Ch.s (dB true) pa (Ch.nil (T_ret ?_))))
     exact eR [(dB true)] [] [] (.cons (.tmp 4 rfl) .nil) eB (Exp.of (congrArg D.bool a136) (.d _))

theorem sp_laws_eqArcS (xs ys : List (Arc)) (hb : bulkF Arc.bulk xs ≤ 1048576) : Sp Tryz.prog 75 [(.slice false 4 (xs.map Arc.d)), (.slice false 4 (ys.map Arc.d))] [.any, .any] (.bool (decide (xs = ys))) := by
 refine Sp_intro (lend := true) Tryz.func75 rfl rfl rfl (fun _ => rfl) (fun c hc hX => ?_)
 have hn := bulkF_len hb
 refine Ts hc (Ch.s (dB false) pa (Ch.nil (Tq (Ts hc (Ch.s (.d (.slice false 4 (xs.map Arc.d))) pm ?_)))))
 refine Ch.s (dI (xs.length : Int)) (.pure (.len _ _ 125 rfl Tryz.underlying33 (.sh _ _) (by simp))) (Ch.s (.d (.slice false 4 (ys.map Arc.d))) pm (Ch.s (dI (ys.length : Int)) (.pure (.len _ _ 125 rfl Tryz.underlying33 (.sh _ _) (by simp))) (Ch.s (dB (!(decide ((xs.length : Int) = (ys.length : Int))))) (iX rfl rfl rfl) (Ch.nil ?_))))
 refine T_condN (b := (decide ((xs.length : Int) = (ys.length : Int)))) rfl (fun h1 => ?_) (fun h1 => ?_)
 ·
  replace h1 := odf h1
  refine Ts hc (Ch.s (dB false) pa (Ch.nil (T_ret ?_)))
  exact eR [(dB false)] [] [] (.cons (.tmp 4 rfl) .nil) eB (Exp.of (congrArg D.bool (by exact eqL_len (by omega))) (.d _))
 ·
  replace h1 := odt h1
  refine Tk (Tq (Ts hc (Ch.s (dI 0) pa (Ch.nil (Tb ?_)))))
  refine T_loop (ι := Nat) (fun k => { n := 27, sl := [(0, (.d (.slice false 4 (xs.map Arc.d)))), (1, (.d (.slice false 4 (ys.map Arc.d)))), (5, (dI (k : Int)))], hp := [], pin := [] }) (fun k => k ≤ xs.length ∧ ∀ j, j < k → xs.getD j default = ys.getD j default) (fun k => xs.length - k) ⟨0, ⟨by omega, fun j hj => by omega⟩, (Wk.of rfl rfl (ar (ar (ai (vI a126) trivial))) trivial)⟩ (fun k hp0 => ?_)
  refine Tq (Ts hc (Ch.s (dI (k : Int)) pm (Ch.s (.d (.slice false 4 (xs.map Arc.d))) pm (Ch.s (dI (xs.length : Int)) (.pure (.len _ _ 125 rfl Tryz.underlying33 (.sh _ _) (by simp))) (Ch.s (dB (decide ((k : Int) < (xs.length : Int)))) (iX rfl rfl rfl) (Ch.nil ?_))))))
  refine T_condD (p := ((k : Int) < (xs.length : Int))) rfl (fun h2 => ?_) (fun h2 => ?_)
  ·
   try have hk := bulkF_mem hb _ (getD_mem (l := xs) (j := k) (d := default) (by omega))
   refine Tk (Tq (Tb (Tq ?_)))
   refine T_regionD hc (by kernel_rfl) ?_
   refine ChD.s (.d (.slice false 4 (xs.map Arc.d))) [] pm (ChD.s (dI (k : Int)) [] pm (ChD.s (.d (.ref (.agg [(.int .i64 ((xs.getD k default).src)), (.int .i64 ((xs.getD k default).sig)), (.bool ((xs.getD k default).up)), (.int .i64 ((xs.getD k default).dst))]))) [] (.pure (.idx _ _ _ 125 (k) rfl Tryz.underlying33 sz125 rfl rfl rfl get_mapA)) (ChD.s (.d (.agg [(.int .i64 ((xs.getD k default).src)), (.int .i64 ((xs.getD k default).sig)), (.bool ((xs.getD k default).up)), (.int .i64 ((xs.getD k default).dst))])) [] (.pure (.loadRefA _ _ rfl ag125 sz125 rfl)) (ChD.s (.d (.slice false 4 (ys.map Arc.d))) [] pm (ChD.s (dI (k : Int)) [] pm (ChD.s (.d (.ref (.agg [(.int .i64 ((ys.getD k default).src)), (.int .i64 ((ys.getD k default).sig)), (.bool ((ys.getD k default).up)), (.int .i64 ((ys.getD k default).dst))]))) [] (.pure (.idx _ _ _ 125 (k) rfl Tryz.underlying33 sz125 rfl rfl rfl get_mapA)) (ChD.s (.d (.agg [(.int .i64 ((ys.getD k default).src)), (.int .i64 ((ys.getD k default).sig)), (.bool ((ys.getD k default).up)), (.int .i64 ((ys.getD k default).dst))])) [] (.pure (.loadRefA _ _ rfl ag125 sz125 rfl)) ?_)))))))
   refine ChD.s (dB (decide ((xs.getD k default) = (ys.getD k default)))) [] (.call 25000 145 _ _ _ en145 rfl (.inl rfl) (.cons (.d _) (.cons (.d _) .nil)) rfl rfl (sp_laws_eqArc (xs.getD k default) (ys.getD k default) a46) (.skip _ _ (.skip _ _ .nil)) rfl) (ChD.s (dB (!(decide ((xs.getD k default) = (ys.getD k default))))) [] (nT rfl) ?_)
   refine ChD.nil (And.intro ?_ (by kernel_rfl))
   refine T_condN (b := (decide ((xs.getD k default) = (ys.getD k default)))) rfl (fun h3 => ?_) (fun h3 => ?_)
   ·
    replace h3 := odf h3
    refine Ts hc (Ch.s (dB false) pa (Ch.nil (T_ret ?_)))
    exact eR [(dB false)] [] [] (.cons (.tmp 4 rfl) .nil) eB (Exp.of (congrArg D.bool a132) (.d _))
   ·
    replace h3 := odt h3
    refine Tk (Tz hc (Ch.s (dI (k : Int)) pm (Ch.s (dI ((k : Int) + 1)) (iX rfl rfl intV_addA) (Ch.s (dI ((k : Int) + 1)) pa (Ch.nil ?_)))))
    exact nx (k + 1) ⟨by omega, upto_succ hp0.2 (by assumption)⟩ (Wk.of rfl rfl (ar (ar (ai (vI a126) trivial))) trivial)
  ·
   try have hk := bulkF_mem hb _ (getD_mem (l := xs) (j := k) (d := default) (by omega))
   refine T_exit (Ts hc (Ch.s (dB true) pa (Ch.nil (T_ret ?_))))
   exact eR [(dB true)] [] [] (.cons (.tmp 4 rfl) .nil) eB (Exp.of (congrArg D.bool a112) (.d _))

theorem sp_laws_eqCircuit (x y : Cir) (hb : x.bulk ≤ 1048576) : Sp Tryz.prog 44 [(.agg [(.slice false 2 (x.sigs.map Sgn.d)), (.slice false 4 (x.gates.map Gat.d))]), (.agg [(.slice false 2 (y.sigs.map Sgn.d)), (.slice false 4 (y.gates.map Gat.d))])] [.any, .any] (.bool (decide (x = y))) := by
 refine Sp_intro (lend := true) Tryz.func44 rfl rfl rfl (fun _ => rfl) (fun c hc hX => ?_)
 obtain ⟨hp0, hp1⟩ := Cir.parts hb
 have hn0 := bulkF_len hp0
 have hn1 := bulkF_len hp1
 refine Ts hc (Ch.s (.ptr 2000 0) (.box 2000 _ _ rfl (.aggD _)) (Ch.s (.ptr 3000 0) (.box 3000 _ _ rfl (.aggD _)) (Ch.s (dB false) pa (Ch.nil (Tq (Tq ?_))))))
 refine Tz hc (Ch.s (.ptr 2000 0) (fP fld63_0 rfl) (Ch.s (.d (.slice false 2 (x.sigs.map Sgn.d))) (lP ag32 rfl rfl rfl) (Ch.s (.ptr 3000 0) (fP fld63_0 rfl) (Ch.s (.d (.slice false 2 (y.sigs.map Sgn.d))) (lP ag32 rfl rfl rfl) (Ch.s (dB (decide (x.sigs = y.sigs))) (.call 9000 74 _ _ _ en74 rfl (.inl rfl) (.cons (.d _) (.cons (.d _) .nil)) rfl rfl (sp_laws_eqSignalS x.sigs y.sigs a46) (.skip _ _ (.skip _ _ .nil)) rfl) (Ch.s (dB (!(decide (x.sigs = y.sigs)))) (nT rfl) (Ch.nil ?_)))))))
 refine T_condN (b := (decide (x.sigs = y.sigs))) rfl (fun h1 => ?_) (fun h1 => ?_)
 ·
  replace h1 := odf h1
  refine Ts hc (Ch.s (dB false) pa (Ch.nil (T_ret ?_)))
  exact eR [(dB false)] [] [] (.cons (.tmp 4 rfl) .nil) eB (Exp.of (congrArg D.bool a136) (.d _))
 ·
  replace h1 := odt h1
  refine Tk (Tq (Ts hc (Ch.s (.ptr 2000 1) (fP fld63_1 rfl) (Ch.s (.d (.slice false 4 (x.gates.map Gat.d))) (lP ag61 rfl rfl rfl) (Ch.s (.ptr 3000 1) (fP fld63_1 rfl) (Ch.s (.d (.slice false 4 (y.gates.map Gat.d))) (lP ag61 rfl rfl rfl) ?_))))))
  refine Ch.s (dB (decide (x.gates = y.gates))) (.call 15000 98 _ _ _ en98 rfl (.inl rfl) (.cons (.d _) (.cons (.d _) .nil)) rfl rfl (sp_laws_eqGateS x.gates y.gates a46) (.skip _ _ (.skip _ _ .nil)) rfl) (Ch.s (dB (!(decide (x.gates = y.gates)))) (nT rfl) (Ch.nil ?_))
  refine T_condN (b := (decide (x.gates = y.gates))) rfl (fun h2 => ?_) (fun h2 => ?_)
  ·
   replace h2 := odf h2
   refine Ts hc (Ch.s (dB false) pa (Ch.nil (T_ret ?_)))
   exact eR [(dB false)] [] [] (.cons (.tmp 4 rfl) .nil) eB (Exp.of (congrArg D.bool a136) (.d _))
  ·
   replace h2 := odt h2
   refine Tk (Ts hc (Ch.s (dB true) pa (Ch.nil (T_ret ?_))))
   exact eR [(dB true)] [] [] (.cons (.tmp 4 rfl) .nil) eB (Exp.of (congrArg D.bool a136) (.d _))

end Go.AM
