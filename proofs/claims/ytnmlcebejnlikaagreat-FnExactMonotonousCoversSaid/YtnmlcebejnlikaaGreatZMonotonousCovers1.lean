/-
  The contracts that the law FnExactMonotonousCovers needs.
-/
import Derived.Test.YtnmlcebejnlikaaGreatAmO
import Derived.Test.YtnmlcebejnlikaaGreatProg
import Derived.KernelRfl
import Derived.Test.YtnmlcebejnlikaaGreatAmP
import Derived.Test.YtnmlcebejnlikaaGreatAmW
import Derived.Test.YtnmlcebejnlikaaGreatAmX
import Derived.Test.YtnmlcebejnlikaaGreatAmY
import Derived.Test.YtnmlcebejnlikaaGreatAmZ
namespace Go.AM
open Go.Proofs
set_option linter.unusedVariables false
set_option linter.unusedSimpArgs false

theorem iX {P : Program} {ρ : Operand → V} {h : Nat → Option Ob} {dst : Option Nat} {op t x y t' a2 b2 c2 d2} {k a b r} (hx : ρ x = .d (.int k a)) (hy : ρ y = .d (.int k b)) (hv : intV op k a b = some r) : Ev P ρ h (Oper.mk dst (.binOp op t x y t') a2 b2 c2 d2) (.d r) {} := .pure (.int _ _ _ _ _ rfl hx hy hv)
theorem lb {n m : Nat} (h : Nat.ble n m = true) : n ≤ m := Nat.le_of_ble_eq_true h
theorem T_condD {P : Program} {c : Ctx} {Q : Exit → St → Prop} {α : St} {k : Operand} {x y : Code} {p : Prop} [Decidable p] (hk : α.ev k = .d (.bool (decide p))) (ht : p → T P c x Q α) (hf : ¬p → T P c y Q α) : T P c (.cond k x y) Q α := T_cond hk (fun h => ht (of_decide_eq_true h)) (fun h => hf (of_decide_eq_false h))
theorem T_condN {P : Program} {c : Ctx} {Q : Exit → St → Prop} {α : St} {k : Operand} {x y : Code} {b : Bool} (hk : α.ev k = .d (.bool (!b))) (ht : b = false → T P c x Q α) (hf : b = true → T P c y Q α) : T P c (.cond k x y) Q α := T_cond hk (fun h => ht (nott h)) (fun h => hf (notf h))
theorem a123 {p : Prop} (h : p := by first | assumption | omega) : p := h
theorem a122 {p : Prop} (h : p := by cases x; cases y; simp_all) : p := h
theorem a121 {p : Prop} (h : p := by intro S w; exact nil_reads true 1) : p := h
theorem a120 {p : Prop} (h : p := by intro S w; rw [DR]; exact ⟨rfl, rfl⟩) : p := h
theorem a119 {p : Prop} (h : p := by first | assumption | exact made_sg hmd) : p := h
theorem a118 {p : Prop} (h : p := by exact eqL_at default k (by assumption)) : p := h
theorem a117 {p : Prop} (h : p := by first | rfl | (rw [List.map_set]; done)) : p := h
theorem a116 {p : Prop} (h : p := by first | (rw [whyV, h1]; rfl) | (rw [h1]; done)) : p := h
theorem a115 {p : Prop} (h : p := by first | rfl | (rw [cubesMid_all (by omega)]; done)) : p := h
theorem a114 {p : Prop} (h : p := by first | rfl | omega | (simp; done) | (simp; omega)) : p := h
theorem a113 {p : Prop} (h : p := by exact any_no default (fun j hj => hp0.2 j (by omega))) : p := h
theorem a112 {p : Prop} (h : p := by rw [D.solid]; exact solids_c (solid_row Rcv.sol _) rfl) : p := h
theorem a111 {p : Prop} (h : p := by first | rfl | (exact push rfl (steps_take (by omega)))) : p := h
theorem a110 {p : Prop} (h : p := by first | rfl | (exact push rfl (cb_succ (by omega)).symm)) : p := h
theorem a109 {p : Prop} (h : p := by first | rfl | (rw [prM_end (by omega) (by omega)]; done)) : p := h
theorem a108 {p : Prop} (h : p := by first | assumption | (unfold arcB codeAt; simp_all; done)) : p := h
theorem a107 {p : Prop} (h : p := by first | rfl | (rw [show 2 * (k + 1) = 2 * k + m by omega])) : p := h
theorem a106 {p : Prop} (h : p := by rw [bestF, show (cubes x.sigs.length).length = k by omega]) : p := h
theorem a105 {p : Prop} (h : p := by first | rfl | (rw [hqe]; exact push rfl hlh.2.2.2.2.1.symm)) : p := h
theorem a104 {p : Prop} (h : p := by rw [D.solid]; exact solids_c (solid_row (fun _ => rfl) _) rfl) : p := h
theorem a103 {p : Prop} (h : p := by first | (rw [ixF_all h1]; done) | (exact dl_end hp0 (by omega))) : p := h
theorem a102 {p : Prop} (h : p := by first | rfl | (exact congrArg (List.map _) (pvA_end (by omega)))) : p := h
theorem a101 {p : Prop} (h : p := by exact eqL_all default (by omega) (fun j hj => hp0.2 j (by omega))) : p := h
theorem a100 {p : Prop} (h : p := by first | rfl | (rw [← edges_succ (by omega), List.map_append]; rfl)) : p := h
theorem a99 {p : Prop} (h : p := by first | assumption | omega | (rw [rmk_len]; omega) | exact mcbd.2.2) : p := h
theorem a98 {p : Prop} (h : p := by first | (exact metIt_start x) | (rw [metTo_all x k (by omega)]; done)) : p := h
theorem a97 {p : Prop} (h : p := by exact (ixF_none (d := default) (fun j hj => hp0.2 j (by omega))).symm) : p := h
theorem a96 {p : Prop} (h : p := by exact (ixF_some (d := default) (by omega) hp0.2 (by assumption)).symm) : p := h
theorem a95 {p : Prop} (h : p := by first | rfl | (rw [← cubesMid_succ (by omega), List.map_append]; rfl)) : p := h
theorem a94 {p : Prop} (h : p := by first | (rw [sumF_zero]; omega) | (rw [sumF_succ _ (by omega)]; omega)) : p := h
theorem a93 {p : Prop} (h : p := by first | (rw [sumTo_zero]; omega) | (rw [sumTo_succ (by omega)]; omega)) : p := h
theorem a92 {p : Prop} (h : p := by first | rfl | (rw [hmg]; exact rm_set) | (simp only [hmg]; exact rm_set)) : p := h
theorem a91 {p : Prop} (h : p := by first | assumption | exact hrq | exact fun a ha => (exR_in _ hrg).2.2 a ha) : p := h
theorem a90 {p : Prop} (h : p := by first | (rw [nxTo, List.map_replicate]; rfl) | (rw [nxTo]; exact set_holeI)) : p := h
theorem a89 {p : Prop} (h : p := by first | rfl | (exact congrArg (List.map _) (cTo_next (by omega) (by omega)))) : p := h
theorem a88 {p : Prop} (h : p := by first | (simp_all [edgeB, lab_eq]; done) | (simp_all [edgeB, lab_eq]; omega)) : p := h
theorem a87 {p : Prop} (h : p := by first | (rw [fill_all _ _ (by simp; omega)]; rfl) | (rw [pTo_next (by omega)]; done)) : p := h
theorem a86 {p : Prop} (h : p := by first | omega | (simp only [List.length_map, List.length_set]; omega) | (simp; omega)) : p := h
theorem a85 {p : Prop} (h : p := by unfold inputB; simp only [*, decide_true, decide_false, Bool.true_and, Bool.false_and]) : p := h
theorem a84 {p : Prop} (h : p := by first | (rw [show k = x.arcs.length by omega]; rfl) | (rw [mqTo_next (by omega)]; done)) : p := h
theorem a83 {p : Prop} (h : p := by show _ = szR (bulkF Sgn.bulk x.sigs + bulkS x.codes + bulkF Arc.bulk x.arcs) left; omega) : p := h
theorem a82 {p : Prop} (h : p := by first | (rw [marked_zero]; done) | (rw [← marked_set xs k (by omega), List.map_set]; done)) : p := h
theorem a81 {p : Prop} (h : p := by first | rfl | (rw [litTo_succ, litOf, show (xs.getD k default).length = m by omega]; done)) : p := h
theorem a80 {p : Prop} (h : p := by first | rfl | (rw [rml_succ (by omega)]; rw [hmg]; omega) | (rw [rml_succ (by omega)]; omega)) : p := h
theorem a79 {p : Prop} (h : p := by first | rfl | (rw [show k = x.arcs.length by omega]) | (rw [show m = x.arcs.length by omega])) : p := h
theorem a78 {p : Prop} (h : p := by first | (rw [lmask, if_pos (by assumption)]; done) | (rw [lmask, if_neg (by simp_all)]; done)) : p := h
theorem a77 {p : Prop} (h : p := by first | rfl | contradiction | (exfalso; omega) | (simp_all; done) | (exfalso; simp_all; omega)) : p := h
theorem a76 {p : Prop} (h : p := by first | (simp [List.map_take, List.map_drop]; done) | (rw [List.take_length, List.map_drop]; done)) : p := h
theorem a75 {p : Prop} (h : p := by first | exact (hp0.keep (by omega) (by assumption)).1 | exact (hp0.skip (by omega) (by assumption)).1) : p := h
theorem a74 {p : Prop} (h : p := by first | (rw [adjTo_zero, List.map_replicate]; rfl) | (rw [adjTo_succ (by omega), linked]; exact set_holeI)) : p := h
theorem a73 {p : Prop} (h : p := by first | (rw [rml_all (m := m) (by omega)]; done) | (exfalso; omega) | (exfalso; simp_all; done) | contradiction) : p := h
theorem a72 {p : Prop} (h : p := by first | rfl | omega | (rw [cntB_yes (by simp_all [isLit])]; omega) | (rw [cntB_no (by simp_all [isLit])]; done)) : p := h
theorem a71 {p : Prop} (h : p := by first | (rw [fill_zero, List.map_replicate]; done) | (rw [← fill_set xs [] default (by omega), List.map_set]; done)) : p := h
theorem a70 {p : Prop} (h : p := by first | (rw [ixF_all h1]; done) | (rw [take_cut (by simp; omega), ← List.map_take, hp0.done (by omega)]; done) | skip) : p := h
theorem a69 {p : Prop} (h : p := by unfold mP3; simp only [*, Bool.not_true, Bool.not_false, Bool.and_true, Bool.true_and, Bool.and_false, Bool.false_and]) : p := h
theorem a68 {p : Prop} (h : p := by unfold mP2; simp only [*, Bool.not_true, Bool.not_false, Bool.and_true, Bool.true_and, Bool.and_false, Bool.false_and]) : p := h
theorem a67 {p : Prop} (h : p := by first | (rw [fill_zero, List.map_replicate]; rfl) | (rw [← fill_set xs default default (by omega), List.map_set]; rfl)) : p := h
theorem a66 {p : Prop} (h : p := by first | (rw [leftF_zero]; done) | (rw [h9, ← hlh5]; done) | (exact congrArg (List.map _) (by rw [hqe, ← hlh.2.2.2.2.2]))) : p := h
theorem a65 {p : Prop} (h : p := by first | rfl | (rw [show m = ((adjTo n l l.length).getD (q.1.2.getD q.2 default).toNat default).length by omega] <;> rfl)) : p := h
theorem a64 {p : Prop} (h : p := by first | assumption | exact fun a ha => (hr a ha).1 | exact fun a ha => (hrq a ha).1 | exact fun a ha => (hrg2.2.2 a ha).1) : p := h
theorem a63 {p : Prop} (h : p := by first | (rw [sigOk, h2, h3, any_take (by omega) (by omega) hp1.2]; rfl) | (simp_all [sigOk]; done) | (simp_all [sigOk]; omega)) : p := h
theorem a62 {p : Prop} (h : p := by first | rfl | (exact push rfl (selTo_yes (by simp_all [outP]))) | (exact congrArg (List.map _) (selTo_no (by simp_all [outP])))) : p := h
theorem a61 {p : Prop} (h : p := by first | rfl | (exact metTo_yes (by omega) (by assumption)) | (exact congrArg (List.map _) (metTo_no (by omega) (by assumption)))) : p := h
theorem a60 {p : Prop} (h : p := by first | exact (dl_start h1).1 | exact (dl_keep hp0 (by omega) (by assumption)).1 | exact (dl_skip hp0 (by omega) (by assumption)).1) : p := h
theorem a59 {p : Prop} (h : p := by first | (rw [hasB, allB_no k (by omega) (by simp_all [hasCh])]; done) | (rw [hasB, allB_of (fun j hj => hp0.2 j (by omega))]; done)) : p := h
theorem a58 {p : Prop} (h : p := by first | rfl | (exact push rfl (selTo_yes (out_in (by assumption)))) | (exact congrArg (List.map _) (selTo_no (out_not (by assumption))))) : p := h
theorem a57 {p : Prop} (h : p := by first | rfl | (exact push rfl (selTo_yes (by rw [hpn]; assumption))) | (exact congrArg (List.map _) (selTo_no (by rw [hpn]; assumption)))) : p := h
theorem a56 {p : Prop} (h : p := by first | omega | (simp only [List.length_append, List.length_map, List.length_cons, List.length_nil]; omega) | (simp; omega) | (simp; done)) : p := h
theorem a55 {p : Prop} (h : p := by first | (have hal := sumF_all Sgn.bulk (xs := xs) (k := k) (by omega); rw [szR, bulkF]; split <;> omega) | (rw [szR, bulkF]; split <;> omega)) : p := h
theorem a54 {p : Prop} (h : p := by first | (rw [codeN, allB_no k (by omega) (by simp_all [codeCh])]; rfl) | (rw [codeN, allB_of (fun j hj => hp0.2 j (by omega)), Bool.true_and])) : p := h
theorem a53 {p : Prop} (h : p := by first | (rw [codeN, allB_no k (by omega) (by simp_all [codeCh])]; rfl) | (rw [codeN, allB_of (fun j hj => hp0.2 j (by omega)), Bool.true_and]; done)) : p := h
theorem a52 {p : Prop} (h : p := by first | rfl | (rw [List.map_set]; done) | (rw [show m = ((adjTo n l l.length).getD (q.1.2.getD q.2 default).toNat default).length by omega] <;> rfl)) : p := h
theorem a51 {p : Prop} (h : p := by first | (rw [heldR, heldB, allB_no m (by omega) (by simp_all)]; rfl) | (rw [heldR, heldB, allB_of (fun j hj => hp0.2 j (by omega)), if_pos rfl]; omega)) : p := h
theorem a50 {p : Prop} (h : p := by first | rfl | (rw [relaxTo_succ (by omega), relax, if_pos (by assumption), List.map_set]) | (rw [relaxTo_succ (by omega), relax, if_neg (by assumption)])) : p := h
theorem a49 {p : Prop} (h : p := by first | rfl | (rw [relaxTo_succ (by omega), relax, if_pos (by assumption), List.map_append]; rfl) | (rw [relaxTo_succ (by omega), relax, if_neg (by assumption)])) : p := h
theorem a48 {p : Prop} (h : p := by first | (rw [why_hid h1]; done) | (rw [why_two h1 h2]; done) | (rw [why_brk h1 h2 h3]; done) | (rw [why_cf h1 h2 h3 h4]; done) | (rw [why_made h1 h2 h3 h4]; done)) : p := h
theorem a47 {p : Prop} (h : p := by first | (rw [inputB_lt (by omega)]; rfl) | (rw [inputB_yes (by omega) (by assumption)]; rfl) | (rw [inputB_no (by assumption)]; rfl) | (unfold inputB; simp_all; done)) : p := h
theorem a46 {p : Prop} (h : p := by first | assumption | omega | trivial | (simp_all; done) | (exact fun _ _ => trivial) | (exact hx _ (by assumption)) | (refine ⟨?_, ?_⟩ <;> first | assumption | omega)) : p := h
theorem a45 {p : Prop} (h : p := by first | rfl | (rw [show v = (exR x ((outsL x.sigs).getD k default) ([true, false].getD m default)).length by omega]; exact push rfl (mc_succ2 (by omega) (by omega)).symm)) : p := h
theorem a44 {p : Prop} (h : p := by first | rfl | (exact congrArg (List.map _) (q1_yes (by omega) (by rw [← hvc]; assumption))) | (exact congrArg (List.map _) (q1_no (by omega) (by rw [← hvc]; assumption)))) : p := h
theorem a43 {p : Prop} (h : p := by first | omega | (simp only [List.length_map, List.length_append, List.length_take, List.length_drop, List.length_cons, List.length_nil]; omega) | (simp; omega) | (simp; done)) : p := h
theorem a42 {p : Prop} (h : p := by first | assumption | (show Sgr.bulk (Sgr.mk _ [] []) ≤ 1048576; unfold Sgr.bulk bulkS bulkF; simp only [List.length_nil, List.map_nil, List.sum_nil]; unfold bulkF at *; omega)) : p := h
theorem a41 {p : Prop} (h : p := by first | rfl | (rw [List.set_set, List.map_set]; rfl) | (rw [List.set_set, List.set_set, List.map_set]; rfl) | (rw [List.set_set, List.set_set, List.set_set, List.map_set]; rfl)) : p := h
theorem a40 {p : Prop} (h : p := by first | (rw [fill_zero, List.map_replicate, List.length_range, hil]; rfl) | (rw [← fill_setV (v := k) (by rw [List.length_range]; omega) (range_at (by omega)), List.map_set]; done)) : p := h
theorem a39 {p : Prop} (h : p := by first | assumption | omega | (rw [List.length_take]; omega) | (have := bulkF_mem hb _ (getD_mem (d := default) (by omega)); assumption) | (unfold bulkS at *; omega) | (simp_all; done)) : p := h
theorem a38 {p : Prop} (h : p := by first | rfl | (rw [show m = (exR x ((edgesF (outsL x.sigs)).getD k default).sig ((edgesF (outsL x.sigs)).getD k default).up).length by omega]; exact push rfl (mc_succ (by omega)).symm)) : p := h
theorem a37 {p : Prop} (h : p := by first | (exact push rfl (addQ_yes (by assumption) (by assumption))) | (exact congrArg (List.map _) (addQ_no1 (by assumption))) | (exact congrArg (List.map _) (addQ_no2 (by assumption)))) : p := h
theorem a36 {p : Prop} (h : p := by first | (exact congrArg (List.map _) (prM_start _ _ _)) | (exact push rfl (prM_yes (by omega) (decide_eq_true (by omega)))) | (exact congrArg (List.map _) (prM_no (decide_eq_false (by omega))))) : p := h
theorem a35 {p : Prop} (h : p := by first | (rw [sigsB, allB_no k (by omega) (by first | (simp_all [sigOk]; done) | (simp_all [sigOk]; omega))] <;> rfl) | (rw [sigsB, allB_of (fun j hj => hp0.2 j (by omega)), Bool.true_and]; done)) : p := h
theorem a34 {p : Prop} (h : p := by first | (rw [fill_zero, List.map_replicate, hil]; rfl) | (rw [← inL_yes hx (by omega) hs (by assumption), List.map_set]; done) | (rw [← inL_no hx (by omega) hs.1 (by assumption), List.map_set]; done)) : p := h
theorem a33 {p : Prop} (h : p := by first | (rw [masksTo_zero, List.map_replicate]; rfl) | (rw [masksTo_succ (by omega), maskStep, if_pos (by assumption), List.map_set]; done) | (rw [masksTo_succ (by omega), maskStep, if_neg (by assumption)])) : p := h
theorem a32 {p : Prop} (h : p := by first | (simp only [fitCh, *, if_true, if_false, reduceIte, decide_true, decide_false, Bool.and_true, Bool.true_and, Bool.and_false, Bool.false_and, Bool.not_true, Bool.not_false]; done) | (simp_all [fitCh]; done)) : p := h
theorem a31 {p : Prop} (h : p := by first | rfl | (rw [unM_succ (by omega), (by assumption : unM x ((prA x).getD q.1 default) m = true)]; rfl) | (rw [unM_succ (by omega), (by assumption : unM x ((prA x).getD q.1 default) m = false), Bool.false_or]; done)) : p := h
theorem a30 {p : Prop} (h : p := by first | rfl | (rw [← mqTo_yes (by omega) (by assumption) (by assumption), List.map_set]; done) | (exact congrArg (List.map _) (mqTo_no1 (by omega) (by assumption))) | (exact congrArg (List.map _) (mqTo_no2 (by omega) (by assumption)))) : p := h
theorem a29 {p : Prop} (h : p := by first | rfl | (exact push rfl (clsK_yes (by omega) (by assumption) (by rw [← hpe]; assumption))) | (exact congrArg (List.map _) (clsK_no1 (by omega) (by assumption))) | (exact congrArg (List.map _) (clsK_no2 (by rw [← hpe]; assumption)))) : p := h
theorem a28 {p : Prop} (h : p := by first | rfl | (rw [clsK_all (x := x) (i := m) (by omega)]; exact push rfl (reg_yes (by rw [← clsK_all (x := x) (i := m) (by omega)]; omega))) | (exact congrArg (List.map _) (reg_no (by rw [← clsK_all (x := x) (i := m) (by omega)]; omega)))) : p := h
theorem a27 {p : Prop} (h : p := by first | exact (dl_keep (u := default) hp0 (by omega) (by assumption)).2 | exact (dl_skip (u := default) hp0 (by omega) (by assumption)).2 | exact (dl_keep hp0 (by omega) (by assumption)).2 | exact (dl_skip hp0 (by omega) (by assumption)).2) : p := h
theorem a26 {p : Prop} (h : p := by first | rfl | (rw [← pTo_yes hen (by omega) (by assumption) (by assumption), List.map_set, List.map_set]; done) | (exact congrArg (List.map _) (pTo_no1 hen (by omega) (by assumption))) | (exact congrArg (List.map _) (pTo_no2 hen (by omega) (by assumption)))) : p := h
theorem a25 {p : Prop} (h : p := by first | (rw [sigsB, allB_no k (by omega) (by first | (rw [sigOk, h2, h3, ← hy]; done) | (rw [sigOk, h2, h3, ← hy]; rfl) | (simp_all [sigOk]; done) | (simp_all [sigOk]; omega))] <;> rfl) | (rw [sigsB, allB_of (fun j hj => hp0.2 j (by omega)), Bool.true_and]; done)) : p := h
theorem a24 {p : Prop} (h : p := by first | rfl | (exact push rfl (unK_yes (by omega) (by rw [← unM_all (m := m) (by omega)]; assumption))) | (exact congrArg (List.map _) (unK_no (by omega) (by rw [← unM_all (m := m) (by omega)]; assumption))) | (exact mg_set (f := intsU) (xs := prA x) hp0.2 (by omega))) : p := h
theorem a23 {p : Prop} (h : p := by first | omega | assumption | (exact hx _ (getD_mem (by omega))) | (exact hx _ (by assumption)) | (exact Nat.le_trans (hx _ (by assumption)) (by omega)) | (simp only [List.length_append, List.length_take, List.length_drop, List.length_cons, List.length_nil]; omega) | (simp_all; done)) : p := h
theorem a22 {p : Prop} (h : p := by first | (exact met_no hn hen (k := k) (by omega) m (by omega) (by assumption)) | (exact met_yes hn hen (k := k) (by omega) (fun j hj => hp2.2 j (by clear hp2; omega))) | (have hge : x.codes.length ≤ m := (by omega); exact met_yes hn hen (k := k) (by omega) (fun j hj => hp2.2 j (Nat.lt_of_lt_of_le hj hge)))) : p := h
theorem a21 {p : Prop} (h : p := by first | (rw [sgB, h1]; rfl) | (rw [sgB, h1, h2]; rfl) | (rw [sgB, h1, h2, decide_eq_true (by omega)]; rfl) | (exact (sg_no_code (k := k) (by omega) (by assumption)).symm) | (exact (sg_no_arc (k := m) (by omega) a108).symm) | (exact sg_end h1 h2 (by omega) hcl hal)) : p := h
theorem a20 {p : Prop} (h : p := by first | (obtain ⟨k0, hk0, hk1, hk2⟩ := ixF_first h1; have e : (ixF p xs).toNat = k0 := (by omega); dsimp only; rw [e, hk2, hk1, List.length_take, Nat.min_eq_left (by omega)]; done) | (have e := (hp0.keep (by omega) (by assumption)).2; dsimp only; omega) | (have e := (hp0.skip (by omega) (by assumption)).2; dsimp only; omega)) : p := h
theorem a19 {p : Prop} (h : p := by first | (rw [fitB, allB_no k (by omega) a32]; done) | (rw [fitB, allB_of (fun j hj => hp0.2 j (by omega))]; done)) : p := h
theorem a18 {p : Prop} (h : p := by first | (simp only [isArc, *, decide_true, decide_false, Bool.and_true, Bool.true_and, Bool.and_false, Bool.false_and, Bool.or_false, Bool.false_or, Bool.or_true, Bool.true_or, Bool.not_true, Bool.not_false, not_false_eq_true, Bool.false_eq_true, if_true, if_false, reduceIte, ite_true, ite_false]; done) | (simp_all [isArc]; done)) : p := h
theorem a17 {p : Prop} (h : p := by first | (have e := (dl_start (u := u0) h1).2.2.1; dsimp only; omega) | (have e := keepTo_yes (by omega) (by assumption : p (xs.getD q.1 default) = false); dsimp only; rw [e, List.length_append, List.length_singleton]; omega) | (have e := keepTo_no (by omega) (by assumption : p (xs.getD q.1 default) = true); dsimp only; rw [e]; done)) : p := h
theorem a16 {p : Prop} (h : p := by first | (exact congrArg (List.map _) (pvA_zero x k)) | (exact congrArg (List.map _) (pvA_no (by first | assumption | exact two_n0 hx (by omega) (by assumption)))) | (exact congrArg (List.map _) (pvB_end hx (by omega) (two_n1 hx (by omega) (by assumption)) (by omega))) | (exact congrArg (List.map _) (pvC_end (by assumption) (by omega)))) : p := h
theorem a15 {p : Prop} (h : p := by first | (rw [List.map_replicate.symm]; rfl) | (rw [← mq0_yes (by omega) (by assumption) (by assumption) (by assumption), List.map_set]; done) | (exact congrArg (List.map _) (mq0_no1 (by omega) (by assumption))) | (exact congrArg (List.map _) (mq0_no2 (by omega) (by assumption))) | (exact congrArg (List.map _) (mq0_no3 (by omega) (by assumption)))) : p := h
theorem a14 {p : Prop} (h : p := by first | (exact congrArg (List.map _) (prM_start _ _ _)) | (exact push rfl (prM_yes (by omega) (by first | exact decide_eq_true (by assumption) | exact decide_eq_true (Eq.symm (by assumption))))) | (exact congrArg (List.map _) (prM_no (by first | exact decide_eq_false (by assumption) | exact decide_eq_false (fun e => (by assumption : ¬ _) e.symm))))) : p := h
theorem a13 {p : Prop} (h : p := by first | rfl | (exact push rfl (edK_yes (by omega) (by first | (rw [← lab_is]; exact decide_eq_true (by assumption)) | (rw [← lab_is2]; exact decide_eq_true (by assumption))))) | (exact congrArg (List.map _) (edK_no (by omega) (by first | (rw [← lab_is]; exact decide_eq_false (by assumption)) | (rw [← lab_is2]; exact decide_eq_false (by assumption)))))) : p := h
theorem a12 {p : Prop} (h : p := by first | (rw [sgB, h1]; rfl) | (rw [sgB, h1, h2]; rfl) | (rw [sgB, h1, h2, decide_eq_true (by omega)]; rfl) | (exact (sg_no_code (k := k) (by omega) (by assumption)).symm) | (exact (sg_no_arc (k := m) (by omega) a108).symm) | (rw [← sg_end h1 h2 (by omega) hcl hal]; done) | (exact sg_end h1 h2 (by omega) hcl hal)) : p := h
theorem a11 {p : Prop} (h : p := by first | (rw [arcB, h1]; rfl) | (rw [arcB, h1, h2]; rfl) | (rw [arcB, h1, h2, h3]; rfl) | (rw [arcB, h1, h2, h3, hf4]; rfl) | (rw [arcB, h1, h2, h3, hf5]; unfold codeAt setCh; simp only [*, decide_true, decide_false, Bool.true_and, Bool.false_and]; done) | (rw [arcB, h1, h2, h3, hf5]; unfold codeAt setCh; rw [decide_eq_true h5]; rfl) | (rw [arcB, h1, h2, h3, hf5]; unfold codeAt setCh; rw [decide_eq_false h5]; rfl)) : p := h
theorem a10 {p : Prop} (h : p := by first | rfl | (exact push rfl (cIn_yes (by omega) (by first | assumption | (rw [← hvc]; assumption)) (by assumption) (by assumption))) | (exact congrArg (List.map _) (cIn_no1 (by omega) (by rw [← hvc]; assumption))) | (exact congrArg (List.map _) (cIn_no1 (by omega) (by assumption))) | (exact congrArg (List.map _) (cIn_no2 (by omega) (by assumption))) | (exact congrArg (List.map _) (cIn_no3 (by omega) (by assumption)))) : p := h
theorem a9 {p : Prop} (h : p := by first | rfl | (exact congrArg (List.map _) (q0_yes (by omega) (by first | (rw [← lab_is]; exact decide_eq_true (by assumption)) | (rw [← lab_is]; exact decide_eq_false (by assumption))) (by assumption))) | (exact congrArg (List.map _) (q0_no1 (by omega) (by first | (rw [← lab_is]; exact decide_eq_true (by assumption)) | (rw [← lab_is]; exact decide_eq_false (by assumption))))) | (exact congrArg (List.map _) (q0_no2 (by omega) (by assumption)))) : p := h
theorem a8 {p : Prop} (h : p := by first | (rw [nameCh, letB, digB]; simp only [*, decide_true, decide_false, Bool.and_true, Bool.true_and, Bool.and_false, Bool.false_and, Bool.or_false, Bool.false_or, Bool.or_true, Bool.true_or, Bool.not_true, Bool.not_false, not_false_eq_true]; done) | (rw [nameCh, letB, digB_n]; simp only [*, decide_true, decide_false, Bool.and_true, Bool.true_and, Bool.and_false, Bool.false_and, Bool.or_false, Bool.false_or, Bool.or_true, Bool.true_or, Bool.not_true, Bool.not_false, not_false_eq_true]; done)) : p := h
theorem a7 {p : Prop} (h : p := by first | rfl | (rw [bc_yes (by omega) (by first | exact .inl (by assumption) | exact .inr (by omega)) (by omega)]; done) | (rw [bc_yes (by omega) (by first | exact .inl (by assumption) | exact .inr (by omega)) (by omega)]; rfl) | (rw [bc_no1 (by omega) (by assumption) (by omega)]; done) | (rw [bc_no2 (by omega) (by omega)]; done) | (rw [bc_no1 (by omega) (by assumption) (by omega)]; assumption) | (rw [bc_no2 (by omega) (by omega)]; assumption) | (rw [bc_no1 (by omega) (by assumption) (by omega)]; symm; assumption) | (rw [bc_no2 (by omega) (by omega)]; symm; assumption)) : p := h
theorem a6 {p : Prop} (h : p := by first | (exact congrArg (List.map _) (pvB_zero x k s _)) | (exact push rfl (pvB_yes (by omega) (by omega) (pvQ_yes (by assumption) (by first | assumption | exact two_i0 hx (by omega) (by assumption)) (by first | exact .inl (by assumption) | exact .inr (by assumption))))) | (exact congrArg (List.map _) (pvB_no (by omega) (pvQ_no1 (by assumption)))) | (exact congrArg (List.map _) (pvB_no (by omega) (pvQ_no2 (by first | assumption | exact two_i1 hx (by omega) (by assumption))))) | (exact congrArg (List.map _) (pvB_no (by omega) (pvQ_no3 (by assumption) (by assumption))))) : p := h
theorem a5 {p : Prop} (h : p := by first | (rw [mon_1 k (by omega) (by assumption)]; rfl) | (rw [mon_2 (fun j hj => hp0.2 j (by omega)) m (by omega) a68]; rfl) | (rw [mon_3 (fun j hj => hp0.2 j (by omega)) (fun j hj => hp1.2 j (by omega)) v (by omega) a69]; rfl) | (rw [mon_0 (fun j hj => hp0.2 j (by omega)) (fun j hj => hp1.2 j (by omega)) (fun j hj => hp2.2 j (by omega))]; rfl)) : p := h
theorem a4 {p : Prop} (h : p := by first | (rw [nameB, allB_no k (by omega) a8]; rfl) | (rw [nameB, allB_of (fun j hj => hp0.2 j (by omega)), Bool.true_and]; done)) : p := h
theorem a3 {p : Prop} (h : p := by first | (rw [mcV_no (by first | exact mcB_no1 (by assumption) | exact mcB_no1 (made_no0 (by assumption)) | exact mcB_no1 (made_no1 (by assumption)))]; rfl) | (exact ((by first | exact mcB_no1 (by assumption) | exact mcB_no1 (made_no0 (by assumption)) | exact mcB_no1 (made_no1 (by assumption))) : mcB x = false).symm) | (rw [mcV_no (mcB_no2 k (by omega) (okE_no m (by omega) (by assumption)))]; rfl) | (exact ((mcB_no2 k (by omega) (okE_no m (by omega) (by assumption))) : mcB x = false).symm) | (rw [mcV_yes (k := k) (mcB_yes hmd (fun j hj => hp0.2 j (by omega))) (by omega)]; done) | (exact ((mcB_yes hmd (fun j hj => hp0.2 j (by omega))) : mcB x = true).symm)) : p := h
theorem a2 {p : Prop} (h : p := by first | (exact congrArg (List.map _) (pvC_zero x k s)) | (exact push rfl (pvC_yes (pvP_of (by assumption) (pvQ_yes (by assumption) (by first | assumption | exact two_i0 hx (by omega) (by assumption)) (by first | exact .inl (by assumption) | exact .inr (by assumption)))))) | (exact congrArg (List.map _) (pvC_no (pvP_no (by assumption)))) | (exact congrArg (List.map _) (pvC_no (pvP_of (by assumption) (pvQ_no1 (by assumption))))) | (exact congrArg (List.map _) (pvC_no (pvP_of (by assumption) (pvQ_no2 (by first | assumption | exact two_i1 hx (by omega) (by assumption)))))) | (exact congrArg (List.map _) (pvC_no (pvP_of (by assumption) (pvQ_no3 (by assumption) (by assumption)))))) : p := h
theorem a1 {p : Prop} (h : p := by first | (rw [mcV_no (by first | exact mcB_no1 (by assumption) | exact mcB_no1 (made_no0 (by assumption)) | exact mcB_no1 (made_no1 (by assumption)))]; rfl) | (exact ((by first | exact mcB_no1 (by assumption) | exact mcB_no1 (made_no0 (by assumption)) | exact mcB_no1 (made_no1 (by assumption))) : mcB x = false).symm) | (rw [mcV_no (mcB_no2 (2 * k + m) hed.1 (by rw [hed.2]; exact okE_no2 v (by omega) (by unfold bestF; assumption)))]; rfl) | (exact ((mcB_no2 (2 * k + m) hed.1 (by rw [hed.2]; exact okE_no2 v (by omega) (by unfold bestF; assumption))) : mcB x = false).symm) | (rw [mcV_yes (k := 2 * k) (mcB_yes hmd (fun j hj => hp0.2 j (by omega))) (by omega)]; done) | (exact ((mcB_yes hmd (fun j hj => hp0.2 j (by omega))) : mcB x = true).symm)) : p := h

def bitN (up : Bool) : UInt8 := if up then 49 else 48

def withinB (n lo hi : Int) : Bool := decide (lo ≤ n) && decide (n ≤ hi)

theorem sp_impl_within (n lo hi : Int) : Sp Tryz.prog 91 [(.int .i64 n), (.int .i64 lo), (.int .i64 hi)] [.any, .any, .any] (.bool (withinB n lo hi)) := by
 refine Sp_intro (lend := true) Tryz.func91 rfl rfl rfl (fun _ => rfl) (fun c hc hX => ?_)
 refine T_seq (T_region hc (Ch.s (.d (.bool false)) pa (Ch.nil (T_seq (T_region hc (Ch.s (.d (.int .i64 lo)) pm (Ch.s (.d (.int .i64 n)) pm ?_)))))))
 refine Ch.s (.d (.bool (decide (lo ≤ n)))) (iX rfl rfl rfl) (Ch.s (.d (.bool (decide (lo ≤ n)))) pm ?_)
 cases h1 : (decide (lo ≤ n)) with
 | true =>
  replace h1 := of_decide_eq_true h1
  refine Ch.s (.d (.int .i64 n)) pm (Ch.s (.d (.int .i64 hi)) pm (Ch.s (.d (.bool (decide (n ≤ hi)))) (iX rfl rfl rfl) (Ch.s (.d (.bool (decide (n ≤ hi)))) (.pure (.pickT _ _ _ rfl rfl rfl)) (Ch.s (.d (.bool (decide (n ≤ hi)))) pa (Ch.nil (T_ret ?_))))))
  exact endR [(.d (.bool (decide (n ≤ hi))))] [] [] (.cons (.tmp 6 rfl) .nil) (.cons (.any _) (.cons (.any _) (.cons (.any _) .nil))) (Exp.of (congrArg D.bool (by simp [withinB] <;> omega)) (.d _)) rfl rfl
 | false =>
  replace h1 := of_decide_eq_false h1
  refine Ch.skip rfl rfl (Ch.skip rfl rfl (Ch.skip rfl rfl (Ch.s (.d (.bool false)) (.pure (.pickF _ _ _ rfl rfl rfl)) (Ch.s (.d (.bool false)) pa (Ch.nil (T_ret ?_))))))
  exact endR [(.d (.bool false))] [] [] (.cons (.tmp 6 rfl) .nil) (.cons (.any _) (.cons (.any _) (.cons (.any _) .nil))) (Exp.of (congrArg D.bool (by simp [withinB] <;> omega)) (.d _)) rfl rfl

theorem sp_spec_l1In (n lo hi : Int) : Sp Tryz.prog 89 [(.int .i64 n), (.int .i64 lo), (.int .i64 hi)] [.any, .any, .any] (.bool (withinB n lo hi)) := by
 refine Sp_intro (lend := true) Tryz.func89 rfl rfl rfl (fun _ => rfl) (fun c hc hX => ?_)
 refine T_seq (T_region hc (Ch.s (.d (.bool false)) pa (Ch.nil (T_seq (T_region hc (Ch.s (.d (.int .i64 n)) pm (Ch.s (.d (.int .i64 lo)) pm ?_)))))))
 refine Ch.s (.d (.bool (decide (lo ≤ n)))) (iX rfl rfl rfl) (Ch.s (.d (.bool (decide (lo ≤ n)))) pm ?_)
 cases h1 : (decide (lo ≤ n)) with
 | true =>
  replace h1 := of_decide_eq_true h1
  refine Ch.s (.d (.int .i64 n)) pm (Ch.s (.d (.int .i64 hi)) pm (Ch.s (.d (.bool (decide (n ≤ hi)))) (iX rfl rfl rfl) (Ch.s (.d (.bool (decide (n ≤ hi)))) (.pure (.pickT _ _ _ rfl rfl rfl)) (Ch.s (.d (.bool (decide (n ≤ hi)))) pa (Ch.nil (T_ret ?_))))))
  exact endR [(.d (.bool (decide (n ≤ hi))))] [] [] (.cons (.tmp 6 rfl) .nil) (.cons (.any _) (.cons (.any _) (.cons (.any _) .nil))) (Exp.of (congrArg D.bool (by simp [withinB] <;> omega)) (.d _)) rfl rfl
 | false =>
  replace h1 := of_decide_eq_false h1
  refine Ch.skip rfl rfl (Ch.skip rfl rfl (Ch.skip rfl rfl (Ch.s (.d (.bool false)) (.pure (.pickF _ _ _ rfl rfl rfl)) (Ch.s (.d (.bool false)) pa (Ch.nil (T_ret ?_))))))
  exact endR [(.d (.bool false))] [] [] (.cons (.tmp 6 rfl) .nil) (.cons (.any _) (.cons (.any _) (.cons (.any _) .nil))) (Exp.of (congrArg D.bool (by simp [withinB] <;> omega)) (.d _)) rfl rfl

theorem en89 : Enters Tryz.prog 89 := ⟨_, Tryz.func89, by kernel_rfl, rfl⟩

theorem en91 : Enters Tryz.prog 91 := ⟨_, Tryz.func91, by kernel_rfl, rfl⟩

def meetOf (x y : UInt8) : UInt8 := if x = y ∨ y = 45 then x else y

def meetS (a b : List UInt8) (k : Nat) : List UInt8 := tab k fun j => meetOf (a.getD j 0) (b.getD j 0)

@[simp] theorem meetS_length (a b : List UInt8) (k : Nat) : (meetS a b k).length = k := by simp [meetS]

theorem sz9 : SizeIs Tryz.prog 9 1 := by unfold SizeIs; kernel_rfl

theorem ag9 : AggIs Tryz.prog 9 false := by unfold AggIs; kernel_rfl

theorem zr9 : (Tryz.prog.info? 9).bind (·.zero) = some (.string .empty) := by kernel_rfl

theorem sty23 : SlotTy Tryz.prog 23 9 1 16 := slotTy_mk (by kernel_rfl)

theorem sp_laws_szStringS (xs : List (List UInt8)) (left : Int) (h0 : 0 ≤ left) (h0u : left ≤ 1048576) (hn : xs.length ≤ 9223372036854775807) (hx : ∀ x ∈ xs, x.length ≤ 9223372036854775807) : Sp Tryz.prog 67 [(.slice false 1 (xs.map D.str)), (.int .i64 left)] [.any, .any] (.int .i64 (szS xs left)) := by
 refine Sp_intro (lend := true) Tryz.func67 rfl rfl rfl (fun _ => rfl) (fun c hc hX => ?_)
 refine T_seq (T_region hc (Ch.s (.d (.int .i64 0)) pa (Ch.nil (T_seq (T_region hc (Ch.s (.d (.int .i64 left)) pm (Ch.s (.d (.slice false 1 (xs.map D.str))) pm ?_)))))))
 refine Ch.s (.d (.int .i64 (xs.length : Int))) (.pure (.len _ _ 9 rfl Tryz.underlying23 (.sh _ _) (by simp))) (Ch.s (.d (.int .i64 (left - (xs.length : Int)))) (iX rfl rfl intV_subA) (Ch.s (.d (.int .i64 (left - (xs.length : Int)))) pa (Ch.nil (T_seq (T_seq (T_region hc (Ch.s (.d (.int .i64 (left - (xs.length : Int)))) pm ?_)))))))
 refine Ch.s (.d (.bool (decide ((left - (xs.length : Int)) < 0)))) (iX rfl rfl rfl) (Ch.nil ?_)
 refine T_condD (p := ((left - (xs.length : Int)) < 0)) rfl (fun h1 => ?_) (fun h1 => ?_)
 ·
  refine T_seq (T_region hc (Ch.s (.d (.int .i64 (-1))) pa (Ch.nil (T_ret ?_))))
  exact endR [(.d (.int .i64 (-1)))] [] [] (.cons (.tmp 4 rfl) .nil) (.cons (.any _) (.cons (.any _) .nil)) (Exp.of (congrArg (D.int .i64) (by rw [szS, if_neg (by unfold bulkS; omega)])) (.d _)) rfl rfl
 ·
  refine T_skip (T_seq (T_seq (T_region hc (Ch.s (.d (.int .i64 0)) pa (Ch.nil (T_block ?_))))))
  refine T_loop (ι := Nat) (fun k => { n := 28, sl := [(0, (.d (.slice false 1 (xs.map D.str)))), (1, (.d (.int .i64 (left - xs.length - sumTo xs k)))), (5, (.d (.int .i64 (k : Int))))], hp := [], pin := [] }) (fun k => k ≤ xs.length ∧ 0 ≤ left - xs.length - sumTo xs k) (fun k => xs.length - k) ⟨0, ⟨by omega, by rw [sumTo_zero]; omega⟩, (Wk.of rfl rfl (ai rfl (ai (vI a93) (ai (vI a114) trivial))) trivial)⟩ (fun k hp0 => ?_)
  refine T_seq (T_seq (T_region hc (Ch.s (.d (.int .i64 (k : Int))) pm (Ch.s (.d (.slice false 1 (xs.map D.str))) pm (Ch.s (.d (.int .i64 (xs.length : Int))) (.pure (.len _ _ 9 rfl Tryz.underlying23 (.sh _ _) (by simp))) (Ch.s (.d (.bool (decide ((k : Int) < (xs.length : Int))))) (iX rfl rfl rfl) (Ch.nil ?_)))))))
  refine T_condD (p := ((k : Int) < (xs.length : Int))) rfl (fun h2 => ?_) (fun h2 => ?_)
  ·
   try have hk := hx _ (getD_mem (l := xs) (j := k) (d := default) (by omega))
   refine T_skip (T_seq (T_block (T_seq (T_region hc (Ch.s (.d (.int .i64 (left - xs.length - sumTo xs k))) pm (Ch.s (.d (.slice false 1 (xs.map D.str))) pm (Ch.s (.d (.int .i64 (k : Int))) pm ?_)))))))
   refine Ch.s (.d (.ref (.str (xs.getD k default)))) (.pure (.idx _ _ _ 9 (k) rfl Tryz.underlying23 sz9 rfl rfl rfl get_mapA)) (Ch.s (.d (.str (xs.getD k default))) (.pure (.loadRef1 _ _ rfl ag9 rfl rfl)) (Ch.s (.d (.int .i64 ((xs.getD k default).length : Int))) (.pure (.lenStr _ _ rfl Tryz.underlying9 rfl)) (Ch.s (.d (.int .i64 ((left - xs.length - sumTo xs k) - ((xs.getD k default).length : Int)))) (iX rfl rfl intV_subA) (Ch.s (.d (.int .i64 ((left - xs.length - sumTo xs k) - ((xs.getD k default).length : Int)))) pa (Ch.nil (T_seq (T_region hc ?_)))))))
   refine Ch.s (.d (.int .i64 ((left - xs.length - sumTo xs k) - ((xs.getD k default).length : Int)))) pm (Ch.s (.d (.bool (decide (((left - xs.length - sumTo xs k) - ((xs.getD k default).length : Int)) < 0)))) (iX rfl rfl rfl) (Ch.nil ?_))
   refine T_condD (p := (((left - xs.length - sumTo xs k) - ((xs.getD k default).length : Int)) < 0)) rfl (fun h3 => ?_) (fun h3 => ?_)
   ·
    refine T_seq (T_region hc (Ch.s (.d (.int .i64 (-1))) pa (Ch.nil (T_ret ?_))))
    exact endR [(.d (.int .i64 (-1)))] [] [] (.cons (.tmp 4 rfl) .nil) (.cons (.any _) (.cons (.any _) .nil)) (Exp.of (congrArg (D.int .i64) (by rw [szS, if_neg (by have h4 := sumTo_le xs (k + 1); rw [sumTo_succ (by omega)] at h4; unfold bulkS; omega)])) (.d _)) rfl rfl
   ·
    refine T_skip (T_region hc (Ch.s (.d (.int .i64 (k : Int))) pm (Ch.s (.d (.int .i64 ((k : Int) + 1))) (iX rfl rfl intV_addA) (Ch.s (.d (.int .i64 ((k : Int) + 1))) pa (Ch.nil ?_)))))
    exact nx (k + 1) ⟨by omega, by rw [sumTo_succ (by omega)]; omega⟩ (Wk.of rfl rfl (ai rfl (ai (vI a93) (ai (vI a114) trivial))) trivial)
  ·
   try have hk := hx _ (getD_mem (l := xs) (j := k) (d := default) (by omega))
   refine T_exit (T_seq (T_region hc (Ch.s (.d (.int .i64 (left - xs.length - sumTo xs k))) pm (Ch.s (.d (.int .i64 (left - xs.length - sumTo xs k))) pa (Ch.nil (T_ret ?_))))))
   exact endR [(.d (.int .i64 (left - xs.length - sumTo xs k)))] [] [] (.cons (.tmp 4 rfl) .nil) (.cons (.any _) (.cons (.any _) .nil)) (Exp.of (congrArg (D.int .i64) (by have h4 := sumTo_all (xs := xs) (k := k) (by omega); rw [szS, if_pos (by unfold bulkS; omega)]; unfold bulkS; omega)) (.d _)) rfl rfl

theorem sp_laws_toStringS (xs : List (List UInt8)) (hn : xs.length ≤ 1048576) : Sp Tryz.prog 71 [(.slice false 1 (xs.map D.str))] [.any] (.slice true 1 (xs.map D.str)) := by
 refine Sp_intro (lend := true) Tryz.func71 rfl rfl rfl (fun _ => rfl) (fun c hc hX => ?_)
 refine T_seq (T_region hc (Ch.s (.c (.slice none 0 0)) pa (Ch.nil (T_seq (T_region hc (Ch.s (.d (.slice false 1 (xs.map D.str))) pm (Ch.s (.d (.int .i64 (xs.length : Int))) (.pure (.len _ _ 9 rfl Tryz.underlying23 (.sh _ _) (by simp))) ?_)))))))
 refine Ch.s (.row 7000) (.make 7000 _ 9 _ _ (xs.length) (xs.length) rfl sty23 rfl rfl rfl rfl a43 a43 a43 (zeroD_mk (zd := (.str [])) zr9 a120 rfl)) (Ch.s (.row 7000) pa (Ch.nil (T_seq (T_seq (T_region hc (Ch.s (.d (.int .i64 0)) pa (Ch.nil ?_)))))))
 refine T_block ?_
 refine T_loop (ι := Nat) (fun k => { n := 22, sl := [(0, (.d (.slice false 1 (xs.map D.str)))), (3, (.row 3)), (4, (.d (.int .i64 (k : Int))))], hp := [(3, (some (.row 1 ((fill xs [] k).map D.str))))], pin := [] }) (fun k => k ≤ xs.length) (fun k => xs.length - k) ⟨0, (by omega), (Wk.ren [(3, 7000)] rfl rfl rfl rfl (ai rfl (ai rfl (ai (vI a114) trivial))) (ai (oR a71) trivial))⟩ (fun k hp0 => ?_)
 refine T_seq (T_seq (T_region hc (Ch.s (.d (.int .i64 (k : Int))) pm (Ch.s (.d (.slice false 1 (xs.map D.str))) pm (Ch.s (.d (.int .i64 (xs.length : Int))) (.pure (.len _ _ 9 rfl Tryz.underlying23 (.sh _ _) (by simp))) (Ch.s (.d (.bool (decide ((k : Int) < (xs.length : Int))))) (iX rfl rfl rfl) (Ch.nil ?_)))))))
 refine T_condD (p := ((k : Int) < (xs.length : Int))) rfl (fun h1 => ?_) (fun h1 => ?_)
 ·
  refine T_skip (T_seq (T_block (T_region hc (Ch.s (.row 3) pm (Ch.s (.d (.int .i64 (k : Int))) pm (Ch.s (.d (.slice false 1 (xs.map D.str))) pm (Ch.s (.d (.int .i64 (k : Int))) pm ?_)))))))
  refine Ch.s (.d (.ref (.str (xs.getD k default)))) (.pure (.idx _ _ _ 9 (k) rfl Tryz.underlying23 sz9 rfl rfl rfl get_mapA)) (Ch.s (.d (.str (xs.getD k default))) (.pure (.loadRef1 _ _ rfl ag9 rfl rfl)) (Ch.s (.el 3 1 k 0) (.pure (.idxRow _ _ _ 9 (k) rfl Tryz.underlying23 sz9 rfl rfl rfl rfl a86)) (Ch.s .junk (.storeEl (y' := (.str (xs.getD k default))) _ _ _ rfl rfl rfl (.d _) rfl sz9 rfl get_mapA rfl rfl) (Ch.nil (T_region hc (Ch.s (.d (.int .i64 (k : Int))) pm (Ch.s (.d (.int .i64 ((k : Int) + 1))) (iX rfl rfl intV_addA) ?_)))))))
  refine Ch.s (.d (.int .i64 ((k : Int) + 1))) pa (Ch.nil ?_)
  exact nx (k + 1) (by omega) (Wk.of rfl rfl (ai rfl (ai rfl (ai (vI a114) trivial))) (ai (oR a71) trivial))
 ·
  refine T_exit (T_seq (T_region hc (Ch.s (.row 3) pm (Ch.s (.row 3) pa (Ch.nil (T_ret ?_))))))
  exact endR [(.row 3)] [] [3] (.cons (.tmp 2 rfl) .nil) (.cons (.any _) .nil) (Exp.of (congrArg (D.slice true 1) (by rw [fill_all xs [] (by omega)])) (.row rfl)) rfl rfl

theorem sp_laws_eqStringS (xs ys : List (List UInt8)) (hn : xs.length ≤ 1048576) : Sp Tryz.prog 29 [(.slice false 1 (xs.map D.str)), (.slice false 1 (ys.map D.str))] [.any, .any] (.bool (decide (xs = ys))) := by
 refine Sp_intro (lend := true) Tryz.func29 rfl rfl rfl (fun _ => rfl) (fun c hc hX => ?_)
 refine T_seq (T_region hc (Ch.s (.d (.bool false)) pa (Ch.nil (T_seq (T_seq (T_region hc (Ch.s (.d (.slice false 1 (xs.map D.str))) pm ?_)))))))
 refine Ch.s (.d (.int .i64 (xs.length : Int))) (.pure (.len _ _ 9 rfl Tryz.underlying23 (.sh _ _) (by simp))) (Ch.s (.d (.slice false 1 (ys.map D.str))) pm (Ch.s (.d (.int .i64 (ys.length : Int))) (.pure (.len _ _ 9 rfl Tryz.underlying23 (.sh _ _) (by simp))) (Ch.s (.d (.bool (!(decide ((xs.length : Int) = (ys.length : Int)))))) (iX rfl rfl rfl) (Ch.nil ?_))))
 refine T_condN (b := (decide ((xs.length : Int) = (ys.length : Int)))) rfl (fun h1 => ?_) (fun h1 => ?_)
 ·
  replace h1 := of_decide_eq_false h1
  refine T_seq (T_region hc (Ch.s (.d (.bool false)) pa (Ch.nil (T_ret ?_))))
  exact endR [(.d (.bool false))] [] [] (.cons (.tmp 4 rfl) .nil) (.cons (.any _) (.cons (.any _) .nil)) (Exp.of (congrArg D.bool (by exact eqL_len (by omega))) (.d _)) rfl rfl
 ·
  replace h1 := of_decide_eq_true h1
  refine T_skip (T_seq (T_seq (T_region hc (Ch.s (.d (.int .i64 0)) pa (Ch.nil (T_block ?_))))))
  refine T_loop (ι := Nat) (fun k => { n := 26, sl := [(0, (.d (.slice false 1 (xs.map D.str)))), (1, (.d (.slice false 1 (ys.map D.str)))), (5, (.d (.int .i64 (k : Int))))], hp := [], pin := [] }) (fun k => k ≤ xs.length ∧ ∀ j, j < k → xs.getD j default = ys.getD j default) (fun k => xs.length - k) ⟨0, ⟨by omega, fun j hj => by omega⟩, (Wk.of rfl rfl (ai rfl (ai rfl (ai (vI a114) trivial))) trivial)⟩ (fun k hp0 => ?_)
  refine T_seq (T_seq (T_region hc (Ch.s (.d (.int .i64 (k : Int))) pm (Ch.s (.d (.slice false 1 (xs.map D.str))) pm (Ch.s (.d (.int .i64 (xs.length : Int))) (.pure (.len _ _ 9 rfl Tryz.underlying23 (.sh _ _) (by simp))) (Ch.s (.d (.bool (decide ((k : Int) < (xs.length : Int))))) (iX rfl rfl rfl) (Ch.nil ?_)))))))
  refine T_condD (p := ((k : Int) < (xs.length : Int))) rfl (fun h2 => ?_) (fun h2 => ?_)
  ·
   refine T_skip (T_seq (T_block (T_seq ?_)))
   refine T_regionD hc (by kernel_rfl) ?_
   refine ChD.s (.d (.slice false 1 (xs.map D.str))) [] pm (ChD.s (.d (.int .i64 (k : Int))) [] pm (ChD.s (.d (.ref (.str (xs.getD k default)))) [] (.pure (.idx _ _ _ 9 (k) rfl Tryz.underlying23 sz9 rfl rfl rfl get_mapA)) (ChD.s (.d (.str (xs.getD k default))) [] (.pure (.loadRef1 _ _ rfl ag9 rfl rfl)) (ChD.s (.d (.slice false 1 (ys.map D.str))) [] pm (ChD.s (.d (.int .i64 (k : Int))) [] pm (ChD.s (.d (.ref (.str (ys.getD k default)))) [] (.pure (.idx _ _ _ 9 (k) rfl Tryz.underlying23 sz9 rfl rfl rfl get_mapA)) (ChD.s (.d (.str (ys.getD k default))) [] (.pure (.loadRef1 _ _ rfl ag9 rfl rfl)) ?_)))))))
   refine ChD.s (.d (.bool (!(decide ((xs.getD k default) = (ys.getD k default)))))) [] (.pure (.str _ _ _ _ _ rfl rfl rfl rfl)) ?_
   refine ChD.nil (And.intro ?_ (by kernel_rfl))
   refine T_condN (b := (decide ((xs.getD k default) = (ys.getD k default)))) rfl (fun h3 => ?_) (fun h3 => ?_)
   ·
    replace h3 := of_decide_eq_false h3
    refine T_seq (T_region hc (Ch.s (.d (.bool false)) pa (Ch.nil (T_ret ?_))))
    exact endR [(.d (.bool false))] [] [] (.cons (.tmp 4 rfl) .nil) (.cons (.any _) (.cons (.any _) .nil)) (Exp.of (congrArg D.bool a118) (.d _)) rfl rfl
   ·
    replace h3 := of_decide_eq_true h3
    refine T_skip (T_region hc (Ch.s (.d (.int .i64 (k : Int))) pm (Ch.s (.d (.int .i64 ((k : Int) + 1))) (iX rfl rfl intV_addA) (Ch.s (.d (.int .i64 ((k : Int) + 1))) pa (Ch.nil ?_)))))
    exact nx (k + 1) ⟨by omega, upto_succ hp0.2 (by assumption)⟩ (Wk.of rfl rfl (ai rfl (ai rfl (ai (vI a114) trivial))) trivial)
  ·
   refine T_exit (T_seq (T_region hc (Ch.s (.d (.bool true)) pa (Ch.nil (T_ret ?_)))))
   exact endR [(.d (.bool true))] [] [] (.cons (.tmp 4 rfl) .nil) (.cons (.any _) (.cons (.any _) .nil)) (Exp.of (congrArg D.bool a101) (.d _)) rfl rfl

theorem ag3 : AggIs Tryz.prog 3 false := by unfold AggIs; kernel_rfl

def allOf {τ : Type} [Inhabited τ] (xs : List τ) (q : τ → Bool) : Bool := allB xs.length fun j => q (xs.getD j default)

def isLit (u : List UInt8) (j : Nat) : Bool := u.getD j 0 != 45

def litOf (u : List UInt8) : Nat := cntB u.length (isLit u)

def litTo (xs : List (List UInt8)) (k : Nat) : Nat := sumN k fun j => litOf (xs.getD j default)

def lits (xs : List (List UInt8)) : Nat := litTo xs xs.length

theorem litOf_le (u : List UInt8) : litOf u ≤ u.length := cntB_le _ _

theorem litTo_le (xs : List (List UInt8)) : ∀ k, k ≤ xs.length → litTo xs k ≤ sumTo xs k
 | 0, _ => by simp [litTo]
 | k + 1, h => by
  have h1 := litTo_le xs k (by omega)
  have h2 := litOf_le (xs.getD k default)
  rw [sumTo_succ (by omega)]
  unfold litTo at h1 ⊢
  rw [sumN_succ]; omega

theorem litTo_succ (xs : List (List UInt8)) (k : Nat) : litTo xs (k + 1) = litTo xs k + litOf (xs.getD k default) := sumN_succ _ _

theorem sp_spec_l14Literals (xs : List (List UInt8)) (hb : bulkS xs ≤ 1048576) : Sp Tryz.prog 200 [(.slice false 1 (xs.map D.str))] [.any] (.int .i64 (lits xs : Int)) := by
 refine Sp_intro (lend := true) Tryz.func200 rfl rfl rfl (fun _ => rfl) (fun c hc hX => ?_)
 have hb2 : (xs.map List.length).sum ≤ 1048576 := by (unfold bulkS at hb; omega)
 have hb3 := bulk_len hb
 refine T_seq (T_region hc (Ch.s (.d (.int .i64 0)) pa (Ch.nil (T_seq (T_region hc (Ch.s (.d (.int .i64 0)) pa (Ch.nil ?_)))))))
 refine T_seq (T_seq (T_region hc (Ch.s (.d (.slice false 1 (xs.map D.str))) pm (Ch.s (.d (.int .i64 (xs.length : Int))) (.pure (.len _ _ 9 rfl Tryz.underlying23 (.sh _ _) (by simp))) (Ch.s (.d (.int .i64 0)) pm (Ch.nil (T_block ?_)))))))
 refine T_loop (ι := Nat) (fun k => { n := 27, sl := [(3, (.d (.int .i64 (litTo xs k : Int)))), (7, (.d (.slice false 1 (xs.map D.str)))), (8, (.d (.int .i64 (xs.length : Int)))), (9, (.d (.int .i64 (k : Int))))], hp := [], pin := [] }) (fun k => k ≤ xs.length) (fun k => xs.length - k) ⟨0, (by omega), (Wk.of rfl rfl (ai (vI a81) (ai rfl (ai rfl (ai (vI a114) trivial)))) trivial)⟩ (fun k hp0 => ?_)
 have hs1 := sumTo_le xs k; have hs2 := litTo_le xs k hp0
 refine T_seq (T_region hc (Ch.s (.d (.bool (decide ((k : Int) < (xs.length : Int))))) (iX rfl rfl rfl) (Ch.nil (T_seq ?_))))
 refine T_condD (p := ((k : Int) < (xs.length : Int))) rfl (fun h1 => ?_) (fun h1 => ?_)
 ·
  refine T_skip (T_seq (T_block (T_seq (T_region hc (Ch.s (.d (.ref (.str (xs.getD k default)))) (.pure (.idx _ _ _ 9 (k) rfl Tryz.underlying23 sz9 rfl rfl rfl get_mapA)) (Ch.s (.d (.str (xs.getD k default))) (.pure (.loadRef1 _ _ rfl ag9 rfl rfl)) (Ch.s (.d (.str (xs.getD k default))) pa ?_)))))))
  refine Ch.nil (T_seq (T_region hc (Ch.s (.d (.int .i64 0)) pa (Ch.nil (T_block ?_)))))
  refine T_loop (ι := Nat) (fun m => { n := 27, sl := [(3, (.d (.int .i64 ((litTo xs k + cntB m (isLit (xs.getD k default)) : Nat) : Int)))), (5, (.d (.str (xs.getD k default)))), (6, (.d (.int .i64 (m : Int)))), (7, (.d (.slice false 1 (xs.map D.str)))), (8, (.d (.int .i64 (xs.length : Int)))), (9, (.d (.int .i64 (k : Int))))], hp := [], pin := [] }) (fun m => m ≤ (xs.getD k default).length) (fun m => (xs.getD k default).length - m) ⟨0, (by omega), (Wk.of rfl rfl (ai (vI a72) (ai rfl (ai (vI a114) (ai rfl (ai rfl (ai rfl trivial)))))) trivial)⟩ (fun m hp1 => ?_)
  have hs3 := cntB_le m (isLit (xs.getD k default)); have hs4 := bulk_mem hb _ (getD_mem (l := xs) (j := k) (d := default) (by omega))
  refine T_seq (T_seq (T_region hc (Ch.s (.d (.int .i64 (m : Int))) pm (Ch.s (.d (.str (xs.getD k default))) pm (Ch.s (.d (.int .i64 ((xs.getD k default).length : Int))) (.pure (.lenStr _ _ rfl Tryz.underlying9 rfl)) (Ch.s (.d (.bool (decide ((m : Int) < ((xs.getD k default).length : Int))))) (iX rfl rfl rfl) (Ch.nil ?_)))))))
  refine T_condD (p := ((m : Int) < ((xs.getD k default).length : Int))) rfl (fun h2 => ?_) (fun h2 => ?_)
  ·
   refine T_skip (T_seq (T_block (T_seq (T_region hc (Ch.s (.d (.str (xs.getD k default))) pm (Ch.s (.d (.int .i64 (m : Int))) pm (Ch.s (.d (.int .u8 (((xs.getD k default).getD m 0).toNat : Int))) (.pure (.idxStr _ _ _ (m) rfl Tryz.underlying9 rfl rfl rfl get_strA)) ?_)))))))
   refine Ch.s (.d (.bool (!(decide ((((xs.getD k default).getD m 0) : UInt8) = 45))))) (iX rfl rfl (u8_neq (((xs.getD k default).getD m 0) : UInt8) 45 rfl rfl)) (Ch.nil ?_)
   refine T_condN (b := (decide ((((xs.getD k default).getD m 0) : UInt8) = 45))) rfl (fun h3 => ?_) (fun h3 => ?_)
   ·
    replace h3 := of_decide_eq_false h3
    refine T_region hc (Ch.s (.d (.int .i64 ((litTo xs k + cntB m (isLit (xs.getD k default)) : Nat) : Int))) pm (Ch.s (.d (.int .i64 (((litTo xs k + cntB m (isLit (xs.getD k default)) : Nat) : Int) + 1))) (iX rfl rfl intV_addA) (Ch.s (.d (.int .i64 (((litTo xs k + cntB m (isLit (xs.getD k default)) : Nat) : Int) + 1))) pa (Ch.nil (T_region hc (Ch.s (.d (.int .i64 (m : Int))) pm (Ch.s (.d (.int .i64 ((m : Int) + 1))) (iX rfl rfl intV_addA) ?_)))))))
    refine Ch.s (.d (.int .i64 ((m : Int) + 1))) pa (Ch.nil ?_)
    exact nx (m + 1) (by omega) (Wk.of rfl rfl (ai (vI a72) (ai rfl (ai (vI a114) (ai rfl (ai rfl (ai rfl trivial)))))) trivial)
   ·
    replace h3 := of_decide_eq_true h3
    refine T_skip (T_region hc (Ch.s (.d (.int .i64 (m : Int))) pm (Ch.s (.d (.int .i64 ((m : Int) + 1))) (iX rfl rfl intV_addA) (Ch.s (.d (.int .i64 ((m : Int) + 1))) pa (Ch.nil ?_)))))
    exact nx (m + 1) (by omega) (Wk.of rfl rfl (ai (vI a72) (ai rfl (ai (vI a114) (ai rfl (ai rfl (ai rfl trivial)))))) trivial)
  ·
   refine T_exit (T_region hc (Ch.s (.d (.int .i64 ((k : Int) + 1))) (iX rfl rfl intV_addA) (Ch.s (.d (.int .i64 ((k : Int) + 1))) pm (Ch.nil ?_))))
   exact nx (k + 1) (by omega) (Wk.of rfl rfl (ai (vI a81) (ai rfl (ai rfl (ai (vI a114) trivial)))) trivial)
 ·
  refine T_exit (T_seq (T_region hc (Ch.s (.d (.int .i64 (litTo xs k : Int))) pm (Ch.s (.d (.int .i64 (litTo xs k : Int))) pa (Ch.nil (T_ret ?_))))))
  exact endR [(.d (.int .i64 (litTo xs k : Int)))] [] [] (.cons (.tmp 2 rfl) .nil) (.cons (.any _) .nil) (Exp.of (congrArg (D.int .i64) (by rw [lits, show xs.length = k by omega])) (.d _)) rfl rfl

theorem sp_impl_literals (xs : List (List UInt8)) (hb : bulkS xs ≤ 1048576) : Sp Tryz.prog 202 [(.slice false 1 (xs.map D.str))] [.any] (.int .i64 (lits xs : Int)) := by
 refine Sp_intro (lend := true) Tryz.func202 rfl rfl rfl (fun _ => rfl) (fun c hc hX => ?_)
 have hb2 : (xs.map List.length).sum ≤ 1048576 := by (unfold bulkS at hb; omega)
 have hb3 := bulk_len hb
 refine T_seq (T_region hc (Ch.s (.d (.int .i64 0)) pa (Ch.nil (T_seq (T_region hc (Ch.s (.d (.int .i64 0)) pa (Ch.nil ?_)))))))
 refine T_seq (T_seq (T_region hc (Ch.s (.d (.slice false 1 (xs.map D.str))) pm (Ch.s (.d (.int .i64 (xs.length : Int))) (.pure (.len _ _ 9 rfl Tryz.underlying23 (.sh _ _) (by simp))) (Ch.s (.d (.int .i64 0)) pm (Ch.nil (T_block ?_)))))))
 refine T_loop (ι := Nat) (fun k => { n := 27, sl := [(3, (.d (.int .i64 (litTo xs k : Int)))), (7, (.d (.slice false 1 (xs.map D.str)))), (8, (.d (.int .i64 (xs.length : Int)))), (9, (.d (.int .i64 (k : Int))))], hp := [], pin := [] }) (fun k => k ≤ xs.length) (fun k => xs.length - k) ⟨0, (by omega), (Wk.of rfl rfl (ai (vI a81) (ai rfl (ai rfl (ai (vI a114) trivial)))) trivial)⟩ (fun k hp0 => ?_)
 have hs1 := sumTo_le xs k; have hs2 := litTo_le xs k hp0
 refine T_seq (T_region hc (Ch.s (.d (.bool (decide ((k : Int) < (xs.length : Int))))) (iX rfl rfl rfl) (Ch.nil (T_seq ?_))))
 refine T_condD (p := ((k : Int) < (xs.length : Int))) rfl (fun h1 => ?_) (fun h1 => ?_)
 ·
  refine T_skip (T_seq (T_block (T_seq (T_region hc (Ch.s (.d (.ref (.str (xs.getD k default)))) (.pure (.idx _ _ _ 9 (k) rfl Tryz.underlying23 sz9 rfl rfl rfl get_mapA)) (Ch.s (.d (.str (xs.getD k default))) (.pure (.loadRef1 _ _ rfl ag9 rfl rfl)) (Ch.s (.d (.str (xs.getD k default))) pa ?_)))))))
  refine Ch.nil (T_seq (T_region hc (Ch.s (.d (.str (xs.getD k default))) pm (Ch.s (.d (.int .i64 ((xs.getD k default).length : Int))) (.pure (.lenStr _ _ rfl Tryz.underlying9 rfl)) (Ch.s (.d (.int .i64 0)) pm (Ch.nil (T_block ?_)))))))
  refine T_loop (ι := Nat) (fun m => { n := 27, sl := [(3, (.d (.int .i64 ((litTo xs k + cntB m (isLit (xs.getD k default)) : Nat) : Int)))), (5, (.d (.str (xs.getD k default)))), (7, (.d (.slice false 1 (xs.map D.str)))), (8, (.d (.int .i64 (xs.length : Int)))), (9, (.d (.int .i64 (k : Int)))), (14, (.d (.int .i64 ((xs.getD k default).length : Int)))), (15, (.d (.int .i64 (m : Int))))], hp := [], pin := [] }) (fun m => m ≤ (xs.getD k default).length) (fun m => (xs.getD k default).length - m) ⟨0, (by omega), (Wk.of rfl rfl (ai (vI a72) (ai rfl (ai rfl (ai rfl (ai rfl (ai rfl (ai (vI a114) trivial))))))) trivial)⟩ (fun m hp1 => ?_)
  have hs3 := cntB_le m (isLit (xs.getD k default)); have hs4 := bulk_mem hb _ (getD_mem (l := xs) (j := k) (d := default) (by omega))
  refine T_seq (T_region hc (Ch.s (.d (.bool (decide ((m : Int) < ((xs.getD k default).length : Int))))) (iX rfl rfl rfl) (Ch.nil (T_seq ?_))))
  refine T_condD (p := ((m : Int) < ((xs.getD k default).length : Int))) rfl (fun h2 => ?_) (fun h2 => ?_)
  ·
   refine T_skip (T_seq (T_block (T_seq (T_region hc (Ch.s (.d (.int .i64 (m : Int))) pm (Ch.s (.d (.int .i64 (m : Int))) pa (Ch.nil ?_)))))))
   refine T_seq (T_region hc (Ch.s (.d (.str (xs.getD k default))) pm (Ch.s (.d (.int .i64 (m : Int))) pm (Ch.s (.d (.int .u8 (((xs.getD k default).getD m 0).toNat : Int))) (.pure (.idxStr _ _ _ (m) rfl Tryz.underlying9 rfl rfl rfl get_strA)) (Ch.s (.d (.bool (!(decide ((((xs.getD k default).getD m 0) : UInt8) = 45))))) (iX rfl rfl (u8_neq (((xs.getD k default).getD m 0) : UInt8) 45 rfl rfl)) (Ch.nil ?_))))))
   refine T_condN (b := (decide ((((xs.getD k default).getD m 0) : UInt8) = 45))) rfl (fun h3 => ?_) (fun h3 => ?_)
   ·
    replace h3 := of_decide_eq_false h3
    refine T_region hc (Ch.s (.d (.int .i64 ((litTo xs k + cntB m (isLit (xs.getD k default)) : Nat) : Int))) pm (Ch.s (.d (.int .i64 (((litTo xs k + cntB m (isLit (xs.getD k default)) : Nat) : Int) + 1))) (iX rfl rfl intV_addA) (Ch.s (.d (.int .i64 (((litTo xs k + cntB m (isLit (xs.getD k default)) : Nat) : Int) + 1))) pa (Ch.nil (T_region hc (Ch.s (.d (.int .i64 ((m : Int) + 1))) (iX rfl rfl intV_addA) (Ch.s (.d (.int .i64 ((m : Int) + 1))) pm ?_)))))))
    refine Ch.nil ?_
    exact nx (m + 1) (by omega) (Wk.of rfl rfl (ai (vI a72) (ai rfl (ai rfl (ai rfl (ai rfl (ai rfl (ai (vI a114) trivial))))))) trivial)
   ·
    replace h3 := of_decide_eq_true h3
    refine T_skip (T_region hc (Ch.s (.d (.int .i64 ((m : Int) + 1))) (iX rfl rfl intV_addA) (Ch.s (.d (.int .i64 ((m : Int) + 1))) pm (Ch.nil ?_))))
    exact nx (m + 1) (by omega) (Wk.of rfl rfl (ai (vI a72) (ai rfl (ai rfl (ai rfl (ai rfl (ai rfl (ai (vI a114) trivial))))))) trivial)
  ·
   refine T_exit (T_region hc (Ch.s (.d (.int .i64 ((k : Int) + 1))) (iX rfl rfl intV_addA) (Ch.s (.d (.int .i64 ((k : Int) + 1))) pm (Ch.nil ?_))))
   exact nx (k + 1) (by omega) (Wk.of rfl rfl (ai (vI a81) (ai rfl (ai rfl (ai (vI a114) trivial)))) trivial)
 ·
  refine T_exit (T_seq (T_region hc (Ch.s (.d (.int .i64 (litTo xs k : Int))) pm (Ch.s (.d (.int .i64 (litTo xs k : Int))) pa (Ch.nil (T_ret ?_))))))
  exact endR [(.d (.int .i64 (litTo xs k : Int)))] [] [] (.cons (.tmp 2 rfl) .nil) (.cons (.any _) .nil) (Exp.of (congrArg (D.int .i64) (by rw [lits, show xs.length = k by omega])) (.d _)) rfl rfl

theorem en197 : Enters Tryz.prog 197 := ⟨_, Tryz.func197, by kernel_rfl, rfl⟩

def codeCh (x : UInt8) : Bool := x == 48 || x == 49

def codeN (u : List UInt8) (n : Int) : Bool := allB u.length (fun j => codeCh (u.getD j 0)) && decide ((u.length : Int) = n)

def hasCh (x y : UInt8) : Bool := x == 45 || x == y

def hasB (a b : List UInt8) : Bool := allB a.length fun j => hasCh (a.getD j 0) (b.getD j 0)

theorem sp_spec_l5Code (u : List UInt8) (n : Int) (hs : u.length ≤ 1048576) : Sp Tryz.prog 163 [(.str u), (.int .i64 n)] [.any, .any] (.bool (codeN u n)) := by
 refine Sp_intro (lend := true) Tryz.func163 rfl rfl rfl (fun _ => rfl) (fun c hc hX => ?_)
 refine T_seq (T_region hc (Ch.s (.d (.bool false)) pa (Ch.nil (T_seq (T_seq (T_region hc (Ch.s (.d (.int .i64 0)) pa ?_)))))))
 refine Ch.nil (T_block ?_)
 refine T_loop (ι := Nat) (fun k => { n := 26, sl := [(0, (.d (.str u))), (1, (.d (.int .i64 n))), (5, (.d (.int .i64 (k : Int))))], hp := [], pin := [] }) (fun k => k ≤ u.length ∧ ∀ j, j < k → codeCh (u.getD j 0) = true) (fun k => u.length - k) ⟨0, ⟨by omega, fun j hj => by omega⟩, (Wk.of rfl rfl (ai rfl (ai rfl (ai (vI a114) trivial))) trivial)⟩ (fun k hp0 => ?_)
 refine T_seq (T_seq (T_region hc (Ch.s (.d (.int .i64 (k : Int))) pm (Ch.s (.d (.str u)) pm (Ch.s (.d (.int .i64 (u.length : Int))) (.pure (.lenStr _ _ rfl Tryz.underlying9 rfl)) (Ch.s (.d (.bool (decide ((k : Int) < (u.length : Int))))) (iX rfl rfl rfl) (Ch.nil ?_)))))))
 refine T_condD (p := ((k : Int) < (u.length : Int))) rfl (fun h1 => ?_) (fun h1 => ?_)
 ·
  refine T_skip (T_seq (T_block (T_seq (T_region hc (Ch.s (.d (.str u)) pm (Ch.s (.d (.int .i64 (k : Int))) pm (Ch.s (.d (.int .u8 ((u.getD k 0).toNat : Int))) (.pure (.idxStr _ _ _ (k) rfl Tryz.underlying9 rfl rfl rfl get_strA)) ?_)))))))
  refine Ch.s (.d (.bool (!(decide (((u.getD k 0) : UInt8) = 48))))) (iX rfl rfl (u8_neq ((u.getD k 0) : UInt8) 48 rfl rfl)) (Ch.s (.d (.bool (!(decide (((u.getD k 0) : UInt8) = 48))))) pm ?_)
  cases h2 : (decide (((u.getD k 0) : UInt8) = 48)) with
  | true =>
   replace h2 := of_decide_eq_true h2
   refine Ch.skip rfl rfl (Ch.skip rfl rfl (Ch.skip rfl rfl (Ch.skip rfl rfl (Ch.s (.d (.bool false)) (.pure (.pickF _ _ _ rfl rfl rfl)) (Ch.nil ?_)))))
   refine T_cond (b := false) rfl (fun h => nomatch h) (fun _ => ?_)
   refine T_skip (T_region hc (Ch.s (.d (.int .i64 (k : Int))) pm (Ch.s (.d (.int .i64 ((k : Int) + 1))) (iX rfl rfl intV_addA) (Ch.s (.d (.int .i64 ((k : Int) + 1))) pa (Ch.nil ?_)))))
   exact nx (k + 1) ⟨by omega, upto_succ hp0.2 (by simp_all [codeCh])⟩ (Wk.of rfl rfl (ai rfl (ai rfl (ai (vI a114) trivial))) trivial)
  | false =>
   replace h2 := of_decide_eq_false h2
   refine Ch.s (.d (.str u)) pm (Ch.s (.d (.int .i64 (k : Int))) pm (Ch.s (.d (.int .u8 ((u.getD k 0).toNat : Int))) (.pure (.idxStr _ _ _ (k) rfl Tryz.underlying9 rfl rfl rfl get_strA)) (Ch.s (.d (.bool (!(decide (((u.getD k 0) : UInt8) = 49))))) (iX rfl rfl (u8_neq ((u.getD k 0) : UInt8) 49 rfl rfl)) (Ch.s (.d (.bool (!(decide (((u.getD k 0) : UInt8) = 49))))) (.pure (.pickT _ _ _ rfl rfl rfl)) (Ch.nil ?_)))))
   refine T_condN (b := (decide (((u.getD k 0) : UInt8) = 49))) rfl (fun h3 => ?_) (fun h3 => ?_)
   ·
    replace h3 := of_decide_eq_false h3
    refine T_seq (T_region hc (Ch.s (.d (.bool false)) pa (Ch.nil (T_ret ?_))))
    exact endR [(.d (.bool false))] [] [] (.cons (.tmp 4 rfl) .nil) (.cons (.any _) (.cons (.any _) .nil)) (Exp.of (congrArg D.bool a54) (.d _)) rfl rfl
   ·
    replace h3 := of_decide_eq_true h3
    refine T_skip (T_region hc (Ch.s (.d (.int .i64 (k : Int))) pm (Ch.s (.d (.int .i64 ((k : Int) + 1))) (iX rfl rfl intV_addA) (Ch.s (.d (.int .i64 ((k : Int) + 1))) pa (Ch.nil ?_)))))
    exact nx (k + 1) ⟨by omega, upto_succ hp0.2 (by simp_all [codeCh])⟩ (Wk.of rfl rfl (ai rfl (ai rfl (ai (vI a114) trivial))) trivial)
 ·
  refine T_exit (T_seq (T_region hc (Ch.s (.d (.str u)) pm (Ch.s (.d (.int .i64 (u.length : Int))) (.pure (.lenStr _ _ rfl Tryz.underlying9 rfl)) (Ch.s (.d (.int .i64 n)) pm (Ch.s (.d (.bool (decide ((u.length : Int) = n)))) (iX rfl rfl rfl) (Ch.s (.d (.bool (decide ((u.length : Int) = n)))) pa ?_)))))))
  refine Ch.nil (T_ret ?_)
  exact endR [(.d (.bool (decide ((u.length : Int) = n))))] [] [] (.cons (.tmp 4 rfl) .nil) (.cons (.any _) (.cons (.any _) .nil)) (Exp.of (congrArg D.bool a54) (.d _)) rfl rfl

theorem sp_spec_l13Has (a b : List UInt8) (ha : a.length ≤ 1048576) (hl : a.length ≤ b.length) : Sp Tryz.prog 197 [(.str a), (.str b)] [.any, .any] (.bool (hasB a b)) := by
 refine Sp_intro (lend := true) Tryz.func197 rfl rfl rfl (fun _ => rfl) (fun c hc hX => ?_)
 refine T_seq (T_region hc (Ch.s (.d (.bool false)) pa (Ch.nil (T_seq (T_seq (T_region hc (Ch.s (.d (.int .i64 0)) pa ?_)))))))
 refine Ch.nil (T_block ?_)
 refine T_loop (ι := Nat) (fun k => { n := 25, sl := [(0, (.d (.str a))), (1, (.d (.str b))), (5, (.d (.int .i64 (k : Int))))], hp := [], pin := [] }) (fun k => k ≤ a.length ∧ ∀ j, j < k → hasCh (a.getD j 0) (b.getD j 0) = true) (fun k => a.length - k) ⟨0, ⟨by omega, fun j hj => by omega⟩, (Wk.of rfl rfl (ai rfl (ai rfl (ai (vI a114) trivial))) trivial)⟩ (fun k hp0 => ?_)
 refine T_seq (T_seq (T_region hc (Ch.s (.d (.int .i64 (k : Int))) pm (Ch.s (.d (.str a)) pm (Ch.s (.d (.int .i64 (a.length : Int))) (.pure (.lenStr _ _ rfl Tryz.underlying9 rfl)) (Ch.s (.d (.bool (decide ((k : Int) < (a.length : Int))))) (iX rfl rfl rfl) (Ch.nil ?_)))))))
 refine T_condD (p := ((k : Int) < (a.length : Int))) rfl (fun h1 => ?_) (fun h1 => ?_)
 ·
  refine T_skip (T_seq (T_block (T_seq ?_)))
  refine T_regionD hc (by kernel_rfl) ?_
  refine ChD.s (.d (.str a)) [] pm (ChD.s (.d (.int .i64 (k : Int))) [] pm (ChD.s (.d (.int .u8 ((a.getD k 0).toNat : Int))) [] (.pure (.idxStr _ _ _ (k) rfl Tryz.underlying9 rfl rfl rfl get_strA)) (ChD.s (.d (.bool (!(decide (((a.getD k 0) : UInt8) = 45))))) [] (iX rfl rfl (u8_neq ((a.getD k 0) : UInt8) 45 rfl rfl)) (ChD.s (.d (.bool (!(decide (((a.getD k 0) : UInt8) = 45))))) [] pm ?_))))
  cases h2 : (decide (((a.getD k 0) : UInt8) = 45)) with
  | true =>
   replace h2 := of_decide_eq_true h2
   refine ChD.skip rfl rfl (ChD.skip rfl rfl (ChD.skip rfl rfl (ChD.skip rfl rfl (ChD.skip rfl rfl (ChD.skip rfl rfl (ChD.skip rfl rfl (ChD.s (.d (.bool false)) [] (.pure (.pickF _ _ _ rfl rfl rfl)) ?_)))))))
   refine ChD.nil (And.intro ?_ (by kernel_rfl))
   refine T_cond (b := false) rfl (fun h => nomatch h) (fun _ => ?_)
   refine T_skip (T_region hc (Ch.s (.d (.int .i64 (k : Int))) pm (Ch.s (.d (.int .i64 ((k : Int) + 1))) (iX rfl rfl intV_addA) (Ch.s (.d (.int .i64 ((k : Int) + 1))) pa (Ch.nil ?_)))))
   exact nx (k + 1) ⟨by omega, upto_succ hp0.2 (by simp_all [hasCh])⟩ (Wk.of rfl rfl (ai rfl (ai rfl (ai (vI a114) trivial))) trivial)
  | false =>
   replace h2 := of_decide_eq_false h2
   refine ChD.s (.d (.str a)) [] pm (ChD.s (.d (.int .i64 (k : Int))) [] pm (ChD.s (.d (.int .u8 ((a.getD k 0).toNat : Int))) [] (.pure (.idxStr _ _ _ (k) rfl Tryz.underlying9 rfl rfl rfl get_strA)) (ChD.s (.d (.str b)) [] pm (ChD.s (.d (.int .i64 (k : Int))) [] pm (ChD.s (.d (.int .u8 ((b.getD k 0).toNat : Int))) [] (.pure (.idxStr _ _ _ (k) rfl Tryz.underlying9 rfl rfl rfl get_strA)) (ChD.s (.d (.bool (!(decide (((a.getD k 0) : UInt8) = (b.getD k 0)))))) [] (iX rfl rfl (u8_neq ((a.getD k 0) : UInt8) (b.getD k 0) rfl rfl)) (ChD.s (.d (.bool (!(decide (((a.getD k 0) : UInt8) = (b.getD k 0)))))) [] (.pure (.pickT _ _ _ rfl rfl rfl)) ?_)))))))
   refine ChD.nil (And.intro ?_ (by kernel_rfl))
   refine T_condN (b := (decide (((a.getD k 0) : UInt8) = (b.getD k 0)))) rfl (fun h3 => ?_) (fun h3 => ?_)
   ·
    replace h3 := of_decide_eq_false h3
    refine T_seq (T_region hc (Ch.s (.d (.bool false)) pa (Ch.nil (T_ret ?_))))
    exact endR [(.d (.bool false))] [] [] (.cons (.tmp 4 rfl) .nil) (.cons (.any _) (.cons (.any _) .nil)) (Exp.of (congrArg D.bool a59) (.d _)) rfl rfl
   ·
    replace h3 := of_decide_eq_true h3
    refine T_skip (T_region hc (Ch.s (.d (.int .i64 (k : Int))) pm (Ch.s (.d (.int .i64 ((k : Int) + 1))) (iX rfl rfl intV_addA) (Ch.s (.d (.int .i64 ((k : Int) + 1))) pa (Ch.nil ?_)))))
    exact nx (k + 1) ⟨by omega, upto_succ hp0.2 (by simp_all [hasCh])⟩ (Wk.of rfl rfl (ai rfl (ai rfl (ai (vI a114) trivial))) trivial)
 ·
  refine T_exit (T_seq (T_region hc (Ch.s (.d (.bool true)) pa (Ch.nil (T_ret ?_)))))
  exact endR [(.d (.bool true))] [] [] (.cons (.tmp 4 rfl) .nil) (.cons (.any _) (.cons (.any _) .nil)) (Exp.of (congrArg D.bool a59) (.d _)) rfl rfl

theorem sp_impl_contains (a b : List UInt8) (ha : a.length ≤ 1048576) (hl : a.length ≤ b.length) : Sp Tryz.prog 198 [(.str a), (.str b)] [.any, .any] (.bool (hasB a b)) := by
 refine Sp_intro (lend := true) Tryz.func198 rfl rfl rfl (fun _ => rfl) (fun c hc hX => ?_)
 refine T_seq (T_region hc (Ch.s (.d (.bool false)) pa (Ch.nil (T_seq (T_seq (T_region hc (Ch.s (.d (.str a)) pm ?_)))))))
 refine Ch.s (.d (.int .i64 (a.length : Int))) (.pure (.lenStr _ _ rfl Tryz.underlying9 rfl)) (Ch.s (.d (.int .i64 0)) pm (Ch.nil (T_block ?_)))
 refine T_loop (ι := Nat) (fun k => { n := 25, sl := [(0, (.d (.str a))), (1, (.d (.str b))), (7, (.d (.int .i64 (a.length : Int)))), (8, (.d (.int .i64 (k : Int))))], hp := [], pin := [] }) (fun k => k ≤ a.length ∧ ∀ j, j < k → hasCh (a.getD j 0) (b.getD j 0) = true) (fun k => a.length - k) ⟨0, ⟨by omega, fun j hj => by omega⟩, (Wk.of rfl rfl (ai rfl (ai rfl (ai rfl (ai (vI a114) trivial)))) trivial)⟩ (fun k hp0 => ?_)
 refine T_seq (T_region hc (Ch.s (.d (.bool (decide ((k : Int) < (a.length : Int))))) (iX rfl rfl rfl) (Ch.nil (T_seq ?_))))
 refine T_condD (p := ((k : Int) < (a.length : Int))) rfl (fun h1 => ?_) (fun h1 => ?_)
 ·
  refine T_skip (T_seq (T_block (T_seq (T_region hc (Ch.s (.d (.int .i64 (k : Int))) pm (Ch.s (.d (.int .i64 (k : Int))) pa (Ch.nil ?_)))))))
  refine T_seq ?_
  refine T_regionD hc (by kernel_rfl) ?_
  refine ChD.s (.d (.str a)) [] pm (ChD.s (.d (.int .i64 (k : Int))) [] pm (ChD.s (.d (.int .u8 ((a.getD k 0).toNat : Int))) [] (.pure (.idxStr _ _ _ (k) rfl Tryz.underlying9 rfl rfl rfl get_strA)) (ChD.s (.d (.bool (!(decide (((a.getD k 0) : UInt8) = 45))))) [] (iX rfl rfl (u8_neq ((a.getD k 0) : UInt8) 45 rfl rfl)) (ChD.s (.d (.bool (!(decide (((a.getD k 0) : UInt8) = 45))))) [] pm ?_))))
  cases h2 : (decide (((a.getD k 0) : UInt8) = 45)) with
  | true =>
   replace h2 := of_decide_eq_true h2
   refine ChD.skip rfl rfl (ChD.skip rfl rfl (ChD.skip rfl rfl (ChD.skip rfl rfl (ChD.skip rfl rfl (ChD.skip rfl rfl (ChD.skip rfl rfl (ChD.s (.d (.bool false)) [] (.pure (.pickF _ _ _ rfl rfl rfl)) ?_)))))))
   refine ChD.nil (And.intro ?_ (by kernel_rfl))
   refine T_cond (b := false) rfl (fun h => nomatch h) (fun _ => ?_)
   refine T_skip (T_region hc (Ch.s (.d (.int .i64 ((k : Int) + 1))) (iX rfl rfl intV_addA) (Ch.s (.d (.int .i64 ((k : Int) + 1))) pm (Ch.nil ?_))))
   exact nx (k + 1) ⟨by omega, upto_succ hp0.2 (by simp_all [hasCh])⟩ (Wk.of rfl rfl (ai rfl (ai rfl (ai rfl (ai (vI a114) trivial)))) trivial)
  | false =>
   replace h2 := of_decide_eq_false h2
   refine ChD.s (.d (.str a)) [] pm (ChD.s (.d (.int .i64 (k : Int))) [] pm (ChD.s (.d (.int .u8 ((a.getD k 0).toNat : Int))) [] (.pure (.idxStr _ _ _ (k) rfl Tryz.underlying9 rfl rfl rfl get_strA)) (ChD.s (.d (.str b)) [] pm (ChD.s (.d (.int .i64 (k : Int))) [] pm (ChD.s (.d (.int .u8 ((b.getD k 0).toNat : Int))) [] (.pure (.idxStr _ _ _ (k) rfl Tryz.underlying9 rfl rfl rfl get_strA)) (ChD.s (.d (.bool (!(decide (((a.getD k 0) : UInt8) = (b.getD k 0)))))) [] (iX rfl rfl (u8_neq ((a.getD k 0) : UInt8) (b.getD k 0) rfl rfl)) (ChD.s (.d (.bool (!(decide (((a.getD k 0) : UInt8) = (b.getD k 0)))))) [] (.pure (.pickT _ _ _ rfl rfl rfl)) ?_)))))))
   refine ChD.nil (And.intro ?_ (by kernel_rfl))
   refine T_condN (b := (decide (((a.getD k 0) : UInt8) = (b.getD k 0)))) rfl (fun h3 => ?_) (fun h3 => ?_)
   ·
    replace h3 := of_decide_eq_false h3
    refine T_seq (T_region hc (Ch.s (.d (.bool false)) pa (Ch.nil (T_ret ?_))))
    exact endR [(.d (.bool false))] [] [] (.cons (.tmp 4 rfl) .nil) (.cons (.any _) (.cons (.any _) .nil)) (Exp.of (congrArg D.bool a59) (.d _)) rfl rfl
   ·
    replace h3 := of_decide_eq_true h3
    refine T_skip (T_region hc (Ch.s (.d (.int .i64 ((k : Int) + 1))) (iX rfl rfl intV_addA) (Ch.s (.d (.int .i64 ((k : Int) + 1))) pm (Ch.nil ?_))))
    exact nx (k + 1) ⟨by omega, upto_succ hp0.2 (by simp_all [hasCh])⟩ (Wk.of rfl rfl (ai rfl (ai rfl (ai rfl (ai (vI a114) trivial)))) trivial)
 ·
  refine T_exit (T_seq (T_region hc (Ch.s (.d (.bool true)) pa (Ch.nil (T_ret ?_)))))
  exact endR [(.d (.bool true))] [] [] (.cons (.tmp 4 rfl) .nil) (.cons (.any _) (.cons (.any _) .nil)) (Exp.of (congrArg D.bool a59) (.d _)) rfl rfl

theorem any_yes {τ : Type} {l : List τ} {p : τ → Bool} (d : τ) (k : Nat) (hk : k < l.length) (h : p (l.getD k d) = true) : true = l.any p := (List.any_eq_true.2 ⟨_, getD_mem hk, h⟩).symm

theorem any_no {τ : Type} {l : List τ} {p : τ → Bool} (d : τ) (h : ∀ j, j < l.length → p (l.getD j d) = false) : false = l.any p := by
 symm
 rw [List.any_eq_false]
 intro x hx
 obtain ⟨j, hj, rfl⟩ := List.mem_iff_getElem.1 hx
 have := h j hj
 simp [hj] at this
 simp [this]

theorem en163 : Enters Tryz.prog 163 := ⟨_, Tryz.func163, by kernel_rfl, rfl⟩

theorem ag23 : AggIs Tryz.prog 23 false := by unfold AggIs; kernel_rfl

theorem sty164 : SlotTy Tryz.prog 164 5 1 1 := slotTy_mk (by kernel_rfl)

theorem en84 : Enters Tryz.prog 84 := ⟨_, Tryz.func84, by kernel_rfl, rfl⟩

theorem sp_laws_markText (k : Nat) (hk : k ≤ 4194304) : Sp Tryz.prog 84 [(.int .i64 (k : Int))] [.any] (.str (mtext k)) := by
 refine Sp_intro (lend := true) Tryz.func84 rfl rfl rfl (fun _ => rfl) (fun c hc hX => ?_)
 refine T_seq (T_region hc (Ch.s (.d (.str [])) pa (Ch.nil (T_seq (T_seq (T_region hc (Ch.s (.d (.int .i64 (k : Int))) pm ?_)))))))
 refine Ch.s (.d (.bool (decide ((k : Int) ≤ 0)))) (iX rfl rfl rfl) (Ch.nil ?_)
 refine T_condD (p := ((k : Int) ≤ 0)) rfl (fun h1 => ?_) (fun h1 => ?_)
 ·
  refine T_seq (T_region hc (Ch.s (.d (.str [109, 48])) pa (Ch.nil (T_ret ?_))))
  exact endR [(.d (.str [109, 48]))] [] [] (.cons (.tmp 2 rfl) .nil) (.cons (.any _) .nil) (Exp.of (congrArg D.str (by rw [mtext, if_pos (by omega)])) (.d _)) rfl rfl
 ·
  refine T_skip (T_seq (T_region hc (Ch.s (.d (.str [])) pa (Ch.nil (T_seq (T_block ?_))))))
  refine T_loop (ι := Nat × List UInt8) (fun p => { n := 20, sl := [(0, (.d (.int .i64 (p.1 : Int)))), (3, (.d (.str p.2)))], hp := [], pin := [] }) (fun p => p.1 + p.2.length ≤ k ∧ digs p.1 p.2 = digs k []) (fun p => p.1) ⟨(k, []), ⟨by simp, rfl⟩, (Wk.of rfl rfl (ai (vI a114) (ai (vS a114) trivial)) trivial)⟩ (fun p hp0 => ?_)
  refine T_seq (T_seq (T_region hc (Ch.s (.d (.int .i64 (p.1 : Int))) pm (Ch.s (.d (.bool (decide (0 < (p.1 : Int))))) (iX rfl rfl rfl) (Ch.nil ?_)))))
  refine T_condD (p := (0 < (p.1 : Int))) rfl (fun h2 => ?_) (fun h2 => ?_)
  ·
   refine T_skip (T_block (T_seq (T_region hc (Ch.s (.d (.int .i64 (p.1 : Int))) pm (Ch.s (.d (.int .i64 ((p.1 % 10 : Nat) : Int))) (iX rfl rfl (remN (n := p.1) (d := 10) rfl rfl (by decide))) (Ch.s (.d (.int .i64 (48 + ((p.1 % 10 : Nat) : Int)))) (iX rfl rfl intV_addA) (Ch.s (.d (.int .u8 ((UInt8.ofNat (48 + p.1 % 10)).toNat : Int))) (.pure (EvP.of (convU8 (n := (48 + p.1 % 10)) (by omega) a43) (.convInt _ _ _ rfl (isSome_of Tryz.underlying3) Tryz.underlying5 rfl))) ?_)))))))
   refine Ch.s (.row 12000) (.slice 12000 _ 5 _ rfl sty164 (xs := [.tmp 11]) rfl rfl (.cons (.d _) .nil) rfl rfl (by decide)) (Ch.s (.d (.str [(UInt8.ofNat (48 + p.1 % 10))])) (.string (l := [(UInt8.ofNat (48 + p.1 % 10))]) _ _ _ _ rfl Tryz.underlying164 Tryz.underlying5 Tryz.underlying9 (by first | exact (.row rfl rfl) | exact (.row rfl rfl))) (Ch.s (.d (.str p.2)) pm (Ch.s (.d (.str ([(UInt8.ofNat (48 + p.1 % 10))] ++ p.2))) (.pure (.str _ _ _ _ _ rfl rfl rfl (strV_add a43))) (Ch.s (.d (.str ([(UInt8.ofNat (48 + p.1 % 10))] ++ p.2))) pa (Ch.nil (T_region hc (Ch.s (.d (.int .i64 (p.1 : Int))) pm ?_)))))))
   refine Ch.s (.d (.int .i64 ((p.1 / 10 : Nat) : Int))) (iX rfl rfl (quoN (n := p.1) (d := 10) rfl rfl (by decide) a43)) (Ch.s (.d (.int .i64 ((p.1 / 10 : Nat) : Int))) pa (Ch.nil ?_))
   refine Exists.intro ((p.1 / 10, [UInt8.ofNat (48 + p.1 % 10)] ++ p.2)) (And.intro ⟨by (have := hp0.1; simp; omega), (digs_step (k := p.1) (by omega) p.2).symm.trans hp0.2⟩ (And.intro (by (simp; omega)) (Wk.of rfl rfl (ai (vI a114) (ai (vS a114) trivial)) trivial)))
  ·
   refine T_exit (T_seq (T_region hc (Ch.s (.d (.str p.2)) pm (Ch.s (.d (.str ([109] ++ p.2))) (.pure (.str _ _ _ _ _ rfl rfl rfl (strV_add a43))) (Ch.s (.d (.str ([109] ++ p.2))) pa (Ch.nil (T_ret ?_)))))))
   exact endR [(.d (.str ([109] ++ p.2)))] [] [] (.cons (.tmp 2 rfl) .nil) (.cons (.any _) .nil) (Exp.of (congrArg D.str (by have hz : p.1 = 0 := (by omega); have h5 := hp0.2; rw [hz, digs_zero] at h5; rw [mtext, if_neg (by omega), h5]; rfl)) (.d _)) rfl rfl

theorem sp_laws_markStringS (xs : List (List UInt8)) (k : Nat) (hn : xs.length ≤ 1048576) (hk : k ≤ 3145728) : Sp Tryz.prog 30 [(.slice true 1 (xs.map D.str)), (.int .i64 (k : Int))] [(.slice true 1 ((marks k xs.length).map D.str)), .any] (.int .i64 ((k + xs.length : Nat) : Int)) := by
 refine Sp_intro (lend := false) Tryz.func30 rfl rfl rfl (fun h => nomatch h) (fun c hc hX => ?_)
 refine T_seq (T_region hc (Ch.s (.d (.int .i64 0)) pa (Ch.nil (T_seq (T_seq (T_region hc (Ch.s (.d (.int .i64 0)) pa ?_)))))))
 refine Ch.nil (T_block ?_)
 refine T_loop (ι := Nat) (fun m => { n := 20, sl := [(0, (.row 1)), (1, (.d (.int .i64 ((k + m : Nat) : Int)))), (5, (.d (.int .i64 (m : Int))))], hp := [(1, (some (.row 1 ((marked xs k m).map D.str))))], pin := [1] }) (fun m => m ≤ xs.length) (fun m => xs.length - m) ⟨0, (by omega), (Wk.of rfl rfl (ai rfl (ai (vI a114) (ai (vI a114) trivial))) (ai (oR a82) trivial))⟩ (fun m hp0 => ?_)
 have hq := marked_length xs k m
 refine T_seq (T_seq (T_region hc (Ch.s (.d (.int .i64 (m : Int))) pm (Ch.s (.row 1) pm (Ch.s (.d (.int .i64 ((marked xs k m).length : Int))) (.pure (.len _ _ 9 rfl Tryz.underlying23 (.row rfl) (by simp))) (Ch.s (.d (.bool (decide ((m : Int) < ((marked xs k m).length : Int))))) (iX rfl rfl rfl) (Ch.nil ?_)))))))
 refine T_condD (p := ((m : Int) < ((marked xs k m).length : Int))) rfl (fun h1 => ?_) (fun h1 => ?_)
 ·
  refine T_skip (T_seq (T_block (T_seq (T_region hc (Ch.s (.row 1) pm (Ch.s (.d (.int .i64 (m : Int))) pm (Ch.s (.d (.int .i64 ((k + m : Nat) : Int))) pm ?_)))))))
  refine Ch.s (.d (.str (mtext (k + m)))) (.call 15000 84 _ _ _ en84 rfl (.inl rfl) (.cons (.d _) .nil) rfl rfl (sp_laws_markText (k + m) a23) (.skip _ _ .nil) rfl) (Ch.s (.el 1 1 m 0) (.pure (.idxRow _ _ _ 9 (m) rfl Tryz.underlying23 sz9 rfl rfl rfl rfl a86)) (Ch.s .junk (.storeEl (y' := (.str (mtext (k + m)))) _ _ _ rfl rfl rfl (.d _) rfl sz9 rfl get_mapA rfl rfl) (Ch.nil (T_region hc (Ch.s (.d (.int .i64 ((k + m : Nat) : Int))) pm (Ch.s (.d (.int .i64 (((k + m : Nat) : Int) + 1))) (iX rfl rfl intV_addA) (Ch.s (.d (.int .i64 (((k + m : Nat) : Int) + 1))) pa ?_)))))))
  refine Ch.nil (T_region hc (Ch.s (.d (.int .i64 (m : Int))) pm (Ch.s (.d (.int .i64 ((m : Int) + 1))) (iX rfl rfl intV_addA) (Ch.s (.d (.int .i64 ((m : Int) + 1))) pa (Ch.nil ?_)))))
  exact nx (m + 1) (by omega) (Wk.of rfl rfl (ai rfl (ai (vI a114) (ai (vI a114) trivial))) (ai (oR a82) trivial))
 ·
  refine T_exit (T_seq (T_region hc (Ch.s (.d (.int .i64 ((k + m : Nat) : Int))) pm (Ch.s (.d (.int .i64 ((k + m : Nat) : Int))) pa (Ch.nil (T_ret ?_))))))
  exact endR [(.d (.int .i64 ((k + m : Nat) : Int)))] [1] [] (.cons (.tmp 4 rfl) .nil) (.cons (Exp.of (congrArg (D.slice true 1) (by rw [marked_all xs k (by omega)])) (.row rfl)) (.cons (.any _) .nil)) (Exp.of (congrArg (D.int .i64) (by omega)) (.d _)) rfl rfl

theorem sp_laws_heldStringS (xs : List (List UInt8)) (k : Nat) (hn : xs.length ≤ 1048576) (hk : k ≤ 3145728) : Sp Tryz.prog 31 [(.slice false 1 (xs.map D.str)), (.int .i64 (k : Int))] [.any, .any] (.int .i64 (heldR xs k)) := by
 refine Sp_intro (lend := true) Tryz.func31 rfl rfl rfl (fun _ => rfl) (fun c hc hX => ?_)
 refine T_seq (T_region hc (Ch.s (.d (.int .i64 0)) pa (Ch.nil (T_seq (T_seq (T_region hc (Ch.s (.d (.int .i64 0)) pa ?_)))))))
 refine Ch.nil (T_block ?_)
 refine T_loop (ι := Nat) (fun m => { n := 22, sl := [(0, (.d (.slice false 1 (xs.map D.str)))), (1, (.d (.int .i64 ((k + m : Nat) : Int)))), (5, (.d (.int .i64 (m : Int))))], hp := [], pin := [] }) (fun m => m ≤ xs.length ∧ ∀ j, j < m → decide (xs.getD j default = mtext (k + j)) = true) (fun m => xs.length - m) ⟨0, ⟨by omega, fun j hj => by omega⟩, (Wk.of rfl rfl (ai rfl (ai (vI a114) (ai (vI a114) trivial))) trivial)⟩ (fun m hp0 => ?_)
 refine T_seq (T_seq (T_region hc (Ch.s (.d (.int .i64 (m : Int))) pm (Ch.s (.d (.slice false 1 (xs.map D.str))) pm (Ch.s (.d (.int .i64 (xs.length : Int))) (.pure (.len _ _ 9 rfl Tryz.underlying23 (.sh _ _) (by simp))) (Ch.s (.d (.bool (decide ((m : Int) < (xs.length : Int))))) (iX rfl rfl rfl) (Ch.nil ?_)))))))
 refine T_condD (p := ((m : Int) < (xs.length : Int))) rfl (fun h1 => ?_) (fun h1 => ?_)
 ·
  refine T_skip (T_seq (T_block (T_seq (T_seq ?_))))
  refine T_regionD hc (by kernel_rfl) ?_
  refine ChD.s (.d (.slice false 1 (xs.map D.str))) [] pm (ChD.s (.d (.int .i64 (m : Int))) [] pm (ChD.s (.d (.ref (.str (xs.getD m default)))) [] (.pure (.idx _ _ _ 9 (m) rfl Tryz.underlying23 sz9 rfl rfl rfl get_mapA)) (ChD.s (.d (.str (xs.getD m default))) [] (.pure (.loadRef1 _ _ rfl ag9 rfl rfl)) (ChD.s (.d (.int .i64 ((k + m : Nat) : Int))) [] pm (ChD.s (.d (.str (mtext (k + m)))) [] (.call 17000 84 _ _ _ en84 rfl (.inl rfl) (.cons (.d _) .nil) rfl rfl (sp_laws_markText (k + m) a23) (.skip _ _ .nil) rfl) (ChD.s (.d (.bool (!(decide ((xs.getD m default) = (mtext (k + m))))))) [] (.pure (.str _ _ _ _ _ rfl rfl rfl rfl)) ?_))))))
  refine ChD.nil (And.intro ?_ (by kernel_rfl))
  refine T_condN (b := (decide ((xs.getD m default) = (mtext (k + m))))) rfl (fun h2 => ?_) (fun h2 => ?_)
  ·
   replace h2 := of_decide_eq_false h2
   refine T_seq (T_region hc (Ch.s (.d (.int .i64 (-1))) pa (Ch.nil (T_ret ?_))))
   exact endR [(.d (.int .i64 (-1)))] [] [] (.cons (.tmp 4 rfl) .nil) (.cons (.any _) (.cons (.any _) .nil)) (Exp.of (congrArg (D.int .i64) a51) (.d _)) rfl rfl
  ·
   replace h2 := of_decide_eq_true h2
   refine T_skip (T_region hc (Ch.s (.d (.int .i64 ((k + m : Nat) : Int))) pm (Ch.s (.d (.int .i64 (((k + m : Nat) : Int) + 1))) (iX rfl rfl intV_addA) (Ch.s (.d (.int .i64 (((k + m : Nat) : Int) + 1))) pa (Ch.nil (T_region hc (Ch.s (.d (.int .i64 (m : Int))) pm ?_)))))))
   refine Ch.s (.d (.int .i64 ((m : Int) + 1))) (iX rfl rfl intV_addA) (Ch.s (.d (.int .i64 ((m : Int) + 1))) pa (Ch.nil ?_))
   exact nx (m + 1) ⟨by omega, upto_succ hp0.2 (by simp_all)⟩ (Wk.of rfl rfl (ai rfl (ai (vI a114) (ai (vI a114) trivial))) trivial)
 ·
  refine T_exit (T_seq (T_region hc (Ch.s (.d (.int .i64 ((k + m : Nat) : Int))) pm (Ch.s (.d (.int .i64 ((k + m : Nat) : Int))) pa (Ch.nil (T_ret ?_))))))
  exact endR [(.d (.int .i64 ((k + m : Nat) : Int)))] [] [] (.cons (.tmp 4 rfl) .nil) (.cons (.any _) (.cons (.any _) .nil)) (Exp.of (congrArg (D.int .i64) a51) (.d _)) rfl rfl

theorem sp_spec_l5Bit (up : Bool) : Sp Tryz.prog 214 [(.bool (up))] [.any] (.str ([bitN up])) := by
 refine Sp_intro (lend := true) Tryz.func214 rfl rfl rfl (fun _ => rfl) (fun c hc hX => ?_)
 refine T_seq (T_region hc (Ch.s (.d (.str [])) pa (Ch.nil (T_seq (T_seq (T_region hc (Ch.s (.d (.bool (up))) pm ?_)))))))
 refine Ch.nil ?_
 refine T_cond (b := (up)) rfl (fun h1 => ?_) (fun h1 => ?_)
 ·
  refine T_seq (T_region hc (Ch.s (.d (.str [49])) pa (Ch.nil (T_ret ?_))))
  exact endR [(.d (.str [49]))] [] [] (.cons (.tmp 2 rfl) .nil) (.cons (.any _) .nil) (Exp.of (congrArg D.str (by subst_vars; rfl)) (.d _)) rfl rfl
 ·
  refine T_skip (T_seq (T_region hc (Ch.s (.d (.str [48])) pa (Ch.nil (T_ret ?_)))))
  exact endR [(.d (.str [48]))] [] [] (.cons (.tmp 2 rfl) .nil) (.cons (.any _) .nil) (Exp.of (congrArg D.str (by subst_vars; rfl)) (.d _)) rfl rfl

theorem sp_spec_l5Set (u : List UInt8) (sig : Int) (v : List UInt8) (hu : u.length ≤ 1048576) (hv : v.length ≤ 1048576) (h0 : 0 ≤ sig) (h1s : sig + 1 ≤ u.length) : Sp Tryz.prog 220 [(.str u), (.int .i64 sig), (.str v)] [.any, .any, .any] (.str (u.take sig.toNat ++ v ++ u.drop (sig + 1).toNat)) := by
 refine Sp_intro (lend := true) Tryz.func220 rfl rfl rfl (fun _ => rfl) (fun c hc hX => ?_)
 refine T_seq (T_region hc (Ch.s (.d (.str [])) pa (Ch.nil (T_seq ?_))))
 refine T_regionD hc (by kernel_rfl) ?_
 refine ChD.s (.d (.str u)) [] pm (ChD.s (.d (.int .i64 sig)) [] pm (ChD.s (.d (.str (u.take ((sig).toNat)))) [] (.pure (.sliceStr _ _ _ _ (0) ((sig).toNat) rfl Tryz.underlying9 rfl (bndN rfl) (bndS rfl (by omega)) a43 a43 (by simp))) (ChD.s (.d (.str v)) [] pm (ChD.s (.d (.str ((u.take ((sig).toNat)) ++ v))) [] (.pure (.str _ _ _ _ _ rfl rfl rfl (strV_add a43))) (ChD.s (.d (.str u)) [] pm (ChD.s (.d (.int .i64 sig)) [] pm (ChD.s (.d (.int .i64 (sig + 1))) [] (iX rfl rfl intV_addA) ?_)))))))
 refine ChD.s (.d (.str (u.drop (((sig + 1)).toNat)))) [] (.pure (.sliceStr _ _ _ _ (((sig + 1)).toNat) (u.length) rfl Tryz.underlying9 rfl (bndS rfl (by omega)) (bndN rfl) a43 a43 (by simp))) (ChD.s (.d (.str (((u.take ((sig).toNat)) ++ v) ++ (u.drop (((sig + 1)).toNat))))) [] (.pure (.str _ _ _ _ _ rfl rfl rfl (strV_add a43))) (ChD.s (.d (.str (((u.take ((sig).toNat)) ++ v) ++ (u.drop (((sig + 1)).toNat))))) [] pa ?_))
 refine ChD.nil (And.intro ?_ (by kernel_rfl))
 refine T_ret ?_
 exact endR [(.d (.str (((u.take ((sig).toNat)) ++ v) ++ (u.drop (((sig + 1)).toNat)))))] [] [] (.cons (.tmp 6 rfl) .nil) (.cons (.any _) (.cons (.any _) (.cons (.any _) .nil))) (Exp.of (congrArg D.str (by rfl)) (.d _)) rfl rfl

theorem within_two {n lo hi : Int} (h : withinB n lo hi = true) : lo ≤ n ∧ n ≤ hi := by simpa [withinB] using h

theorem sz3 : SizeIs Tryz.prog 3 1 := by unfold SizeIs; kernel_rfl

theorem sz23 : SizeIs Tryz.prog 23 1 := by unfold SizeIs; kernel_rfl

theorem en29 : Enters Tryz.prog 29 := ⟨_, Tryz.func29, by kernel_rfl, rfl⟩

def keepTo {τ : Type} (p : τ → Bool) (xs : List τ) (j : Nat) : List τ := (xs.take j).filter fun u => !p u

theorem keepTo_yes {τ : Type} [Inhabited τ] {p : τ → Bool} {xs : List τ} {j : Nat} (hj : j < xs.length) (h : p (xs.getD j default) = false) : keepTo p xs (j + 1) = keepTo p xs j ++ [xs.getD j default] := by
 have hg : xs.getD j default = xs[j] := by simp [hj]
 rw [hg] at h ⊢
 rw [keepTo, keepTo, List.take_succ_eq_append_getElem hj, List.filter_append]; simp [h]

theorem keepTo_no {τ : Type} [Inhabited τ] {p : τ → Bool} {xs : List τ} {j : Nat} (hj : j < xs.length) (h : p (xs.getD j default) = true) : keepTo p xs (j + 1) = keepTo p xs j := by
 have hg : xs.getD j default = xs[j] := by simp [hj]
 rw [hg] at h
 rw [keepTo, keepTo, List.take_succ_eq_append_getElem hj, List.filter_append]; simp [h]

theorem keepTo_none {τ : Type} [Inhabited τ] {p : τ → Bool} {xs : List τ} : ∀ k, k ≤ xs.length → (∀ j, j < k → p (xs.getD j default) = false) → keepTo p xs k = xs.take k
 | 0, _, _ => rfl
 | k + 1, hk, h => by
  rw [keepTo_yes (by omega) (h k (by omega)), keepTo_none k (by omega) (fun j hj => h j (by omega)), List.take_succ_eq_append_getElem (by omega)]
  simp [show k < xs.length by omega]

theorem ixF_first {τ : Type} [Inhabited τ] {p : τ → Bool} {xs : List τ} (h : ¬ ixF p xs = -1) : ∃ k, k < xs.length ∧ ixF p xs = (k : Int) ∧ keepTo p xs (k + 1) = xs.take k := by
  unfold ixF at *
  split at h
  · rename_i ha
    have hk : xs.findIdx p < xs.length := List.findIdx_lt_length_of_exists (by simpa using ha)
    refine ⟨xs.findIdx p, hk, by rw [if_pos ha], ?_⟩
    have h1 : p (xs.getD (xs.findIdx p) default) = true := by
      have := List.findIdx_getElem (w := hk)
      simpa [hk] using this
    rw [keepTo_no hk h1]
    refine keepTo_none _ (by omega) (fun j hj => ?_)
    have := List.not_of_lt_findIdx hj
    simpa [show j < xs.length by omega] using this
  · exact absurd rfl h

structure DelInv {τ : Type} [Inhabited τ] (p : τ → Bool) (xs : List τ) (j : Nat) (R : List τ) : Prop where
 le : j ≤ xs.length
 len : R.length = xs.length
 lt : (keepTo p xs j).length < j
 pre : R.take (keepTo p xs j).length = keepTo p xs j
 post : R.drop j = xs.drop j

theorem DelInv.get {τ : Type} [Inhabited τ] {p : τ → Bool} {xs : List τ} {j : Nat} {R : List τ} (h : DelInv p xs j R) (hj : j < xs.length) : R.getD j default = xs.getD j default := by
 have h1 : (R.drop j)[0]? = (xs.drop j)[0]? := by rw [h.post]
 rw [List.getElem?_drop, List.getElem?_drop, Nat.add_zero] at h1
 rw [List.getD_eq_getElem?_getD, List.getD_eq_getElem?_getD, h1]

theorem DelInv.start {τ : Type} [Inhabited τ] {p : τ → Bool} {xs : List τ} {k : Nat} (hk : k < xs.length) (h : keepTo p xs (k + 1) = xs.take k) : DelInv p xs (k + 1) xs := by
 have hl : (keepTo p xs (k + 1)).length = k := by rw [h]; simp; omega
 exact ⟨by omega, rfl, by omega, by rw [hl, h], rfl⟩

theorem DelInv.skip {τ : Type} [Inhabited τ] {p : τ → Bool} {xs : List τ} {j : Nat} {R : List τ} (h : DelInv p xs j R) (hj : j < xs.length) (hp : p (R.getD j default) = true) : DelInv p xs (j + 1) R ∧ (keepTo p xs j).length = (keepTo p xs (j + 1)).length := by
 rw [h.get hj] at hp
 have hk := keepTo_no hj hp
 refine ⟨⟨by omega, h.len, by rw [hk]; have := h.lt; omega, by rw [hk]; exact h.pre, ?_⟩, by rw [hk]⟩
 rw [← List.drop_drop, ← List.drop_drop, h.post]

theorem DelInv.keep {τ : Type} [Inhabited τ] {p : τ → Bool} {xs : List τ} {j : Nat} {R : List τ} (h : DelInv p xs j R) (hj : j < xs.length) (hp : p (R.getD j default) = false) : DelInv p xs (j + 1) (R.set (keepTo p xs j).length (R.getD j default)) ∧ (keepTo p xs j).length + 1 = (keepTo p xs (j + 1)).length := by
  have hg := h.get hj
  rw [hg] at hp ⊢
  have hk := keepTo_yes hj hp
  have hl : (keepTo p xs (j + 1)).length = (keepTo p xs j).length + 1 := by rw [hk]; simp
  have hlt := h.lt
  have hlen := h.len
  refine ⟨⟨by omega, by simp [h.len], by omega, ?_, ?_⟩, hl.symm⟩
  · rw [hl, hk, List.take_succ_eq_append_getElem (by simp; omega), List.getElem_set_self, List.take_set_of_le (Nat.le_refl _), h.pre]
  · rw [List.drop_set_of_lt (by omega), ← List.drop_drop, ← List.drop_drop, h.post]

theorem DelInv.mem {τ : Type} [Inhabited τ] {p : τ → Bool} {xs : List τ} {j : Nat} {R : List τ} (h : DelInv p xs j R) (hj : j < R.length) : R.getD j default ∈ xs := by
 rw [h.get (by rw [← h.len]; exact hj)]; exact getD_mem (by rw [← h.len]; exact hj)

theorem DelInv.done {τ : Type} [Inhabited τ] {p : τ → Bool} {xs : List τ} {j : Nat} {R : List τ} (h : DelInv p xs j R) (hj : xs.length ≤ j) : R.take (keepTo p xs j).length = xs.filter fun u => !p u := by
 rw [h.pre, keepTo, List.take_of_length_le hj]

theorem ixF_bounds {τ : Type} [Inhabited τ] (p : τ → Bool) (xs : List τ) : -1 ≤ ixF p xs ∧ ixF p xs ≤ xs.length := by
  unfold ixF
  have := List.findIdx_le_length (p := p) (xs := xs)
  split <;> omega

theorem take_cut {τ : Type} {A Z B : List τ} {k : Nat} (h : k ≤ A.length) : (A.take k ++ Z ++ B).take k = A.take k := by
 rw [List.append_assoc, List.take_append_of_le_length (by simp; omega), List.take_of_length_le (by simp; omega)]

theorem ixF_all {τ : Type} [Inhabited τ] {p : τ → Bool} {xs : List τ} (h : ixF p xs = -1) : xs.filter (fun u => !p u) = xs := by
  unfold ixF at h
  split at h
  · omega
  · rename_i ha
    rw [List.filter_eq_self]
    intro u hu
    have : ¬ p u = true := fun hp => ha (List.any_eq_true.2 ⟨u, hu, hp⟩)
    simpa using this

def both (u : List UInt8) : List (List UInt8) := [u ++ [48], u ++ [49]]

def codes : Nat → List (List UInt8)
 | 0 => [[]]
 | n + 1 => (codes n).flatMap both

theorem shl1 {b : Int} {n : Nat} (h : b = (n : Int)) (hn : n ≤ 62) : shiftV .shl .i64 1 b = some (.int .i64 ((2 ^ n : Nat) : Int)) := by
 subst h
 rw [shiftV, if_neg (by omega)]
 have h1 : min (n : Int).toNat IntKind.i64.bits = n := by
  have : IntKind.i64.bits = 64 := rfl
  rw [this, Int.toNat_natCast]; omega
 have h2 : 2 ^ n ≤ 2 ^ 62 := Nat.pow_le_pow_right (by omega) hn
 rw [h1, Int.one_mul, show (2 : Int) ^ n = ((2 ^ n : Nat) : Int) by simp]
 generalize 2 ^ n = m at h2
 rw [IntWalk.i64_in _ (by omega)]

theorem en198 : Enters Tryz.prog 198 := ⟨_, Tryz.func198, by kernel_rfl, rfl⟩

theorem en220 : Enters Tryz.prog 220 := ⟨_, Tryz.func220, by kernel_rfl, rfl⟩

theorem en199 : Enters Tryz.prog 199 := ⟨_, Tryz.func199, by kernel_rfl, rfl⟩

theorem en201 : Enters Tryz.prog 201 := ⟨_, Tryz.func201, by kernel_rfl, rfl⟩

def three (u : List UInt8) : List (List UInt8) := [u ++ [45], u ++ [48], u ++ [49]]

def cubes : Nat → List (List UInt8)
 | 0 => [[]]
 | n + 1 => (cubes n).flatMap three

def cubesMid (k m : Nat) : List (List UInt8) := ((cubes k).take m).flatMap three

theorem cubesMid_all {k m : Nat} (h : (cubes k).length ≤ m) : cubesMid k m = cubes (k + 1) := by rw [cubesMid, List.take_of_length_le h]; rfl

theorem cubesMid_succ {k m : Nat} (h : m < (cubes k).length) : cubesMid k m ++ [(cubes k).getD m default ++ [45], (cubes k).getD m default ++ [48], (cubes k).getD m default ++ [49]] = cubesMid k (m + 1) := by
 rw [cubesMid, cubesMid, List.take_succ_eq_append_getElem h, List.flatMap_append]; simp [three, h]

theorem three_length : ∀ l : List (List UInt8), (l.flatMap three).length = 3 * l.length
 | [] => rfl
 | u :: l => by rw [List.flatMap_cons, List.length_append, three_length l]; simp [three]; omega

theorem cubes_length : ∀ n, (cubes n).length = 3 ^ n
 | 0 => rfl
 | n + 1 => by rw [cubes, three_length, cubes_length n]; omega

theorem cubesMid_length (k m : Nat) (h : m ≤ (cubes k).length) : (cubesMid k m).length = 3 * m := by rw [cubesMid, three_length, List.length_take, Nat.min_eq_left h]

theorem cubes_mem : ∀ n, ∀ u ∈ cubes n, u.length = n
  | 0, u, h => by simp [cubes] at h; simp [h]
  | n + 1, u, h => by
    rw [cubes, List.mem_flatMap] at h
    obtain ⟨v, hv, hu⟩ := h
    have := cubes_mem n v hv
    simp [three] at hu
    rcases hu with rfl | rfl | rfl <;> simp [this]

theorem sp_impl_allCubes (n : Int) (h0 : 0 ≤ n) (hn : n ≤ 8) : Sp Tryz.prog 201 [(.int .i64 n)] [.any] (.slice true 1 ((cubes n.toNat).map D.str)) := by
 refine Sp_intro (lend := true) Tryz.func201 rfl rfl rfl (fun _ => rfl) (fun c hc hX => ?_)
 refine T_seq (T_region hc (Ch.s (.c (.slice none 0 0)) pa (Ch.nil (T_seq (T_region hc (Ch.s (.row 7000) (.slice 7000 _ 9 _ rfl sty23 (xs := [.const (.string { data := #[] })]) rfl rfl (.cons (.d _) .nil) rfl rfl (by decide)) (Ch.s (.row 7000) pa ?_)))))))
 refine Ch.nil (T_seq (T_seq (T_region hc (Ch.s (.d (.int .i64 n)) pm (Ch.s (.d (.int .i64 0)) pm (Ch.nil (T_block ?_)))))))
 refine T_loop (ι := Nat) (fun k => { n := 31, sl := [(3, (.row 3)), (8, (.d (.int .i64 n))), (9, (.d (.int .i64 (k : Int))))], hp := [(3, (some (.row 1 ((cubes k).map D.str))))], pin := [] }) (fun k => (k : Int) ≤ n) (fun k => n.toNat - k) ⟨0, (by omega), (Wk.ren [(3, 7000)] rfl rfl rfl rfl (ai rfl (ai rfl (ai (vI a114) trivial))) (ai (oR a115) trivial))⟩ (fun k hp0 => ?_)
 have hl := cubes_length k; have hp3 : 3 ^ k ≤ 3 ^ 8 := Nat.pow_le_pow_right (by omega) (by omega)
 refine T_seq (T_region hc (Ch.s (.d (.bool (decide ((k : Int) < n)))) (iX rfl rfl rfl) (Ch.nil (T_seq ?_))))
 refine T_condD (p := ((k : Int) < n)) rfl (fun h1 => ?_) (fun h1 => ?_)
 ·
  refine T_skip (T_seq (T_block (T_seq (T_region hc (Ch.s (.row 11000) (.slice 11000 _ 9 _ rfl sty23 (xs := []) rfl rfl .nil rfl rfl (by decide)) (Ch.s (.row 11000) pa (Ch.nil ?_)))))))
  refine T_seq (T_seq (T_region hc (Ch.s (.row 3) pm (Ch.s (.d (.int .i64 ((cubes k).length : Int))) (.pure (.len _ _ 9 rfl Tryz.underlying23 (.row rfl) (by simp))) (Ch.s (.d (.int .i64 0)) pm (Ch.nil (T_block ?_)))))))
  refine T_loop (ι := Nat) (fun m => { n := 31, sl := [(4, (.row 4)), (8, (.d (.int .i64 n))), (9, (.d (.int .i64 (k : Int)))), (12, (.row 3)), (13, (.d (.int .i64 ((cubes k).length : Int)))), (14, (.d (.int .i64 (m : Int))))], hp := [(3, (some (.row 1 ((cubes k).map D.str)))), (4, (some (.row 1 ((cubesMid k m).map D.str))))], pin := [] }) (fun m => m ≤ (cubes k).length) (fun m => (cubes k).length - m) ⟨0, (by omega), (Wk.ren [(4, 11000)] rfl rfl rfl rfl (ai rfl (ai rfl (ai rfl (ai rfl (ai rfl (ai (vI a114) trivial)))))) (ai rfl (ai (oR a95) trivial)))⟩ (fun m hp1 => ?_)
  have hm := cubesMid_length k m hp1
  refine T_seq (T_region hc (Ch.s (.d (.bool (decide ((m : Int) < ((cubes k).length : Int))))) (iX rfl rfl rfl) (Ch.nil (T_seq ?_))))
  refine T_condD (p := ((m : Int) < ((cubes k).length : Int))) rfl (fun h2 => ?_) (fun h2 => ?_)
  ·
   try have hk := cubes_mem k _ (getD_mem (l := cubes k) (j := m) (d := default) (by omega))
   refine T_skip (T_seq (T_block (T_seq (T_region hc (Ch.s (.el 3 1 m 0) (.pure (.idxRow _ _ _ 9 (m) rfl Tryz.underlying23 sz9 rfl rfl rfl rfl a86)) (Ch.s (.d (.str ((cubes k).getD m default))) (.pure (.loadEl1 _ _ rfl ag9 rfl rfl get_mapA rfl rfl rfl)) (Ch.s (.d (.str ((cubes k).getD m default))) pa ?_)))))))
   refine Ch.nil (T_region hc (Ch.s (.row 4) pm (Ch.s (.d (.str ((cubes k).getD m default))) pm (Ch.s (.d (.str (((cubes k).getD m default) ++ [45]))) (.pure (.str _ _ _ _ _ rfl rfl rfl (strV_add a43))) (Ch.s (.d (.str ((cubes k).getD m default))) pm (Ch.s (.d (.str (((cubes k).getD m default) ++ [48]))) (.pure (.str _ _ _ _ _ rfl rfl rfl (strV_add a43))) (Ch.s (.d (.str ((cubes k).getD m default))) pm ?_)))))))
   refine Ch.s (.d (.str (((cubes k).getD m default) ++ [49]))) (.pure (.str _ _ _ _ _ rfl rfl rfl (strV_add a43))) (Ch.s (.row 25000) (.slice 25000 _ 9 _ rfl sty23 (xs := [.tmp 20, .tmp 22, .tmp 24]) rfl rfl (.cons (.d _) (.cons (.d _) (.cons (.d _) .nil))) rfl rfl (by decide)) ?_)
   refine Ch.step (v := (.row 26000)) rfl (.append 26000 _ _ _ 9 rfl sty23 (by decide) (.rowK rfl) (.inr ⟨_, rfl, rfl⟩) (.row rfl rfl) rfl a56) rfl rfl ?_
   refine Ch.s (.row 26000) pa (Ch.nil (T_region hc (Ch.s (.d (.int .i64 ((m : Int) + 1))) (iX rfl rfl intV_addA) (Ch.s (.d (.int .i64 ((m : Int) + 1))) pm (Ch.nil ?_)))))
   exact nx (m + 1) (by omega) (Wk.ren [(4, 26000)] rfl rfl rfl rfl (ai rfl (ai rfl (ai rfl (ai rfl (ai rfl (ai (vI a114) trivial)))))) (ai rfl (ai (oR a95) trivial)))
  ·
   try have hk := cubes_mem k _ (getD_mem (l := cubes k) (j := m) (d := default) (by omega))
   refine T_exit (T_region hc (Ch.s (.row 4) pm (Ch.s (.row 4) pa (Ch.nil (T_region hc (Ch.s (.d (.int .i64 ((k : Int) + 1))) (iX rfl rfl intV_addA) (Ch.s (.d (.int .i64 ((k : Int) + 1))) pm ?_)))))))
   refine Ch.nil ?_
   exact nx (k + 1) (by omega) (Wk.ren [(3, 4)] rfl rfl rfl rfl (ai rfl (ai rfl (ai (vI a114) trivial))) (ai (oR a115) trivial))
 ·
  refine T_exit (T_seq (T_region hc (Ch.s (.row 3) pm (Ch.s (.row 3) pa (Ch.nil (T_ret ?_))))))
  exact endR [(.row 3)] [] [3] (.cons (.tmp 2 rfl) .nil) (.cons (.any _) .nil) (Exp.of (congrArg (D.slice true 1) (by rw [show n.toNat = k by omega])) (.row rfl)) rfl rfl

theorem sp_spec_l14Cubes (n : Int) (h0 : 0 ≤ n) (hn : n ≤ 8) : Sp Tryz.prog 199 [(.int .i64 n)] [.any] (.slice true 1 ((cubes n.toNat).map D.str)) := by
 refine Sp_intro (lend := true) Tryz.func199 rfl rfl rfl (fun _ => rfl) (fun c hc hX => ?_)
 refine T_seq (T_region hc (Ch.s (.c (.slice none 0 0)) pa (Ch.nil (T_seq (T_region hc (Ch.s (.row 7000) (.slice 7000 _ 9 _ rfl sty23 (xs := [.const (.string { data := #[] })]) rfl rfl (.cons (.d _) .nil) rfl rfl (by decide)) (Ch.s (.row 7000) pa ?_)))))))
 refine Ch.nil (T_seq (T_block ?_))
 refine T_loop (ι := Nat) (fun k => { n := 30, sl := [(0, (.d (.int .i64 (n - k)))), (3, (.row 3))], hp := [(3, (some (.row 1 ((cubes k).map D.str))))], pin := [] }) (fun k => (k : Int) ≤ n) (fun k => n.toNat - k) ⟨0, (by omega), (Wk.ren [(3, 7000)] rfl rfl rfl rfl (ai (vI (by omega)) (ai rfl trivial)) (ai (oR a115) trivial))⟩ (fun k hp0 => ?_)
 have hl := cubes_length k; have hp3 : 3 ^ k ≤ 3 ^ 8 := Nat.pow_le_pow_right (by omega) (by omega)
 refine T_seq (T_seq (T_region hc (Ch.s (.d (.int .i64 (n - k))) pm (Ch.s (.d (.bool (decide (0 < (n - k))))) (iX rfl rfl rfl) (Ch.nil ?_)))))
 refine T_condD (p := (0 < (n - k))) rfl (fun h1 => ?_) (fun h1 => ?_)
 ·
  refine T_skip (T_seq (T_block (T_seq (T_region hc (Ch.s (.c (.slice none 0 0)) pa (Ch.nil (T_seq ?_)))))))
  refine T_seq (T_region hc (Ch.s (.row 3) pm (Ch.s (.d (.int .i64 ((cubes k).length : Int))) (.pure (.len _ _ 9 rfl Tryz.underlying23 (.row rfl) (by simp))) (Ch.s (.d (.int .i64 0)) pm (Ch.nil (T_block ?_))))))
  refine T_loop (ι := Nat) (fun m => { n := 30, sl := [(0, (.d (.int .i64 (n - k)))), (4, (.row 4)), (12, (.row 3)), (13, (.d (.int .i64 ((cubes k).length : Int)))), (14, (.d (.int .i64 (m : Int))))], hp := [(3, (some (.row 1 ((cubes k).map D.str)))), (4, (some (.row 1 ((cubesMid k m).map D.str))))], pin := [] }) (fun m => m ≤ (cubes k).length) (fun m => (cubes k).length - m) ⟨0, (by omega), (Wk.trans (Wk.nilrow 4 900004 1 rfl rfl rfl) (Wk.ren [(4, 900004)] rfl rfl rfl rfl (ai rfl (ai rfl (ai rfl (ai rfl (ai (vI a114) trivial))))) (ai rfl (ai (oR a95) trivial))))⟩ (fun m hp1 => ?_)
  have hm := cubesMid_length k m hp1
  refine T_seq (T_region hc (Ch.s (.d (.bool (decide ((m : Int) < ((cubes k).length : Int))))) (iX rfl rfl rfl) (Ch.nil (T_seq ?_))))
  refine T_condD (p := ((m : Int) < ((cubes k).length : Int))) rfl (fun h2 => ?_) (fun h2 => ?_)
  ·
   try have hk := cubes_mem k _ (getD_mem (l := cubes k) (j := m) (d := default) (by omega))
   refine T_skip (T_seq (T_block (T_seq (T_region hc (Ch.s (.el 3 1 m 0) (.pure (.idxRow _ _ _ 9 (m) rfl Tryz.underlying23 sz9 rfl rfl rfl rfl a86)) (Ch.s (.d (.str ((cubes k).getD m default))) (.pure (.loadEl1 _ _ rfl ag9 rfl rfl get_mapA rfl rfl rfl)) (Ch.s (.d (.str ((cubes k).getD m default))) pa ?_)))))))
   refine Ch.nil (T_region hc (Ch.s (.row 4) pm (Ch.s (.d (.str ((cubes k).getD m default))) pm (Ch.s (.d (.str (((cubes k).getD m default) ++ [45]))) (.pure (.str _ _ _ _ _ rfl rfl rfl (strV_add a43))) (Ch.s (.d (.str ((cubes k).getD m default))) pm (Ch.s (.d (.str (((cubes k).getD m default) ++ [48]))) (.pure (.str _ _ _ _ _ rfl rfl rfl (strV_add a43))) (Ch.s (.d (.str ((cubes k).getD m default))) pm ?_)))))))
   refine Ch.s (.d (.str (((cubes k).getD m default) ++ [49]))) (.pure (.str _ _ _ _ _ rfl rfl rfl (strV_add a43))) (Ch.s (.row 25000) (.slice 25000 _ 9 _ rfl sty23 (xs := [.tmp 20, .tmp 22, .tmp 24]) rfl rfl (.cons (.d _) (.cons (.d _) (.cons (.d _) .nil))) rfl rfl (by decide)) ?_)
   refine Ch.step (v := (.row 26000)) rfl (.append 26000 _ _ _ 9 rfl sty23 (by decide) (.rowK rfl) (.inr ⟨_, rfl, rfl⟩) (.row rfl rfl) rfl a56) rfl rfl ?_
   refine Ch.s (.row 26000) pa (Ch.nil (T_region hc (Ch.s (.d (.int .i64 ((m : Int) + 1))) (iX rfl rfl intV_addA) (Ch.s (.d (.int .i64 ((m : Int) + 1))) pm (Ch.nil ?_)))))
   exact nx (m + 1) (by omega) (Wk.ren [(4, 26000)] rfl rfl rfl rfl (ai rfl (ai rfl (ai rfl (ai rfl (ai (vI a114) trivial))))) (ai rfl (ai (oR a95) trivial)))
  ·
   try have hk := cubes_mem k _ (getD_mem (l := cubes k) (j := m) (d := default) (by omega))
   refine T_exit (T_region hc (Ch.s (.row 4) pm (Ch.s (.row 4) pa (Ch.nil (T_region hc (Ch.s (.d (.int .i64 (n - k))) pm (Ch.s (.d (.int .i64 ((n - k) - 1))) (iX rfl rfl intV_subA) ?_)))))))
   refine Ch.s (.d (.int .i64 ((n - k) - 1))) pa (Ch.nil ?_)
   exact nx (k + 1) (by omega) (Wk.ren [(3, 4)] rfl rfl rfl rfl (ai (vI (by omega)) (ai rfl trivial)) (ai (oR a115) trivial))
 ·
  refine T_exit (T_seq (T_region hc (Ch.s (.row 3) pm (Ch.s (.row 3) pa (Ch.nil (T_ret ?_))))))
  exact endR [(.row 3)] [] [3] (.cons (.tmp 2 rfl) .nil) (.cons (.any _) .nil) (Exp.of (congrArg (D.slice true 1) (by rw [show n.toNat = k by omega])) (.row rfl)) rfl rfl

theorem fld151_0 : FieldIs Tryz.prog 151 0 0 1 false := FieldIs.mk Tryz.underlying151 rfl rfl sz9 ag9 rfl

theorem sz151 : SizeIs Tryz.prog 151 2 := by unfold SizeIs; kernel_rfl

theorem ag151 : AggIs Tryz.prog 151 true := by unfold AggIs; kernel_rfl

theorem en133 : Enters Tryz.prog 133 := ⟨_, Tryz.func133, by kernel_rfl, rfl⟩

theorem zr154 : (Tryz.prog.info? 154).bind (·.zero) = some (.agg #[.string .empty, .int .i64 0]) := by kernel_rfl

theorem zer154 : ∃ i z, Tryz.prog.info? 154 = some i ∧ i.zero = some z ∧ z.cells = List.toArray [.string .empty, .int .i64 0] := zero_mk zr154 rfl

theorem fld154_0 : FieldIs Tryz.prog 154 0 0 1 false := FieldIs.mk Tryz.underlying154 rfl rfl sz9 ag9 rfl

theorem fld151_1 : FieldIs Tryz.prog 151 1 1 1 false := FieldIs.mk Tryz.underlying151 rfl rfl sz3 ag3 rfl

theorem fld154_1 : FieldIs Tryz.prog 154 1 1 1 false := FieldIs.mk Tryz.underlying154 rfl rfl sz3 ag3 rfl

theorem ag154 : AggIs Tryz.prog 154 true := by unfold AggIs; kernel_rfl

theorem sz154 : SizeIs Tryz.prog 154 2 := by unfold SizeIs; kernel_rfl

theorem sty32 : SlotTy Tryz.prog 32 154 2 24 := slotTy_mk (by kernel_rfl)

theorem en137 : Enters Tryz.prog 137 := ⟨_, Tryz.func137, by kernel_rfl, rfl⟩

theorem en144 : Enters Tryz.prog 144 := ⟨_, Tryz.func144, by kernel_rfl, rfl⟩

theorem zr125 : (Tryz.prog.info? 125).bind (·.zero) = some (.agg #[.int .i64 0, .int .i64 0, .bool false, .int .i64 0]) := by kernel_rfl

theorem zer125 : ∃ i z, Tryz.prog.info? 125 = some i ∧ i.zero = some z ∧ z.cells = List.toArray [.int .i64 0, .int .i64 0, .bool false, .int .i64 0] := zero_mk zr125 rfl

theorem fld157_0 : FieldIs Tryz.prog 157 0 0 1 false := FieldIs.mk Tryz.underlying157 rfl rfl sz3 ag3 rfl

theorem fld125_0 : FieldIs Tryz.prog 125 0 0 1 false := FieldIs.mk Tryz.underlying125 rfl rfl sz3 ag3 rfl

theorem fld157_1 : FieldIs Tryz.prog 157 1 1 1 false := FieldIs.mk Tryz.underlying157 rfl rfl sz3 ag3 rfl

theorem fld125_1 : FieldIs Tryz.prog 125 1 1 1 false := FieldIs.mk Tryz.underlying125 rfl rfl sz3 ag3 rfl

theorem sz4 : SizeIs Tryz.prog 4 1 := by unfold SizeIs; kernel_rfl

theorem ag4 : AggIs Tryz.prog 4 false := by unfold AggIs; kernel_rfl

theorem fld157_2 : FieldIs Tryz.prog 157 2 2 1 false := FieldIs.mk Tryz.underlying157 rfl rfl sz4 ag4 rfl

theorem fld125_2 : FieldIs Tryz.prog 125 2 2 1 false := FieldIs.mk Tryz.underlying125 rfl rfl sz4 ag4 rfl

theorem fld157_3 : FieldIs Tryz.prog 157 3 3 1 false := FieldIs.mk Tryz.underlying157 rfl rfl sz3 ag3 rfl

theorem fld125_3 : FieldIs Tryz.prog 125 3 3 1 false := FieldIs.mk Tryz.underlying125 rfl rfl sz3 ag3 rfl

theorem ag125 : AggIs Tryz.prog 125 true := by unfold AggIs; kernel_rfl

theorem sz125 : SizeIs Tryz.prog 125 4 := by unfold SizeIs; kernel_rfl

theorem sty33 : SlotTy Tryz.prog 33 125 4 32 := slotTy_mk (by kernel_rfl)

theorem sz157 : SizeIs Tryz.prog 157 4 := by unfold SizeIs; kernel_rfl

theorem ag157 : AggIs Tryz.prog 157 true := by unfold AggIs; kernel_rfl

theorem en138 : Enters Tryz.prog 138 := ⟨_, Tryz.func138, by kernel_rfl, rfl⟩

theorem en145 : Enters Tryz.prog 145 := ⟨_, Tryz.func145, by kernel_rfl, rfl⟩

theorem sz32 : SizeIs Tryz.prog 32 1 := by unfold SizeIs; kernel_rfl

theorem ag32 : AggIs Tryz.prog 32 false := by unfold AggIs; kernel_rfl

theorem en74 : Enters Tryz.prog 74 := ⟨_, Tryz.func74, by kernel_rfl, rfl⟩

theorem sz22 : SizeIs Tryz.prog 22 1 := by unfold SizeIs; kernel_rfl

theorem ag22 : AggIs Tryz.prog 22 false := by unfold AggIs; kernel_rfl

theorem fld26_0 : FieldIs Tryz.prog 26 0 0 1 false := FieldIs.mk Tryz.underlying26 rfl rfl sz22 ag22 rfl

theorem en66 : Enters Tryz.prog 66 := ⟨_, Tryz.func66, by kernel_rfl, rfl⟩

theorem fld26_1 : FieldIs Tryz.prog 26 1 1 1 false := FieldIs.mk Tryz.underlying26 rfl rfl sz23 ag23 rfl

theorem en67 : Enters Tryz.prog 67 := ⟨_, Tryz.func67, by kernel_rfl, rfl⟩

theorem sz24 : SizeIs Tryz.prog 24 1 := by unfold SizeIs; kernel_rfl

theorem ag24 : AggIs Tryz.prog 24 false := by unfold AggIs; kernel_rfl

theorem fld26_2 : FieldIs Tryz.prog 26 2 2 1 false := FieldIs.mk Tryz.underlying26 rfl rfl sz24 ag24 rfl

theorem en68 : Enters Tryz.prog 68 := ⟨_, Tryz.func68, by kernel_rfl, rfl⟩

theorem zr35 : (Tryz.prog.info? 35).bind (·.zero) = some (.agg #[.slice none 0 0, .slice none 0 0, .slice none 0 0]) := by kernel_rfl

theorem zer35 : ∃ i z, Tryz.prog.info? 35 = some i ∧ i.zero = some z ∧ z.cells = List.toArray [.slice none 0 0, .slice none 0 0, .slice none 0 0] := zero_mk zr35 rfl

theorem en70 : Enters Tryz.prog 70 := ⟨_, Tryz.func70, by kernel_rfl, rfl⟩

theorem fld35_0 : FieldIs Tryz.prog 35 0 0 1 false := FieldIs.mk Tryz.underlying35 rfl rfl sz32 ag32 rfl

theorem en71 : Enters Tryz.prog 71 := ⟨_, Tryz.func71, by kernel_rfl, rfl⟩

theorem fld35_1 : FieldIs Tryz.prog 35 1 1 1 false := FieldIs.mk Tryz.underlying35 rfl rfl sz23 ag23 rfl

theorem en72 : Enters Tryz.prog 72 := ⟨_, Tryz.func72, by kernel_rfl, rfl⟩

theorem sz33 : SizeIs Tryz.prog 33 1 := by unfold SizeIs; kernel_rfl

theorem ag33 : AggIs Tryz.prog 33 false := by unfold AggIs; kernel_rfl

theorem fld35_2 : FieldIs Tryz.prog 35 2 2 1 false := FieldIs.mk Tryz.underlying35 rfl rfl sz33 ag33 rfl

theorem ag35 : AggIs Tryz.prog 35 true := by unfold AggIs; kernel_rfl

theorem sz35 : SizeIs Tryz.prog 35 3 := by unfold SizeIs; kernel_rfl

theorem en75 : Enters Tryz.prog 75 := ⟨_, Tryz.func75, by kernel_rfl, rfl⟩

theorem zr121 : (Tryz.prog.info? 121).bind (·.zero) = some (.agg #[.int .i64 0, .bool false, .slice none 0 0]) := by kernel_rfl

theorem zer121 : ∃ i z, Tryz.prog.info? 121 = some i ∧ i.zero = some z ∧ z.cells = List.toArray [.int .i64 0, .bool false, .slice none 0 0] := zero_mk zr121 rfl

theorem fld121_0 : FieldIs Tryz.prog 121 0 0 1 false := FieldIs.mk Tryz.underlying121 rfl rfl sz3 ag3 rfl

theorem fld121_1 : FieldIs Tryz.prog 121 1 1 1 false := FieldIs.mk Tryz.underlying121 rfl rfl sz4 ag4 rfl

theorem fld121_2 : FieldIs Tryz.prog 121 2 2 1 false := FieldIs.mk Tryz.underlying121 rfl rfl sz23 ag23 rfl

theorem ag121 : AggIs Tryz.prog 121 true := by unfold AggIs; kernel_rfl

theorem sz121 : SizeIs Tryz.prog 121 3 := by unfold SizeIs; kernel_rfl

theorem froz_c {x y : D} {xs ys : List D} (h : x.froz = y) (h2 : frozs xs = ys) : frozs (x :: xs) = y :: ys := by rw [frozs, h, h2]

theorem slice_froz {u : Bool} {sz : Nat} {xs ys : List D} (h : frozs xs = ys) : (D.slice u sz xs).froz = D.slice false sz ys := by rw [D.froz, h]

theorem frozs_to {τ : Type} {f g : τ → D} (h : ∀ x, (f x).froz = g x) (l : List τ) : frozs (l.map f) = l.map g := by
 rw [frozs_eq, List.map_map]; congr 1; funext x; exact h x

def intsD (l : List Int) : D := .slice false 1 (l.map fun n => D.int .i64 n)

def intsU (l : List Int) : D := .slice true 1 (l.map fun n => D.int .i64 n)

theorem intsU_fz (l : List Int) : (intsU l).froz = intsD l := slice_froz (frozs_map (fun _ => rfl) _)

def sumF {τ : Type} (f : τ → Nat) (xs : List τ) (k : Nat) : Nat := ((xs.take k).map f).sum

def bulkF {τ : Type} (f : τ → Nat) (xs : List τ) : Nat := xs.length + (xs.map f).sum

theorem sumF_zero {τ : Type} (f : τ → Nat) (xs : List τ) : sumF f xs 0 = 0 := rfl

theorem sumF_succ {τ : Type} [Inhabited τ] (f : τ → Nat) {xs : List τ} {k : Nat} (h : k < xs.length) : sumF f xs (k + 1) = sumF f xs k + f (xs.getD k default) := by
 have hg : xs.getD k default = xs[k] := by simp [h]
 unfold sumF
 rw [hg, List.take_succ_eq_append_getElem h, List.map_append, List.sum_append]
 simp only [List.map_cons, List.map_nil, List.sum_cons, List.sum_nil, Nat.add_zero]

theorem sumF_all {τ : Type} (f : τ → Nat) {xs : List τ} {k : Nat} (h : xs.length ≤ k) : sumF f xs k = (xs.map f).sum := by rw [sumF, List.take_of_length_le h]

theorem sumF_le {τ : Type} (f : τ → Nat) (xs : List τ) (k : Nat) : sumF f xs k ≤ (xs.map f).sum := by
 conv => rhs; rw [← List.take_append_drop k xs, List.map_append, List.sum_append]
 unfold sumF; omega

theorem le_sumL {x : Nat} : ∀ {l : List Nat}, x ∈ l → x ≤ l.sum
  | y :: l, h => by
    rw [List.sum_cons]
    rcases List.mem_cons.1 h with rfl | h
    · omega
    · have := le_sumL h; omega

theorem sum_zero {τ : Type} {f : τ → Nat} (h : ∀ x, f x = 0) : ∀ xs : List τ, (xs.map f).sum = 0
 | [] => rfl
 | x :: xs => by rw [List.map_cons, List.sum_cons, h x, sum_zero h xs]

theorem bulkF_len {τ : Type} {f : τ → Nat} {xs : List τ} {n : Nat} (h : bulkF f xs ≤ n) : xs.length ≤ n := by unfold bulkF at h; omega

theorem bulkF_mem {τ : Type} {f : τ → Nat} {xs : List τ} {n : Nat} (h : bulkF f xs ≤ n) : ∀ x ∈ xs, f x ≤ n := by
 intro x hx
 have : f x ≤ (xs.map f).sum := le_sumL (List.mem_map.2 ⟨x, hx, rfl⟩)
 unfold bulkF at h; omega

def szR (t : Nat) (left : Int) : Int := if (t : Int) ≤ left then left - t else -1

theorem szR_cases (t : Nat) (left : Int) : ((t : Int) ≤ left ∧ szR t left = left - t) ∨ (left < t ∧ szR t left = -1) := by
  unfold szR; split
  · exact .inl ⟨by assumption, rfl⟩
  · exact .inr ⟨by omega, rfl⟩

theorem szR_ok {t : Nat} {left : Int} (h : ¬ szR t left < 0) (h0 : 0 ≤ left) : t ≤ left.toNat ∧ szR t left = left - t := by
  rcases szR_cases t left with ⟨h1, h2⟩ | ⟨h1, h2⟩
  · exact ⟨by omega, h2⟩
  · exact absurd h2 (by omega)

theorem szS_cases (xs : List (List UInt8)) (left : Int) : ((bulkS xs : Int) ≤ left ∧ szS xs left = left - bulkS xs) ∨ (left < bulkS xs ∧ szS xs left = -1) := szR_cases (bulkS xs) left

theorem dr_int {S w k n} : DR S w (.int k n) (.int k n) [] := by rw [DR]; exact ⟨rfl, rfl⟩

theorem dr_bool {S w b} : DR S w (.bool b) (.bool b) [] := by rw [DR]; exact ⟨rfl, rfl⟩

theorem dr_str0 {S w} : DR S w (.str []) (.string .empty) [] := by rw [DR]; exact ⟨rfl, rfl⟩

theorem dr_agg {S w ds vs} (h : (ds.all D.one) = true) (hd : DRs S w ds vs []) : DR S w (.agg ds) (.agg vs.toArray) [] := by
 rw [DR]; exact ⟨fun c hc => List.all_eq_true.1 h c hc, vs, rfl, hd⟩

theorem drs_nil {S w} : DRs S w [] [] [] := by rw [DRs]; exact ⟨rfl, rfl⟩

theorem drs_cons {S w d v ds vs} (h : DR S w d v []) (h2 : DRs S w ds vs []) : DRs S w (d :: ds) (v :: vs) [] := by
 rw [DRs]; exact ⟨v, vs, [], [], rfl, rfl, h, h2⟩

theorem get_set {τ : Type} {l : List τ} {j : Nat} {y : τ} (h : j < l.length) : (l.set j y)[j]? = some y := by simp [h]

theorem set_back {τ : Type} {f : τ → D} [Inhabited τ] {l : List τ} {j : Nat} {a : D} (h : j < l.length) : ((l.map f).set j a).set j (f (l.getD j default)) = l.map f := by
  rw [List.set_set]
  apply List.ext_getElem
  · simp
  · intro q h1 h2
    rw [List.getElem_set]
    split
    · rename_i e; subst e; simp [h]
    · rfl

theorem set_hole {τ : Type} {f : τ → D} {l : List τ} {j : Nat} {a : D} {y : τ} : ((l.map f).set j a).set j (f y) = (l.set j y).map f := by
 rw [List.set_set, List.map_set]

structure Sgn where
 name : List UInt8
 kind : Int
 deriving DecidableEq, Inhabited

def Sgn.d (x : Sgn) : D := (.agg [(.str x.name), (.int .i64 x.kind)])

def Sgn.bulk (x : Sgn) : Nat := x.name.length

def Sgn.wide (x : Sgn) : Prop := (x.name.length ≤ 9223372036854775807)

theorem Sgn.parts {x : Sgn} {n : Nat} (h : x.bulk ≤ n) : (x.name.length ≤ n) := by unfold Sgn.bulk at h; omega

structure Lab where
 sig : Int
 up : Bool
 deriving DecidableEq, Inhabited

def Lab.d (x : Lab) : D := (.agg [(.int .i64 x.sig), (.bool (x.up))])

def Lab.bulk (x : Lab) : Nat := 0

def Lab.wide (x : Lab) : Prop := True

theorem Lab.eqv (x y : Lab) : ((decide (x.sig = y.sig) && (decide (x.up = y.up) && true))) = decide (x = y) := by cases x; cases y; simp

structure Arc where
 src : Int
 sig : Int
 up : Bool
 dst : Int
 deriving DecidableEq, Inhabited

def Arc.d (x : Arc) : D := (.agg [(.int .i64 x.src), (.int .i64 x.sig), (.bool (x.up)), (.int .i64 x.dst)])

def Arc.bulk (x : Arc) : Nat := 0

def Arc.wide (x : Arc) : Prop := True

structure Sgr where
 sigs : List (Sgn)
 codes : List (List UInt8)
 arcs : List (Arc)
 deriving DecidableEq, Inhabited

def Sgr.d (x : Sgr) : D := (.agg [(.slice false 2 (x.sigs.map Sgn.d)), (.slice false 1 (x.codes.map D.str)), (.slice false 4 (x.arcs.map Arc.d))])

def Sgr.u (x : Sgr) : D := (.agg [(.slice true 2 (x.sigs.map Sgn.d)), (.slice true 1 (x.codes.map D.str)), (.slice true 4 (x.arcs.map Arc.d))])

theorem Sgr.sol (x : Sgr) : (Sgr.u x).solid = true := by unfold Sgr.u; rw [D.solid]; exact (solids_c (solid_row (fun _ => rfl) _) (solids_c (solid_row (fun _ => rfl) _) (solids_c (solid_row (fun _ => rfl) _) rfl)))

def Sgr.bulk (x : Sgr) : Nat := bulkF Sgn.bulk x.sigs + bulkS x.codes + bulkF Arc.bulk x.arcs

def Sgr.wide (x : Sgr) : Prop := (x.sigs.length ≤ 9223372036854775807 ∧ ∀ y ∈ x.sigs, Sgn.wide y) ∧ (x.codes.length ≤ 9223372036854775807 ∧ ∀ y ∈ x.codes, y.length ≤ 9223372036854775807) ∧ (x.arcs.length ≤ 9223372036854775807 ∧ ∀ y ∈ x.arcs, Arc.wide y)

theorem Sgr.parts {x : Sgr} {n : Nat} (h : x.bulk ≤ n) : (bulkF Sgn.bulk x.sigs ≤ n) ∧ (bulkS x.codes ≤ n) ∧ (bulkF Arc.bulk x.arcs ≤ n) := by unfold Sgr.bulk at h; omega

structure Rcv where
 sig : Int
 up : Bool
 cubes : List (List UInt8)
 deriving DecidableEq, Inhabited

def Rcv.d (x : Rcv) : D := (.agg [(.int .i64 x.sig), (.bool (x.up)), (.slice false 1 (x.cubes.map D.str))])

def Rcv.u (x : Rcv) : D := (.agg [(.int .i64 x.sig), (.bool (x.up)), (.slice true 1 (x.cubes.map D.str))])

theorem Rcv.fz (x : Rcv) : (Rcv.u x).froz = Rcv.d x := congrArg D.agg (froz_c rfl (froz_c rfl (froz_c (slice_froz (frozs_map (fun _ => rfl) _)) rfl)))

theorem Rcv.sol (x : Rcv) : (Rcv.u x).solid = true := by unfold Rcv.u; rw [D.solid]; exact (solids_c rfl (solids_c rfl (solids_c (solid_row (fun _ => rfl) _) rfl)))

def Rcv.bulk (x : Rcv) : Nat := bulkS x.cubes

def Rcv.wide (x : Rcv) : Prop := (x.cubes.length ≤ 9223372036854775807 ∧ ∀ y ∈ x.cubes, y.length ≤ 9223372036854775807)

theorem Rcv.parts {x : Rcv} {n : Nat} (h : x.bulk ≤ n) : (bulkS x.cubes ≤ n) := by unfold Rcv.bulk at h; omega

structure Stp where
 src : Int
 dst : Int
 deriving DecidableEq, Inhabited

def Stp.d (x : Stp) : D := (.agg [(.int .i64 x.src), (.int .i64 x.dst)])

def Stp.bulk (x : Stp) : Nat := 0

def Stp.wide (x : Stp) : Prop := True

structure Pvi where
 st : Int
 sig : Int
 arc : Int
 deriving DecidableEq, Inhabited

def Pvi.d (x : Pvi) : D := (.agg [(.int .i64 x.st), (.int .i64 x.sig), (.int .i64 x.arc)])

def Pvi.bulk (x : Pvi) : Nat := 0

def Pvi.wide (x : Pvi) : Prop := True

def vX (x : Sgr) : List V := [(.d (.slice false 2 (x.sigs.map Sgn.d))), (.d (.slice false 1 (x.codes.map D.str))), (.d (.slice false 4 (x.arcs.map Arc.d)))]

theorem lX {h hb : Nat → Option Ob} {a b c : D} (h1 : ([a, b, c].all D.one) = true := by rfl) : Exp h hb (.agg [.d a, .d b, .d c]) (.agg [a, b, c]) [] := .lend (.agg (.cons (.d _) (.cons (.d _) (.cons (.d _) .nil))) h1)

theorem sp_laws_szSignal (x : Sgn) (left : Int) (h0 : 0 ≤ left) (h0u : left ≤ 1048576) (hw : x.wide) : Sp Tryz.prog 133 [(.agg [(.str x.name), (.int .i64 x.kind)]), (.int .i64 left)] [.any, .any] (.int .i64 (szR x.bulk left)) := by
 refine Sp_intro (lend := true) Tryz.func133 rfl rfl rfl (fun _ => rfl) (fun c hc hX => ?_)
 have ef := szR_cases (x.name.length) left
 unfold Sgn.wide at hw
 refine T_seq (T_region hc (Ch.s (.ptr 2000 0) (.box 2000 _ _ rfl (.aggD _)) (Ch.s (.d (.int .i64 0)) pa (Ch.nil (T_seq (T_region hc (Ch.s (.d (.int .i64 left)) pm ?_)))))))
 refine Ch.s (.ptr 2000 0) (.pure (.fldPtr _ _ _ rfl fld151_0 rfl)) (Ch.s (.d (.str x.name)) (.pure (.loadPtr1 _ _ rfl ag9 rfl rfl rfl)) (Ch.s (.d (.int .i64 (x.name.length : Int))) (.pure (.lenStr _ _ rfl Tryz.underlying9 rfl)) (Ch.s (.d (.int .i64 (left - (x.name.length : Int)))) (iX rfl rfl intV_subA) (Ch.s (.d (.int .i64 (left - (x.name.length : Int)))) pa (Ch.nil (T_seq (T_seq ?_)))))))
 refine T_region hc (Ch.s (.d (.int .i64 (left - (x.name.length : Int)))) pm (Ch.s (.d (.bool (decide ((left - (x.name.length : Int)) < 0)))) (iX rfl rfl rfl) (Ch.nil ?_)))
 refine T_condD (p := ((left - (x.name.length : Int)) < 0)) rfl (fun h1 => ?_) (fun h1 => ?_)
 ·
  refine T_seq (T_region hc (Ch.s (.d (.int .i64 (-1))) pa (Ch.nil (T_ret ?_))))
  exact endR [(.d (.int .i64 (-1)))] [] [] (.cons (.tmp 4 rfl) .nil) (.cons (.any _) (.cons (.any _) .nil)) (Exp.of (congrArg (D.int .i64) (by show _ = szR (x.name.length) left; omega)) (.d _)) rfl rfl
 ·
  refine T_skip (T_seq (T_region hc (Ch.s (.d (.int .i64 (left - (x.name.length : Int)))) pm (Ch.s (.d (.int .i64 (left - (x.name.length : Int)))) pa (Ch.nil (T_ret ?_))))))
  exact endR [(.d (.int .i64 (left - (x.name.length : Int))))] [] [] (.cons (.tmp 4 rfl) .nil) (.cons (.any _) (.cons (.any _) .nil)) (Exp.of (congrArg (D.int .i64) (by show _ = szR (x.name.length) left; omega)) (.d _)) rfl rfl

theorem sp_laws_szSignalS (xs : List (Sgn)) (left : Int) (h0 : 0 ≤ left) (h0u : left ≤ 1048576) (hn : xs.length ≤ 9223372036854775807) (hx : ∀ y ∈ xs, Sgn.wide y) : Sp Tryz.prog 66 [(.slice false 2 (xs.map Sgn.d)), (.int .i64 left)] [.any, .any] (.int .i64 (szR (bulkF Sgn.bulk xs) left)) := by
 refine Sp_intro (lend := true) Tryz.func66 rfl rfl rfl (fun _ => rfl) (fun c hc hX => ?_)
 refine T_seq (T_region hc (Ch.s (.d (.int .i64 0)) pa (Ch.nil (T_seq (T_region hc (Ch.s (.d (.int .i64 left)) pm (Ch.s (.d (.slice false 2 (xs.map Sgn.d))) pm ?_)))))))
 refine Ch.s (.d (.int .i64 (xs.length : Int))) (.pure (.len _ _ 151 rfl Tryz.underlying22 (.sh _ _) (by simp))) (Ch.s (.d (.int .i64 (left - (xs.length : Int)))) (iX rfl rfl intV_subA) (Ch.s (.d (.int .i64 (left - (xs.length : Int)))) pa (Ch.nil (T_seq (T_seq (T_region hc (Ch.s (.d (.int .i64 (left - (xs.length : Int)))) pm ?_)))))))
 refine Ch.s (.d (.bool (decide ((left - (xs.length : Int)) < 0)))) (iX rfl rfl rfl) (Ch.nil ?_)
 refine T_condD (p := ((left - (xs.length : Int)) < 0)) rfl (fun h1 => ?_) (fun h1 => ?_)
 ·
  refine T_seq (T_region hc (Ch.s (.d (.int .i64 (-1))) pa (Ch.nil (T_ret ?_))))
  exact endR [(.d (.int .i64 (-1)))] [] [] (.cons (.tmp 4 rfl) .nil) (.cons (.any _) (.cons (.any _) .nil)) (Exp.of (congrArg (D.int .i64) a55) (.d _)) rfl rfl
 ·
  refine T_skip (T_seq (T_seq (T_region hc (Ch.s (.d (.int .i64 0)) pa (Ch.nil (T_block ?_))))))
  refine T_loop (ι := Nat) (fun k => { n := 27, sl := [(0, (.d (.slice false 2 (xs.map Sgn.d)))), (1, (.d (.int .i64 (left - xs.length - sumF Sgn.bulk xs k)))), (5, (.d (.int .i64 (k : Int))))], hp := [], pin := [] }) (fun k => k ≤ xs.length ∧ 0 ≤ left - xs.length - sumF Sgn.bulk xs k) (fun k => xs.length - k) ⟨0, ⟨by omega, by rw [sumF_zero]; omega⟩, (Wk.of rfl rfl (ai rfl (ai (vI a94) (ai (vI a114) trivial))) trivial)⟩ (fun k hp0 => ?_)
  have hsl := sumF_le Sgn.bulk xs k; have hsc := szR_cases (Sgn.bulk (xs.getD k default)) (left - xs.length - sumF Sgn.bulk xs k)
  refine T_seq (T_seq (T_region hc (Ch.s (.d (.int .i64 (k : Int))) pm (Ch.s (.d (.slice false 2 (xs.map Sgn.d))) pm (Ch.s (.d (.int .i64 (xs.length : Int))) (.pure (.len _ _ 151 rfl Tryz.underlying22 (.sh _ _) (by simp))) (Ch.s (.d (.bool (decide ((k : Int) < (xs.length : Int))))) (iX rfl rfl rfl) (Ch.nil ?_)))))))
  refine T_condD (p := ((k : Int) < (xs.length : Int))) rfl (fun h2 => ?_) (fun h2 => ?_)
  ·
   try have hk := hx _ (getD_mem (l := xs) (j := k) (d := default) (by omega))
   try have hs1 := sumF_succ Sgn.bulk (xs := xs) (k := k) (by omega)
   try have hs2 := sumF_le Sgn.bulk xs (k + 1)
   refine T_skip (T_seq (T_block (T_seq (T_region hc (Ch.s (.d (.slice false 2 (xs.map Sgn.d))) pm (Ch.s (.d (.int .i64 (k : Int))) pm (Ch.s (.d (.ref (.agg [(.str ((xs.getD k default).name)), (.int .i64 ((xs.getD k default).kind))]))) (.pure (.idx _ _ _ 151 (k) rfl Tryz.underlying22 sz151 rfl rfl rfl get_mapA)) ?_)))))))
   refine Ch.s (.d (.agg [(.str ((xs.getD k default).name)), (.int .i64 ((xs.getD k default).kind))])) (.pure (.loadRefA _ _ rfl ag151 sz151 rfl)) (Ch.s (.d (.int .i64 (left - xs.length - sumF Sgn.bulk xs k))) pm (Ch.s (.d (.int .i64 (szR (xs.getD k default).bulk (left - xs.length - sumF Sgn.bulk xs k)))) (.call 23000 133 _ _ _ en133 rfl (.inl rfl) (.cons (.d _) (.cons (.d _) .nil)) rfl rfl (sp_laws_szSignal (xs.getD k default) (left - xs.length - sumF Sgn.bulk xs k) a23 a23 a46) (.skip _ _ (.skip _ _ .nil)) rfl) (Ch.s (.d (.int .i64 (szR (xs.getD k default).bulk (left - xs.length - sumF Sgn.bulk xs k)))) pa (Ch.nil (T_seq (T_region hc (Ch.s (.d (.int .i64 (szR (xs.getD k default).bulk (left - xs.length - sumF Sgn.bulk xs k)))) pm ?_)))))))
   refine Ch.s (.d (.bool (decide ((szR (xs.getD k default).bulk (left - xs.length - sumF Sgn.bulk xs k)) < 0)))) (iX rfl rfl rfl) (Ch.nil ?_)
   refine T_condD (p := ((szR (xs.getD k default).bulk (left - xs.length - sumF Sgn.bulk xs k)) < 0)) rfl (fun h3 => ?_) (fun h3 => ?_)
   ·
    refine T_seq (T_region hc (Ch.s (.d (.int .i64 (-1))) pa (Ch.nil (T_ret ?_))))
    exact endR [(.d (.int .i64 (-1)))] [] [] (.cons (.tmp 4 rfl) .nil) (.cons (.any _) (.cons (.any _) .nil)) (Exp.of (congrArg (D.int .i64) a55) (.d _)) rfl rfl
   ·
    refine T_skip (T_region hc (Ch.s (.d (.int .i64 (k : Int))) pm (Ch.s (.d (.int .i64 ((k : Int) + 1))) (iX rfl rfl intV_addA) (Ch.s (.d (.int .i64 ((k : Int) + 1))) pa (Ch.nil ?_)))))
    exact nx (k + 1) ⟨by omega, by rw [sumF_succ _ (by omega)]; omega⟩ (Wk.of rfl rfl (ai rfl (ai (vI a94) (ai (vI a114) trivial))) trivial)
  ·
   try have hk := hx _ (getD_mem (l := xs) (j := k) (d := default) (by omega))
   try have hs1 := sumF_succ Sgn.bulk (xs := xs) (k := k) (by omega)
   try have hs2 := sumF_le Sgn.bulk xs (k + 1)
   refine T_exit (T_seq (T_region hc (Ch.s (.d (.int .i64 (left - xs.length - sumF Sgn.bulk xs k))) pm (Ch.s (.d (.int .i64 (left - xs.length - sumF Sgn.bulk xs k))) pa (Ch.nil (T_ret ?_))))))
   exact endR [(.d (.int .i64 (left - xs.length - sumF Sgn.bulk xs k)))] [] [] (.cons (.tmp 4 rfl) .nil) (.cons (.any _) (.cons (.any _) .nil)) (Exp.of (congrArg (D.int .i64) a55) (.d _)) rfl rfl

theorem sp_laws_toSignal (x : Sgn) (hb : x.bulk ≤ 1048576) : Sp Tryz.prog 137 [(.agg [(.str x.name), (.int .i64 x.kind)])] [.any] (.agg [(.str x.name), (.int .i64 x.kind)]) := by
 refine Sp_intro (lend := true) Tryz.func137 rfl rfl rfl (fun _ => rfl) (fun c hc hX => ?_)
 have hp0 := Sgn.parts hb
 refine T_seq (T_region hc (Ch.s (.ptr 1000 0) (.box 1000 _ _ rfl (.aggD _)) (Ch.s (.ptr 2000 0) (.alloc 2000 _ rfl zer154) (Ch.nil (T_seq (T_region hc (Ch.s (.ptr 3000 0) (.alloc 3000 _ rfl zer154) ?_)))))))
 refine Ch.nil (T_seq (T_region hc (Ch.s (.ptr 1000 0) (.pure (.fldPtr _ _ _ rfl fld151_0 rfl)) (Ch.s (.d (.str x.name)) (.pure (.loadPtr1 _ _ rfl ag9 rfl rfl rfl)) (Ch.s (.ptr 3000 0) (.pure (.fldPtr _ _ _ rfl fld154_0 rfl)) (Ch.s .junk (.storePtr _ _ _ rfl rfl rfl (.one _ rfl) sz9 (lb rfl)) (Ch.nil ?_)))))))
 refine T_seq (T_region hc (Ch.s (.ptr 1000 1) (.pure (.fldPtr _ _ _ rfl fld151_1 rfl)) (Ch.s (.d (.int .i64 x.kind)) (.pure (.loadPtr1 _ _ rfl ag3 rfl rfl rfl)) (Ch.s (.ptr 3000 1) (.pure (.fldPtr _ _ _ rfl fld154_1 rfl)) (Ch.s .junk (.storePtr _ _ _ rfl rfl rfl (.one _ rfl) sz3 (lb rfl)) (Ch.nil (T_seq ?_)))))))
 refine T_region hc (Ch.s (.agg [(.d (.str x.name)), (.d (.int .i64 x.kind))]) (.pure (.loadPtrA _ _ rfl ag154 sz154 rfl rfl (lb rfl) rfl)) (Ch.s .junk (.storePtr _ _ _ rfl rfl rfl (.agg _ rfl) sz154 (lb rfl)) (Ch.nil (T_ret ?_))))
 exact endR [(.agg [(.d (.str x.name)), (.d (.int .i64 x.kind))])] [] [] (.cons (.cellA _ _ rfl rfl ag154 sz154) .nil) (.cons (.any _) .nil) (.agg (.cons (.d _) (.cons (.d _) .nil)) rfl) rfl rfl

theorem sp_laws_toSignalS (xs : List (Sgn)) (hb : bulkF Sgn.bulk xs ≤ 1048576) : Sp Tryz.prog 70 [(.slice false 2 (xs.map Sgn.d))] [.any] (.slice true 2 (xs.map Sgn.d)) := by
 refine Sp_intro (lend := true) Tryz.func70 rfl rfl rfl (fun _ => rfl) (fun c hc hX => ?_)
 have hn := bulkF_len hb
 refine T_seq (T_region hc (Ch.s (.c (.slice none 0 0)) pa (Ch.nil (T_seq (T_region hc (Ch.s (.d (.slice false 2 (xs.map Sgn.d))) pm (Ch.s (.d (.int .i64 (xs.length : Int))) (.pure (.len _ _ 151 rfl Tryz.underlying22 (.sh _ _) (by simp))) ?_)))))))
 refine Ch.s (.row 7000) (.make 7000 _ 154 _ _ (xs.length) (xs.length) rfl sty32 rfl rfl rfl rfl a43 a43 a43 (zeroD_mk (zd := (.agg [(.str []), (.int .i64 0)])) zr154 (by intro S w; exact dr_agg rfl (drs_cons dr_str0 (drs_cons dr_int drs_nil))) rfl)) (Ch.s (.row 7000) pa (Ch.nil (T_seq (T_seq (T_region hc (Ch.s (.d (.int .i64 0)) pa (Ch.nil ?_)))))))
 refine T_block ?_
 refine T_loop (ι := Nat) (fun k => { n := 23, sl := [(0, (.d (.slice false 2 (xs.map Sgn.d)))), (3, (.row 3)), (4, (.d (.int .i64 (k : Int))))], hp := [(3, (some (.row 2 ((fill xs default k).map Sgn.d))))], pin := [] }) (fun k => k ≤ xs.length) (fun k => xs.length - k) ⟨0, (by omega), (Wk.ren [(3, 7000)] rfl rfl rfl rfl (ai rfl (ai rfl (ai (vI a114) trivial))) (ai (oR a67) trivial))⟩ (fun k hp0 => ?_)
 refine T_seq (T_seq (T_region hc (Ch.s (.d (.int .i64 (k : Int))) pm (Ch.s (.d (.slice false 2 (xs.map Sgn.d))) pm (Ch.s (.d (.int .i64 (xs.length : Int))) (.pure (.len _ _ 151 rfl Tryz.underlying22 (.sh _ _) (by simp))) (Ch.s (.d (.bool (decide ((k : Int) < (xs.length : Int))))) (iX rfl rfl rfl) (Ch.nil ?_)))))))
 refine T_condD (p := ((k : Int) < (xs.length : Int))) rfl (fun h1 => ?_) (fun h1 => ?_)
 ·
  try have hk := bulkF_mem hb _ (getD_mem (l := xs) (j := k) (d := default) (by omega))
  refine T_skip (T_seq (T_block (T_region hc (Ch.s (.row 3) pm (Ch.s (.d (.int .i64 (k : Int))) pm (Ch.s (.d (.slice false 2 (xs.map Sgn.d))) pm (Ch.s (.d (.int .i64 (k : Int))) pm ?_)))))))
  refine Ch.s (.d (.ref (.agg [(.str ((xs.getD k default).name)), (.int .i64 ((xs.getD k default).kind))]))) (.pure (.idx _ _ _ 151 (k) rfl Tryz.underlying22 sz151 rfl rfl rfl get_mapA)) (Ch.s (.d (.agg [(.str ((xs.getD k default).name)), (.int .i64 ((xs.getD k default).kind))])) (.pure (.loadRefA _ _ rfl ag151 sz151 rfl)) (Ch.s (.d (.agg [(.str ((xs.getD k default).name)), (.int .i64 ((xs.getD k default).kind))])) (.call 20000 137 _ _ _ en137 rfl (.inl rfl) (.cons (.d _) .nil) rfl rfl (sp_laws_toSignal (xs.getD k default) a39) (.skip _ _ .nil) rfl) (Ch.s (.el 3 2 k 0) (.pure (.idxRow _ _ _ 154 (k) rfl Tryz.underlying32 sz154 rfl rfl rfl rfl a86)) (Ch.s .junk (.storeEl (y' := (.agg [(.str ((xs.getD k default).name)), (.int .i64 ((xs.getD k default).kind))])) _ _ _ rfl rfl rfl (.d _) rfl sz154 rfl get_mapA rfl rfl) (Ch.nil (T_region hc (Ch.s (.d (.int .i64 (k : Int))) pm ?_)))))))
  refine Ch.s (.d (.int .i64 ((k : Int) + 1))) (iX rfl rfl intV_addA) (Ch.s (.d (.int .i64 ((k : Int) + 1))) pa (Ch.nil ?_))
  exact nx (k + 1) (by omega) (Wk.of rfl rfl (ai rfl (ai rfl (ai (vI a114) trivial))) (ai (oR a67) trivial))
 ·
  try have hk := bulkF_mem hb _ (getD_mem (l := xs) (j := k) (d := default) (by omega))
  refine T_exit (T_seq (T_region hc (Ch.s (.row 3) pm (Ch.s (.row 3) pa (Ch.nil (T_ret ?_))))))
  exact endR [(.row 3)] [] [3] (.cons (.tmp 2 rfl) .nil) (.cons (.any _) .nil) (Exp.of (congrArg (D.slice true 2) (by rw [fill_all xs default (by omega)])) (.row rfl)) rfl rfl

theorem sp_laws_eqSignal (x y : Sgn) (hb : x.bulk ≤ 1048576) : Sp Tryz.prog 144 [(.agg [(.str x.name), (.int .i64 x.kind)]), (.agg [(.str y.name), (.int .i64 y.kind)])] [.any, .any] (.bool (decide (x = y))) := by
 refine Sp_intro (lend := true) Tryz.func144 rfl rfl rfl (fun _ => rfl) (fun c hc hX => ?_)
 have hp0 := Sgn.parts hb
 refine T_seq (T_region hc (Ch.s (.ptr 2000 0) (.box 2000 _ _ rfl (.aggD _)) (Ch.s (.ptr 3000 0) (.box 3000 _ _ rfl (.aggD _)) (Ch.s (.d (.bool false)) pa (Ch.nil (T_seq (T_seq ?_)))))))
 refine T_region hc (Ch.s (.ptr 2000 0) (.pure (.fldPtr _ _ _ rfl fld154_0 rfl)) (Ch.s (.d (.str x.name)) (.pure (.loadPtr1 _ _ rfl ag9 rfl rfl rfl)) (Ch.s (.ptr 3000 0) (.pure (.fldPtr _ _ _ rfl fld154_0 rfl)) (Ch.s (.d (.str y.name)) (.pure (.loadPtr1 _ _ rfl ag9 rfl rfl rfl)) (Ch.s (.d (.bool (!(decide (x.name = y.name))))) (.pure (.str _ _ _ _ _ rfl rfl rfl rfl)) (Ch.nil ?_))))))
 refine T_condN (b := (decide (x.name = y.name))) rfl (fun h1 => ?_) (fun h1 => ?_)
 ·
  replace h1 := of_decide_eq_false h1
  refine T_seq (T_region hc (Ch.s (.d (.bool false)) pa (Ch.nil (T_ret ?_))))
  exact endR [(.d (.bool false))] [] [] (.cons (.tmp 4 rfl) .nil) (.cons (.any _) (.cons (.any _) .nil)) (Exp.of (congrArg D.bool a122) (.d _)) rfl rfl
 ·
  replace h1 := of_decide_eq_true h1
  refine T_skip (T_seq (T_seq (T_region hc (Ch.s (.ptr 2000 1) (.pure (.fldPtr _ _ _ rfl fld154_1 rfl)) (Ch.s (.d (.int .i64 x.kind)) (.pure (.loadPtr1 _ _ rfl ag3 rfl rfl rfl)) (Ch.s (.ptr 3000 1) (.pure (.fldPtr _ _ _ rfl fld154_1 rfl)) (Ch.s (.d (.int .i64 y.kind)) (.pure (.loadPtr1 _ _ rfl ag3 rfl rfl rfl)) ?_)))))))
  refine Ch.s (.d (.bool (!(decide (x.kind = y.kind))))) (iX rfl rfl rfl) (Ch.nil ?_)
  refine T_condN (b := (decide (x.kind = y.kind))) rfl (fun h2 => ?_) (fun h2 => ?_)
  ·
   replace h2 := of_decide_eq_false h2
   refine T_seq (T_region hc (Ch.s (.d (.bool false)) pa (Ch.nil (T_ret ?_))))
   exact endR [(.d (.bool false))] [] [] (.cons (.tmp 4 rfl) .nil) (.cons (.any _) (.cons (.any _) .nil)) (Exp.of (congrArg D.bool a122) (.d _)) rfl rfl
  ·
   replace h2 := of_decide_eq_true h2
   refine T_skip (T_seq (T_region hc (Ch.s (.d (.bool true)) pa (Ch.nil (T_ret ?_)))))
   exact endR [(.d (.bool true))] [] [] (.cons (.tmp 4 rfl) .nil) (.cons (.any _) (.cons (.any _) .nil)) (Exp.of (congrArg D.bool a122) (.d _)) rfl rfl

theorem sp_laws_eqSignalS (xs ys : List (Sgn)) (hb : bulkF Sgn.bulk xs ≤ 1048576) : Sp Tryz.prog 74 [(.slice false 2 (xs.map Sgn.d)), (.slice false 2 (ys.map Sgn.d))] [.any, .any] (.bool (decide (xs = ys))) := by
 refine Sp_intro (lend := true) Tryz.func74 rfl rfl rfl (fun _ => rfl) (fun c hc hX => ?_)
 have hn := bulkF_len hb
 refine T_seq (T_region hc (Ch.s (.d (.bool false)) pa (Ch.nil (T_seq (T_seq (T_region hc (Ch.s (.d (.slice false 2 (xs.map Sgn.d))) pm ?_)))))))
 refine Ch.s (.d (.int .i64 (xs.length : Int))) (.pure (.len _ _ 154 rfl Tryz.underlying32 (.sh _ _) (by simp))) (Ch.s (.d (.slice false 2 (ys.map Sgn.d))) pm (Ch.s (.d (.int .i64 (ys.length : Int))) (.pure (.len _ _ 154 rfl Tryz.underlying32 (.sh _ _) (by simp))) (Ch.s (.d (.bool (!(decide ((xs.length : Int) = (ys.length : Int)))))) (iX rfl rfl rfl) (Ch.nil ?_))))
 refine T_condN (b := (decide ((xs.length : Int) = (ys.length : Int)))) rfl (fun h1 => ?_) (fun h1 => ?_)
 ·
  replace h1 := of_decide_eq_false h1
  refine T_seq (T_region hc (Ch.s (.d (.bool false)) pa (Ch.nil (T_ret ?_))))
  exact endR [(.d (.bool false))] [] [] (.cons (.tmp 4 rfl) .nil) (.cons (.any _) (.cons (.any _) .nil)) (Exp.of (congrArg D.bool (by exact eqL_len (by omega))) (.d _)) rfl rfl
 ·
  replace h1 := of_decide_eq_true h1
  refine T_skip (T_seq (T_seq (T_region hc (Ch.s (.d (.int .i64 0)) pa (Ch.nil (T_block ?_))))))
  refine T_loop (ι := Nat) (fun k => { n := 27, sl := [(0, (.d (.slice false 2 (xs.map Sgn.d)))), (1, (.d (.slice false 2 (ys.map Sgn.d)))), (5, (.d (.int .i64 (k : Int))))], hp := [], pin := [] }) (fun k => k ≤ xs.length ∧ ∀ j, j < k → xs.getD j default = ys.getD j default) (fun k => xs.length - k) ⟨0, ⟨by omega, fun j hj => by omega⟩, (Wk.of rfl rfl (ai rfl (ai rfl (ai (vI a114) trivial))) trivial)⟩ (fun k hp0 => ?_)
  refine T_seq (T_seq (T_region hc (Ch.s (.d (.int .i64 (k : Int))) pm (Ch.s (.d (.slice false 2 (xs.map Sgn.d))) pm (Ch.s (.d (.int .i64 (xs.length : Int))) (.pure (.len _ _ 154 rfl Tryz.underlying32 (.sh _ _) (by simp))) (Ch.s (.d (.bool (decide ((k : Int) < (xs.length : Int))))) (iX rfl rfl rfl) (Ch.nil ?_)))))))
  refine T_condD (p := ((k : Int) < (xs.length : Int))) rfl (fun h2 => ?_) (fun h2 => ?_)
  ·
   try have hk := bulkF_mem hb _ (getD_mem (l := xs) (j := k) (d := default) (by omega))
   refine T_skip (T_seq (T_block (T_seq ?_)))
   refine T_regionD hc (by kernel_rfl) ?_
   refine ChD.s (.d (.slice false 2 (xs.map Sgn.d))) [] pm (ChD.s (.d (.int .i64 (k : Int))) [] pm (ChD.s (.d (.ref (.agg [(.str ((xs.getD k default).name)), (.int .i64 ((xs.getD k default).kind))]))) [] (.pure (.idx _ _ _ 154 (k) rfl Tryz.underlying32 sz154 rfl rfl rfl get_mapA)) (ChD.s (.d (.agg [(.str ((xs.getD k default).name)), (.int .i64 ((xs.getD k default).kind))])) [] (.pure (.loadRefA _ _ rfl ag154 sz154 rfl)) (ChD.s (.d (.slice false 2 (ys.map Sgn.d))) [] pm (ChD.s (.d (.int .i64 (k : Int))) [] pm (ChD.s (.d (.ref (.agg [(.str ((ys.getD k default).name)), (.int .i64 ((ys.getD k default).kind))]))) [] (.pure (.idx _ _ _ 154 (k) rfl Tryz.underlying32 sz154 rfl rfl rfl get_mapA)) (ChD.s (.d (.agg [(.str ((ys.getD k default).name)), (.int .i64 ((ys.getD k default).kind))])) [] (.pure (.loadRefA _ _ rfl ag154 sz154 rfl)) ?_)))))))
   refine ChD.s (.d (.bool (decide ((xs.getD k default) = (ys.getD k default))))) [] (.call 25000 144 _ _ _ en144 rfl (.inl rfl) (.cons (.d _) (.cons (.d _) .nil)) rfl rfl (sp_laws_eqSignal (xs.getD k default) (ys.getD k default) a39) (.skip _ _ (.skip _ _ .nil)) rfl) (ChD.s (.d (.bool (!(decide ((xs.getD k default) = (ys.getD k default)))))) [] (.pure (.not _ _ rfl rfl)) ?_)
   refine ChD.nil (And.intro ?_ (by kernel_rfl))
   refine T_condN (b := (decide ((xs.getD k default) = (ys.getD k default)))) rfl (fun h3 => ?_) (fun h3 => ?_)
   ·
    replace h3 := of_decide_eq_false h3
    refine T_seq (T_region hc (Ch.s (.d (.bool false)) pa (Ch.nil (T_ret ?_))))
    exact endR [(.d (.bool false))] [] [] (.cons (.tmp 4 rfl) .nil) (.cons (.any _) (.cons (.any _) .nil)) (Exp.of (congrArg D.bool a118) (.d _)) rfl rfl
   ·
    replace h3 := of_decide_eq_true h3
    refine T_skip (T_region hc (Ch.s (.d (.int .i64 (k : Int))) pm (Ch.s (.d (.int .i64 ((k : Int) + 1))) (iX rfl rfl intV_addA) (Ch.s (.d (.int .i64 ((k : Int) + 1))) pa (Ch.nil ?_)))))
    exact nx (k + 1) ⟨by omega, upto_succ hp0.2 (by assumption)⟩ (Wk.of rfl rfl (ai rfl (ai rfl (ai (vI a114) trivial))) trivial)
  ·
   try have hk := bulkF_mem hb _ (getD_mem (l := xs) (j := k) (d := default) (by omega))
   refine T_exit (T_seq (T_region hc (Ch.s (.d (.bool true)) pa (Ch.nil (T_ret ?_)))))
   exact endR [(.d (.bool true))] [] [] (.cons (.tmp 4 rfl) .nil) (.cons (.any _) (.cons (.any _) .nil)) (Exp.of (congrArg D.bool a101) (.d _)) rfl rfl

theorem sp_laws_szArcS (xs : List (Arc)) (left : Int) (h0 : 0 ≤ left) (h0u : left ≤ 1048576) (hn : xs.length ≤ 9223372036854775807) (hx : ∀ y ∈ xs, Arc.wide y) : Sp Tryz.prog 68 [(.slice false 4 (xs.map Arc.d)), (.int .i64 left)] [.any, .any] (.int .i64 (szR (bulkF Arc.bulk xs) left)) := by
 refine Sp_intro (lend := true) Tryz.func68 rfl rfl rfl (fun _ => rfl) (fun c hc hX => ?_)
 have hz : (xs.map Arc.bulk).sum = 0 := sum_zero (fun _ => rfl) xs
 refine T_seq (T_region hc (Ch.s (.d (.int .i64 0)) pa (Ch.nil (T_seq (T_region hc (Ch.s (.d (.int .i64 left)) pm (Ch.s (.d (.slice false 4 (xs.map Arc.d))) pm ?_)))))))
 refine Ch.s (.d (.int .i64 (xs.length : Int))) (.pure (.len _ _ 157 rfl Tryz.underlying24 (.sh _ _) (by simp))) (Ch.s (.d (.int .i64 (left - (xs.length : Int)))) (iX rfl rfl intV_subA) (Ch.s (.d (.int .i64 (left - (xs.length : Int)))) pa (Ch.nil (T_seq (T_seq (T_region hc (Ch.s (.d (.int .i64 (left - (xs.length : Int)))) pm ?_)))))))
 refine Ch.s (.d (.bool (decide ((left - (xs.length : Int)) < 0)))) (iX rfl rfl rfl) (Ch.nil ?_)
 refine T_condD (p := ((left - (xs.length : Int)) < 0)) rfl (fun h1 => ?_) (fun h1 => ?_)
 ·
  refine T_seq (T_region hc (Ch.s (.d (.int .i64 (-1))) pa (Ch.nil (T_ret ?_))))
  exact endR [(.d (.int .i64 (-1)))] [] [] (.cons (.tmp 4 rfl) .nil) (.cons (.any _) (.cons (.any _) .nil)) (Exp.of (congrArg (D.int .i64) (by rw [szR, bulkF, hz]; split <;> omega)) (.d _)) rfl rfl
 ·
  refine T_skip (T_seq (T_region hc (Ch.s (.d (.int .i64 (left - (xs.length : Int)))) pm (Ch.s (.d (.int .i64 (left - (xs.length : Int)))) pa (Ch.nil (T_ret ?_))))))
  exact endR [(.d (.int .i64 (left - (xs.length : Int))))] [] [] (.cons (.tmp 4 rfl) .nil) (.cons (.any _) (.cons (.any _) .nil)) (Exp.of (congrArg (D.int .i64) (by rw [szR, bulkF, hz]; split <;> omega)) (.d _)) rfl rfl

theorem sp_laws_toArc (x : Arc) (hb : x.bulk ≤ 1048576) : Sp Tryz.prog 138 [(.agg [(.int .i64 x.src), (.int .i64 x.sig), (.bool (x.up)), (.int .i64 x.dst)])] [.any] (.agg [(.int .i64 x.src), (.int .i64 x.sig), (.bool (x.up)), (.int .i64 x.dst)]) := by
 refine Sp_intro (lend := true) Tryz.func138 rfl rfl rfl (fun _ => rfl) (fun c hc hX => ?_)
 refine T_seq (T_region hc (Ch.s (.ptr 1000 0) (.box 1000 _ _ rfl (.aggD _)) (Ch.s (.ptr 2000 0) (.alloc 2000 _ rfl zer125) (Ch.nil (T_seq (T_region hc (Ch.s (.ptr 3000 0) (.alloc 3000 _ rfl zer125) ?_)))))))
 refine Ch.nil (T_seq (T_region hc (Ch.s (.ptr 1000 0) (.pure (.fldPtr _ _ _ rfl fld157_0 rfl)) (Ch.s (.d (.int .i64 x.src)) (.pure (.loadPtr1 _ _ rfl ag3 rfl rfl rfl)) (Ch.s (.ptr 3000 0) (.pure (.fldPtr _ _ _ rfl fld125_0 rfl)) (Ch.s .junk (.storePtr _ _ _ rfl rfl rfl (.one _ rfl) sz3 (lb rfl)) (Ch.nil ?_)))))))
 refine T_seq (T_region hc (Ch.s (.ptr 1000 1) (.pure (.fldPtr _ _ _ rfl fld157_1 rfl)) (Ch.s (.d (.int .i64 x.sig)) (.pure (.loadPtr1 _ _ rfl ag3 rfl rfl rfl)) (Ch.s (.ptr 3000 1) (.pure (.fldPtr _ _ _ rfl fld125_1 rfl)) (Ch.s .junk (.storePtr _ _ _ rfl rfl rfl (.one _ rfl) sz3 (lb rfl)) (Ch.nil (T_seq ?_)))))))
 refine T_region hc (Ch.s (.ptr 1000 2) (.pure (.fldPtr _ _ _ rfl fld157_2 rfl)) (Ch.s (.d (.bool (x.up))) (.pure (.loadPtr1 _ _ rfl ag4 rfl rfl rfl)) (Ch.s (.ptr 3000 2) (.pure (.fldPtr _ _ _ rfl fld125_2 rfl)) (Ch.s .junk (.storePtr _ _ _ rfl rfl rfl (.one _ rfl) sz4 (lb rfl)) (Ch.nil (T_seq (T_region hc ?_)))))))
 refine Ch.s (.ptr 1000 3) (.pure (.fldPtr _ _ _ rfl fld157_3 rfl)) (Ch.s (.d (.int .i64 x.dst)) (.pure (.loadPtr1 _ _ rfl ag3 rfl rfl rfl)) (Ch.s (.ptr 3000 3) (.pure (.fldPtr _ _ _ rfl fld125_3 rfl)) (Ch.s .junk (.storePtr _ _ _ rfl rfl rfl (.one _ rfl) sz3 (lb rfl)) (Ch.nil (T_seq (T_region hc (Ch.s (.agg [(.d (.int .i64 x.src)), (.d (.int .i64 x.sig)), (.d (.bool (x.up))), (.d (.int .i64 x.dst))]) (.pure (.loadPtrA _ _ rfl ag125 sz125 rfl rfl (lb rfl) rfl)) ?_)))))))
 refine Ch.s .junk (.storePtr _ _ _ rfl rfl rfl (.agg _ rfl) sz125 (lb rfl)) (Ch.nil (T_ret ?_))
 exact endR [(.agg [(.d (.int .i64 x.src)), (.d (.int .i64 x.sig)), (.d (.bool (x.up))), (.d (.int .i64 x.dst))])] [] [] (.cons (.cellA _ _ rfl rfl ag125 sz125) .nil) (.cons (.any _) .nil) (.agg (.cons (.d _) (.cons (.d _) (.cons (.d _) (.cons (.d _) .nil)))) rfl) rfl rfl

theorem sp_laws_toArcS (xs : List (Arc)) (hb : bulkF Arc.bulk xs ≤ 1048576) : Sp Tryz.prog 72 [(.slice false 4 (xs.map Arc.d))] [.any] (.slice true 4 (xs.map Arc.d)) := by
 refine Sp_intro (lend := true) Tryz.func72 rfl rfl rfl (fun _ => rfl) (fun c hc hX => ?_)
 have hn := bulkF_len hb
 refine T_seq (T_region hc (Ch.s (.c (.slice none 0 0)) pa (Ch.nil (T_seq (T_region hc (Ch.s (.d (.slice false 4 (xs.map Arc.d))) pm (Ch.s (.d (.int .i64 (xs.length : Int))) (.pure (.len _ _ 157 rfl Tryz.underlying24 (.sh _ _) (by simp))) ?_)))))))
 refine Ch.s (.row 7000) (.make 7000 _ 125 _ _ (xs.length) (xs.length) rfl sty33 rfl rfl rfl rfl a43 a43 a43 (zeroD_mk (zd := (.agg [(.int .i64 0), (.int .i64 0), (.bool false), (.int .i64 0)])) zr125 (by intro S w; exact dr_agg rfl (drs_cons dr_int (drs_cons dr_int (drs_cons dr_bool (drs_cons dr_int drs_nil))))) rfl)) (Ch.s (.row 7000) pa (Ch.nil (T_seq (T_seq (T_region hc (Ch.s (.d (.int .i64 0)) pa (Ch.nil ?_)))))))
 refine T_block ?_
 refine T_loop (ι := Nat) (fun k => { n := 23, sl := [(0, (.d (.slice false 4 (xs.map Arc.d)))), (3, (.row 3)), (4, (.d (.int .i64 (k : Int))))], hp := [(3, (some (.row 4 ((fill xs default k).map Arc.d))))], pin := [] }) (fun k => k ≤ xs.length) (fun k => xs.length - k) ⟨0, (by omega), (Wk.ren [(3, 7000)] rfl rfl rfl rfl (ai rfl (ai rfl (ai (vI a114) trivial))) (ai (oR a67) trivial))⟩ (fun k hp0 => ?_)
 refine T_seq (T_seq (T_region hc (Ch.s (.d (.int .i64 (k : Int))) pm (Ch.s (.d (.slice false 4 (xs.map Arc.d))) pm (Ch.s (.d (.int .i64 (xs.length : Int))) (.pure (.len _ _ 157 rfl Tryz.underlying24 (.sh _ _) (by simp))) (Ch.s (.d (.bool (decide ((k : Int) < (xs.length : Int))))) (iX rfl rfl rfl) (Ch.nil ?_)))))))
 refine T_condD (p := ((k : Int) < (xs.length : Int))) rfl (fun h1 => ?_) (fun h1 => ?_)
 ·
  try have hk := bulkF_mem hb _ (getD_mem (l := xs) (j := k) (d := default) (by omega))
  refine T_skip (T_seq (T_block (T_region hc (Ch.s (.row 3) pm (Ch.s (.d (.int .i64 (k : Int))) pm (Ch.s (.d (.slice false 4 (xs.map Arc.d))) pm (Ch.s (.d (.int .i64 (k : Int))) pm ?_)))))))
  refine Ch.s (.d (.ref (.agg [(.int .i64 ((xs.getD k default).src)), (.int .i64 ((xs.getD k default).sig)), (.bool ((xs.getD k default).up)), (.int .i64 ((xs.getD k default).dst))]))) (.pure (.idx _ _ _ 157 (k) rfl Tryz.underlying24 sz157 rfl rfl rfl get_mapA)) (Ch.s (.d (.agg [(.int .i64 ((xs.getD k default).src)), (.int .i64 ((xs.getD k default).sig)), (.bool ((xs.getD k default).up)), (.int .i64 ((xs.getD k default).dst))])) (.pure (.loadRefA _ _ rfl ag157 sz157 rfl)) (Ch.s (.d (.agg [(.int .i64 ((xs.getD k default).src)), (.int .i64 ((xs.getD k default).sig)), (.bool ((xs.getD k default).up)), (.int .i64 ((xs.getD k default).dst))])) (.call 20000 138 _ _ _ en138 rfl (.inl rfl) (.cons (.d _) .nil) rfl rfl (sp_laws_toArc (xs.getD k default) a39) (.skip _ _ .nil) rfl) (Ch.s (.el 3 4 k 0) (.pure (.idxRow _ _ _ 125 (k) rfl Tryz.underlying33 sz125 rfl rfl rfl rfl a86)) (Ch.s .junk (.storeEl (y' := (.agg [(.int .i64 ((xs.getD k default).src)), (.int .i64 ((xs.getD k default).sig)), (.bool ((xs.getD k default).up)), (.int .i64 ((xs.getD k default).dst))])) _ _ _ rfl rfl rfl (.d _) rfl sz125 rfl get_mapA rfl rfl) (Ch.nil (T_region hc (Ch.s (.d (.int .i64 (k : Int))) pm ?_)))))))
  refine Ch.s (.d (.int .i64 ((k : Int) + 1))) (iX rfl rfl intV_addA) (Ch.s (.d (.int .i64 ((k : Int) + 1))) pa (Ch.nil ?_))
  exact nx (k + 1) (by omega) (Wk.of rfl rfl (ai rfl (ai rfl (ai (vI a114) trivial))) (ai (oR a67) trivial))
 ·
  try have hk := bulkF_mem hb _ (getD_mem (l := xs) (j := k) (d := default) (by omega))
  refine T_exit (T_seq (T_region hc (Ch.s (.row 3) pm (Ch.s (.row 3) pa (Ch.nil (T_ret ?_))))))
  exact endR [(.row 3)] [] [3] (.cons (.tmp 2 rfl) .nil) (.cons (.any _) .nil) (Exp.of (congrArg (D.slice true 4) (by rw [fill_all xs default (by omega)])) (.row rfl)) rfl rfl

theorem sp_laws_eqArc (x y : Arc) (hb : x.bulk ≤ 1048576) : Sp Tryz.prog 145 [(.agg [(.int .i64 x.src), (.int .i64 x.sig), (.bool (x.up)), (.int .i64 x.dst)]), (.agg [(.int .i64 y.src), (.int .i64 y.sig), (.bool (y.up)), (.int .i64 y.dst)])] [.any, .any] (.bool (decide (x = y))) := by
 refine Sp_intro (lend := true) Tryz.func145 rfl rfl rfl (fun _ => rfl) (fun c hc hX => ?_)
 refine T_seq (T_region hc (Ch.s (.ptr 2000 0) (.box 2000 _ _ rfl (.aggD _)) (Ch.s (.ptr 3000 0) (.box 3000 _ _ rfl (.aggD _)) (Ch.s (.d (.bool false)) pa (Ch.nil (T_seq (T_seq ?_)))))))
 refine T_region hc (Ch.s (.ptr 2000 0) (.pure (.fldPtr _ _ _ rfl fld125_0 rfl)) (Ch.s (.d (.int .i64 x.src)) (.pure (.loadPtr1 _ _ rfl ag3 rfl rfl rfl)) (Ch.s (.ptr 3000 0) (.pure (.fldPtr _ _ _ rfl fld125_0 rfl)) (Ch.s (.d (.int .i64 y.src)) (.pure (.loadPtr1 _ _ rfl ag3 rfl rfl rfl)) (Ch.s (.d (.bool (!(decide (x.src = y.src))))) (iX rfl rfl rfl) (Ch.nil ?_))))))
 refine T_condN (b := (decide (x.src = y.src))) rfl (fun h1 => ?_) (fun h1 => ?_)
 ·
  replace h1 := of_decide_eq_false h1
  refine T_seq (T_region hc (Ch.s (.d (.bool false)) pa (Ch.nil (T_ret ?_))))
  exact endR [(.d (.bool false))] [] [] (.cons (.tmp 4 rfl) .nil) (.cons (.any _) (.cons (.any _) .nil)) (Exp.of (congrArg D.bool a122) (.d _)) rfl rfl
 ·
  replace h1 := of_decide_eq_true h1
  refine T_skip (T_seq (T_seq (T_region hc (Ch.s (.ptr 2000 1) (.pure (.fldPtr _ _ _ rfl fld125_1 rfl)) (Ch.s (.d (.int .i64 x.sig)) (.pure (.loadPtr1 _ _ rfl ag3 rfl rfl rfl)) (Ch.s (.ptr 3000 1) (.pure (.fldPtr _ _ _ rfl fld125_1 rfl)) (Ch.s (.d (.int .i64 y.sig)) (.pure (.loadPtr1 _ _ rfl ag3 rfl rfl rfl)) ?_)))))))
  refine Ch.s (.d (.bool (!(decide (x.sig = y.sig))))) (iX rfl rfl rfl) (Ch.nil ?_)
  refine T_condN (b := (decide (x.sig = y.sig))) rfl (fun h2 => ?_) (fun h2 => ?_)
  ·
   replace h2 := of_decide_eq_false h2
   refine T_seq (T_region hc (Ch.s (.d (.bool false)) pa (Ch.nil (T_ret ?_))))
   exact endR [(.d (.bool false))] [] [] (.cons (.tmp 4 rfl) .nil) (.cons (.any _) (.cons (.any _) .nil)) (Exp.of (congrArg D.bool a122) (.d _)) rfl rfl
  ·
   replace h2 := of_decide_eq_true h2
   refine T_skip (T_seq (T_seq (T_region hc (Ch.s (.ptr 2000 2) (.pure (.fldPtr _ _ _ rfl fld125_2 rfl)) (Ch.s (.d (.bool (x.up))) (.pure (.loadPtr1 _ _ rfl ag4 rfl rfl rfl)) (Ch.s (.ptr 3000 2) (.pure (.fldPtr _ _ _ rfl fld125_2 rfl)) (Ch.s (.d (.bool (y.up))) (.pure (.loadPtr1 _ _ rfl ag4 rfl rfl rfl)) ?_)))))))
   refine Ch.s (.d (.bool (!(decide ((x.up) = (y.up)))))) (.pure (.neB _ _ _ _ rfl Tryz.underlying4 rfl rfl)) (Ch.nil ?_)
   refine T_condN (b := (decide ((x.up) = (y.up)))) rfl (fun h3 => ?_) (fun h3 => ?_)
   ·
    replace h3 := of_decide_eq_false h3
    refine T_seq (T_region hc (Ch.s (.d (.bool false)) pa (Ch.nil (T_ret ?_))))
    exact endR [(.d (.bool false))] [] [] (.cons (.tmp 4 rfl) .nil) (.cons (.any _) (.cons (.any _) .nil)) (Exp.of (congrArg D.bool a122) (.d _)) rfl rfl
   ·
    replace h3 := of_decide_eq_true h3
    refine T_skip (T_seq (T_seq (T_region hc (Ch.s (.ptr 2000 3) (.pure (.fldPtr _ _ _ rfl fld125_3 rfl)) (Ch.s (.d (.int .i64 x.dst)) (.pure (.loadPtr1 _ _ rfl ag3 rfl rfl rfl)) (Ch.s (.ptr 3000 3) (.pure (.fldPtr _ _ _ rfl fld125_3 rfl)) (Ch.s (.d (.int .i64 y.dst)) (.pure (.loadPtr1 _ _ rfl ag3 rfl rfl rfl)) ?_)))))))
    refine Ch.s (.d (.bool (!(decide (x.dst = y.dst))))) (iX rfl rfl rfl) (Ch.nil ?_)
    refine T_condN (b := (decide (x.dst = y.dst))) rfl (fun h4 => ?_) (fun h4 => ?_)
    ·
     replace h4 := of_decide_eq_false h4
     refine T_seq (T_region hc (Ch.s (.d (.bool false)) pa (Ch.nil (T_ret ?_))))
     exact endR [(.d (.bool false))] [] [] (.cons (.tmp 4 rfl) .nil) (.cons (.any _) (.cons (.any _) .nil)) (Exp.of (congrArg D.bool a122) (.d _)) rfl rfl
    ·
     replace h4 := of_decide_eq_true h4
     refine T_skip (T_seq (T_region hc (Ch.s (.d (.bool true)) pa (Ch.nil (T_ret ?_)))))
     exact endR [(.d (.bool true))] [] [] (.cons (.tmp 4 rfl) .nil) (.cons (.any _) (.cons (.any _) .nil)) (Exp.of (congrArg D.bool a122) (.d _)) rfl rfl

theorem sp_laws_eqArcS (xs ys : List (Arc)) (hb : bulkF Arc.bulk xs ≤ 1048576) : Sp Tryz.prog 75 [(.slice false 4 (xs.map Arc.d)), (.slice false 4 (ys.map Arc.d))] [.any, .any] (.bool (decide (xs = ys))) := by
 refine Sp_intro (lend := true) Tryz.func75 rfl rfl rfl (fun _ => rfl) (fun c hc hX => ?_)
 have hn := bulkF_len hb
 refine T_seq (T_region hc (Ch.s (.d (.bool false)) pa (Ch.nil (T_seq (T_seq (T_region hc (Ch.s (.d (.slice false 4 (xs.map Arc.d))) pm ?_)))))))
 refine Ch.s (.d (.int .i64 (xs.length : Int))) (.pure (.len _ _ 125 rfl Tryz.underlying33 (.sh _ _) (by simp))) (Ch.s (.d (.slice false 4 (ys.map Arc.d))) pm (Ch.s (.d (.int .i64 (ys.length : Int))) (.pure (.len _ _ 125 rfl Tryz.underlying33 (.sh _ _) (by simp))) (Ch.s (.d (.bool (!(decide ((xs.length : Int) = (ys.length : Int)))))) (iX rfl rfl rfl) (Ch.nil ?_))))
 refine T_condN (b := (decide ((xs.length : Int) = (ys.length : Int)))) rfl (fun h1 => ?_) (fun h1 => ?_)
 ·
  replace h1 := of_decide_eq_false h1
  refine T_seq (T_region hc (Ch.s (.d (.bool false)) pa (Ch.nil (T_ret ?_))))
  exact endR [(.d (.bool false))] [] [] (.cons (.tmp 4 rfl) .nil) (.cons (.any _) (.cons (.any _) .nil)) (Exp.of (congrArg D.bool (by exact eqL_len (by omega))) (.d _)) rfl rfl
 ·
  replace h1 := of_decide_eq_true h1
  refine T_skip (T_seq (T_seq (T_region hc (Ch.s (.d (.int .i64 0)) pa (Ch.nil (T_block ?_))))))
  refine T_loop (ι := Nat) (fun k => { n := 27, sl := [(0, (.d (.slice false 4 (xs.map Arc.d)))), (1, (.d (.slice false 4 (ys.map Arc.d)))), (5, (.d (.int .i64 (k : Int))))], hp := [], pin := [] }) (fun k => k ≤ xs.length ∧ ∀ j, j < k → xs.getD j default = ys.getD j default) (fun k => xs.length - k) ⟨0, ⟨by omega, fun j hj => by omega⟩, (Wk.of rfl rfl (ai rfl (ai rfl (ai (vI a114) trivial))) trivial)⟩ (fun k hp0 => ?_)
  refine T_seq (T_seq (T_region hc (Ch.s (.d (.int .i64 (k : Int))) pm (Ch.s (.d (.slice false 4 (xs.map Arc.d))) pm (Ch.s (.d (.int .i64 (xs.length : Int))) (.pure (.len _ _ 125 rfl Tryz.underlying33 (.sh _ _) (by simp))) (Ch.s (.d (.bool (decide ((k : Int) < (xs.length : Int))))) (iX rfl rfl rfl) (Ch.nil ?_)))))))
  refine T_condD (p := ((k : Int) < (xs.length : Int))) rfl (fun h2 => ?_) (fun h2 => ?_)
  ·
   try have hk := bulkF_mem hb _ (getD_mem (l := xs) (j := k) (d := default) (by omega))
   refine T_skip (T_seq (T_block (T_seq ?_)))
   refine T_regionD hc (by kernel_rfl) ?_
   refine ChD.s (.d (.slice false 4 (xs.map Arc.d))) [] pm (ChD.s (.d (.int .i64 (k : Int))) [] pm (ChD.s (.d (.ref (.agg [(.int .i64 ((xs.getD k default).src)), (.int .i64 ((xs.getD k default).sig)), (.bool ((xs.getD k default).up)), (.int .i64 ((xs.getD k default).dst))]))) [] (.pure (.idx _ _ _ 125 (k) rfl Tryz.underlying33 sz125 rfl rfl rfl get_mapA)) (ChD.s (.d (.agg [(.int .i64 ((xs.getD k default).src)), (.int .i64 ((xs.getD k default).sig)), (.bool ((xs.getD k default).up)), (.int .i64 ((xs.getD k default).dst))])) [] (.pure (.loadRefA _ _ rfl ag125 sz125 rfl)) (ChD.s (.d (.slice false 4 (ys.map Arc.d))) [] pm (ChD.s (.d (.int .i64 (k : Int))) [] pm (ChD.s (.d (.ref (.agg [(.int .i64 ((ys.getD k default).src)), (.int .i64 ((ys.getD k default).sig)), (.bool ((ys.getD k default).up)), (.int .i64 ((ys.getD k default).dst))]))) [] (.pure (.idx _ _ _ 125 (k) rfl Tryz.underlying33 sz125 rfl rfl rfl get_mapA)) (ChD.s (.d (.agg [(.int .i64 ((ys.getD k default).src)), (.int .i64 ((ys.getD k default).sig)), (.bool ((ys.getD k default).up)), (.int .i64 ((ys.getD k default).dst))])) [] (.pure (.loadRefA _ _ rfl ag125 sz125 rfl)) ?_)))))))
   refine ChD.s (.d (.bool (decide ((xs.getD k default) = (ys.getD k default))))) [] (.call 25000 145 _ _ _ en145 rfl (.inl rfl) (.cons (.d _) (.cons (.d _) .nil)) rfl rfl (sp_laws_eqArc (xs.getD k default) (ys.getD k default) a39) (.skip _ _ (.skip _ _ .nil)) rfl) (ChD.s (.d (.bool (!(decide ((xs.getD k default) = (ys.getD k default)))))) [] (.pure (.not _ _ rfl rfl)) ?_)
   refine ChD.nil (And.intro ?_ (by kernel_rfl))
   refine T_condN (b := (decide ((xs.getD k default) = (ys.getD k default)))) rfl (fun h3 => ?_) (fun h3 => ?_)
   ·
    replace h3 := of_decide_eq_false h3
    refine T_seq (T_region hc (Ch.s (.d (.bool false)) pa (Ch.nil (T_ret ?_))))
    exact endR [(.d (.bool false))] [] [] (.cons (.tmp 4 rfl) .nil) (.cons (.any _) (.cons (.any _) .nil)) (Exp.of (congrArg D.bool a118) (.d _)) rfl rfl
   ·
    replace h3 := of_decide_eq_true h3
    refine T_skip (T_region hc (Ch.s (.d (.int .i64 (k : Int))) pm (Ch.s (.d (.int .i64 ((k : Int) + 1))) (iX rfl rfl intV_addA) (Ch.s (.d (.int .i64 ((k : Int) + 1))) pa (Ch.nil ?_)))))
    exact nx (k + 1) ⟨by omega, upto_succ hp0.2 (by assumption)⟩ (Wk.of rfl rfl (ai rfl (ai rfl (ai (vI a114) trivial))) trivial)
  ·
   try have hk := bulkF_mem hb _ (getD_mem (l := xs) (j := k) (d := default) (by omega))
   refine T_exit (T_seq (T_region hc (Ch.s (.d (.bool true)) pa (Ch.nil (T_ret ?_)))))
   exact endR [(.d (.bool true))] [] [] (.cons (.tmp 4 rfl) .nil) (.cons (.any _) (.cons (.any _) .nil)) (Exp.of (congrArg D.bool a101) (.d _)) rfl rfl

theorem sp_laws_szStateGraph (x : Sgr) (left : Int) (h0 : 0 ≤ left) (h0u : left ≤ 1048576) (hw : x.wide) : Sp Tryz.prog 16 [(.agg [(.slice false 2 (x.sigs.map Sgn.d)), (.slice false 1 (x.codes.map D.str)), (.slice false 4 (x.arcs.map Arc.d))]), (.int .i64 left)] [.any, .any] (.int .i64 (szR x.bulk left)) := by
 refine Sp_intro (lend := true) Tryz.func16 rfl rfl rfl (fun _ => rfl) (fun c hc hX => ?_)
 have e0 := szR_cases (bulkF Sgn.bulk x.sigs) left
 have e1 := szS_cases x.codes (szR (bulkF Sgn.bulk x.sigs) left)
 have e2 := szR_cases (bulkF Arc.bulk x.arcs) (szS x.codes (szR (bulkF Sgn.bulk x.sigs) left))
 have ef := szR_cases (bulkF Sgn.bulk x.sigs + bulkS x.codes + bulkF Arc.bulk x.arcs) left
 unfold Sgr.wide at hw
 refine T_seq (T_region hc (Ch.s (.ptr 2000 0) (.box 2000 _ _ rfl (.aggD _)) (Ch.s (.d (.int .i64 0)) pa (Ch.nil (T_seq (T_region hc (Ch.s (.ptr 2000 0) (.pure (.fldPtr _ _ _ rfl fld26_0 rfl)) ?_)))))))
 refine Ch.s (.d (.slice false 2 (x.sigs.map Sgn.d))) (.pure (.loadPtr1 _ _ rfl ag22 rfl rfl rfl)) (Ch.s (.d (.int .i64 left)) pm (Ch.s (.d (.int .i64 (szR (bulkF Sgn.bulk x.sigs) left))) (.call 8000 66 _ _ _ en66 rfl (.inl rfl) (.cons (.d _) (.cons (.d _) .nil)) rfl rfl (sp_laws_szSignalS x.sigs left a23 a23 a46 a46) (.skip _ _ (.skip _ _ .nil)) rfl) (Ch.s (.d (.int .i64 (szR (bulkF Sgn.bulk x.sigs) left))) pa (Ch.nil (T_seq (T_seq (T_region hc ?_)))))))
 refine Ch.s (.d (.int .i64 (szR (bulkF Sgn.bulk x.sigs) left))) pm (Ch.s (.d (.bool (decide ((szR (bulkF Sgn.bulk x.sigs) left) < 0)))) (iX rfl rfl rfl) (Ch.nil ?_))
 refine T_condD (p := ((szR (bulkF Sgn.bulk x.sigs) left) < 0)) rfl (fun h1 => ?_) (fun h1 => ?_)
 ·
  refine T_seq (T_region hc (Ch.s (.d (.int .i64 (-1))) pa (Ch.nil (T_ret ?_))))
  exact endR [(.d (.int .i64 (-1)))] [] [] (.cons (.tmp 4 rfl) .nil) (.cons (.any _) (.cons (.any _) .nil)) (Exp.of (congrArg (D.int .i64) a83) (.d _)) rfl rfl
 ·
  refine T_skip (T_seq (T_region hc (Ch.s (.ptr 2000 1) (.pure (.fldPtr _ _ _ rfl fld26_1 rfl)) (Ch.s (.d (.slice false 1 (x.codes.map D.str))) (.pure (.loadPtr1 _ _ rfl ag23 rfl rfl rfl)) (Ch.s (.d (.int .i64 (szR (bulkF Sgn.bulk x.sigs) left))) pm (Ch.s (.d (.int .i64 (szS x.codes (szR (bulkF Sgn.bulk x.sigs) left)))) (.call 14000 67 _ _ _ en67 rfl (.inl rfl) (.cons (.d _) (.cons (.d _) .nil)) rfl rfl (sp_laws_szStringS x.codes (szR (bulkF Sgn.bulk x.sigs) left) a23 a23 a23 a23) (.skip _ _ (.skip _ _ .nil)) rfl) (Ch.s (.d (.int .i64 (szS x.codes (szR (bulkF Sgn.bulk x.sigs) left)))) pa ?_)))))))
  refine Ch.nil (T_seq (T_seq (T_region hc (Ch.s (.d (.int .i64 (szS x.codes (szR (bulkF Sgn.bulk x.sigs) left)))) pm (Ch.s (.d (.bool (decide ((szS x.codes (szR (bulkF Sgn.bulk x.sigs) left)) < 0)))) (iX rfl rfl rfl) (Ch.nil ?_))))))
  refine T_condD (p := ((szS x.codes (szR (bulkF Sgn.bulk x.sigs) left)) < 0)) rfl (fun h2 => ?_) (fun h2 => ?_)
  ·
   refine T_seq (T_region hc (Ch.s (.d (.int .i64 (-1))) pa (Ch.nil (T_ret ?_))))
   exact endR [(.d (.int .i64 (-1)))] [] [] (.cons (.tmp 4 rfl) .nil) (.cons (.any _) (.cons (.any _) .nil)) (Exp.of (congrArg (D.int .i64) a83) (.d _)) rfl rfl
  ·
   refine T_skip (T_seq (T_region hc (Ch.s (.ptr 2000 2) (.pure (.fldPtr _ _ _ rfl fld26_2 rfl)) (Ch.s (.d (.slice false 4 (x.arcs.map Arc.d))) (.pure (.loadPtr1 _ _ rfl ag24 rfl rfl rfl)) (Ch.s (.d (.int .i64 (szS x.codes (szR (bulkF Sgn.bulk x.sigs) left)))) pm (Ch.s (.d (.int .i64 (szR (bulkF Arc.bulk x.arcs) (szS x.codes (szR (bulkF Sgn.bulk x.sigs) left))))) (.call 20000 68 _ _ _ en68 rfl (.inl rfl) (.cons (.d _) (.cons (.d _) .nil)) rfl rfl (sp_laws_szArcS x.arcs (szS x.codes (szR (bulkF Sgn.bulk x.sigs) left)) a23 a23 a46 a46) (.skip _ _ (.skip _ _ .nil)) rfl) (Ch.s (.d (.int .i64 (szR (bulkF Arc.bulk x.arcs) (szS x.codes (szR (bulkF Sgn.bulk x.sigs) left))))) pa ?_)))))))
   refine Ch.nil (T_seq (T_seq (T_region hc (Ch.s (.d (.int .i64 (szR (bulkF Arc.bulk x.arcs) (szS x.codes (szR (bulkF Sgn.bulk x.sigs) left))))) pm (Ch.s (.d (.bool (decide ((szR (bulkF Arc.bulk x.arcs) (szS x.codes (szR (bulkF Sgn.bulk x.sigs) left))) < 0)))) (iX rfl rfl rfl) (Ch.nil ?_))))))
   refine T_condD (p := ((szR (bulkF Arc.bulk x.arcs) (szS x.codes (szR (bulkF Sgn.bulk x.sigs) left))) < 0)) rfl (fun h3 => ?_) (fun h3 => ?_)
   ·
    refine T_seq (T_region hc (Ch.s (.d (.int .i64 (-1))) pa (Ch.nil (T_ret ?_))))
    exact endR [(.d (.int .i64 (-1)))] [] [] (.cons (.tmp 4 rfl) .nil) (.cons (.any _) (.cons (.any _) .nil)) (Exp.of (congrArg (D.int .i64) a83) (.d _)) rfl rfl
   ·
    refine T_skip (T_seq (T_region hc (Ch.s (.d (.int .i64 (szR (bulkF Arc.bulk x.arcs) (szS x.codes (szR (bulkF Sgn.bulk x.sigs) left))))) pm (Ch.s (.d (.int .i64 (szR (bulkF Arc.bulk x.arcs) (szS x.codes (szR (bulkF Sgn.bulk x.sigs) left))))) pa (Ch.nil (T_ret ?_))))))
    exact endR [(.d (.int .i64 (szR (bulkF Arc.bulk x.arcs) (szS x.codes (szR (bulkF Sgn.bulk x.sigs) left)))))] [] [] (.cons (.tmp 4 rfl) .nil) (.cons (.any _) (.cons (.any _) .nil)) (Exp.of (congrArg (D.int .i64) a83) (.d _)) rfl rfl

theorem sp_laws_toStateGraph (x : Sgr) (hb : x.bulk ≤ 1048576) : Sp Tryz.prog 18 [(.agg [(.slice false 2 (x.sigs.map Sgn.d)), (.slice false 1 (x.codes.map D.str)), (.slice false 4 (x.arcs.map Arc.d))])] [.any] (.agg [(.slice true 2 (x.sigs.map Sgn.d)), (.slice true 1 (x.codes.map D.str)), (.slice true 4 (x.arcs.map Arc.d))]) := by
 refine Sp_intro (lend := true) Tryz.func18 rfl rfl rfl (fun _ => rfl) (fun c hc hX => ?_)
 obtain ⟨hp0, hp1, hp2⟩ := Sgr.parts hb
 have hn0 := bulkF_len hp0
 have hn1 := bulk_len hp1
 have hx1 := bulk_mem hp1
 have hn2 := bulkF_len hp2
 refine T_seq (T_region hc (Ch.s (.ptr 1000 0) (.box 1000 _ _ rfl (.aggD _)) (Ch.s (.ptr 2000 0) (.alloc 2000 _ rfl zer35) (Ch.nil (T_seq (T_region hc (Ch.s (.ptr 3000 0) (.alloc 3000 _ rfl zer35) ?_)))))))
 refine Ch.nil (T_seq (T_region hc (Ch.s (.ptr 1000 0) (.pure (.fldPtr _ _ _ rfl fld26_0 rfl)) (Ch.s (.d (.slice false 2 (x.sigs.map Sgn.d))) (.pure (.loadPtr1 _ _ rfl ag22 rfl rfl rfl)) ?_))))
 refine Ch.step (v := (.row 6000)) rfl (.call 6000 70 _ _ _ en70 rfl (.inl rfl) (.cons (.d _) .nil) rfl (sol (solid_row (fun _ => rfl) _) rfl) (sp_laws_toSignalS x.sigs a39) (.skip _ _ .nil) rfl) rfl rfl ?_
 refine Ch.s (.ptr 3000 0) (.pure (.fldPtr _ _ _ rfl fld35_0 rfl)) (Ch.s .junk (.storePtr _ _ _ rfl rfl rfl (.one _ rfl) sz32 (lb rfl)) (Ch.nil (T_seq (T_region hc (Ch.s (.ptr 1000 1) (.pure (.fldPtr _ _ _ rfl fld26_1 rfl)) (Ch.s (.d (.slice false 1 (x.codes.map D.str))) (.pure (.loadPtr1 _ _ rfl ag23 rfl rfl rfl)) ?_))))))
 refine Ch.step (v := (.row 10000)) rfl (.call 10000 71 _ _ _ en71 rfl (.inl rfl) (.cons (.d _) .nil) rfl (sol (solid_row (fun _ => rfl) _) rfl) (sp_laws_toStringS x.codes a23) (.skip _ _ .nil) rfl) rfl rfl ?_
 refine Ch.s (.ptr 3000 1) (.pure (.fldPtr _ _ _ rfl fld35_1 rfl)) (Ch.s .junk (.storePtr _ _ _ rfl rfl rfl (.one _ rfl) sz23 (lb rfl)) (Ch.nil (T_seq (T_region hc (Ch.s (.ptr 1000 2) (.pure (.fldPtr _ _ _ rfl fld26_2 rfl)) (Ch.s (.d (.slice false 4 (x.arcs.map Arc.d))) (.pure (.loadPtr1 _ _ rfl ag24 rfl rfl rfl)) ?_))))))
 refine Ch.step (v := (.row 14000)) rfl (.call 14000 72 _ _ _ en72 rfl (.inl rfl) (.cons (.d _) .nil) rfl (sol (solid_row (fun _ => rfl) _) rfl) (sp_laws_toArcS x.arcs a39) (.skip _ _ .nil) rfl) rfl rfl ?_
 refine Ch.s (.ptr 3000 2) (.pure (.fldPtr _ _ _ rfl fld35_2 rfl)) (Ch.s .junk (.storePtr _ _ _ rfl rfl rfl (.one _ rfl) sz33 (lb rfl)) (Ch.nil (T_seq (T_region hc (Ch.s (.agg [(.row 6000), (.row 10000), (.row 14000)]) (.pure (.loadPtrA _ _ rfl ag35 sz35 rfl rfl (lb rfl) rfl)) (Ch.s .junk (.storePtr _ _ _ rfl rfl rfl (.agg _ rfl) sz35 (lb rfl)) (Ch.nil ?_)))))))
 refine T_ret ?_
 exact endR [(.agg [(.row 6000), (.row 10000), (.row 14000)])] [] [6000, 10000, 14000] (.cons (.cellA _ _ rfl rfl ag35 sz35) .nil) (.cons (.any _) .nil) (.agg (.cons (.row rfl) (.cons (.row rfl) (.cons (.row rfl) .nil))) rfl) rfl rfl

theorem sp_laws_eqStateGraph (x y : Sgr) (hb : x.bulk ≤ 1048576) : Sp Tryz.prog 21 [(.agg [(.slice false 2 (x.sigs.map Sgn.d)), (.slice false 1 (x.codes.map D.str)), (.slice false 4 (x.arcs.map Arc.d))]), (.agg [(.slice false 2 (y.sigs.map Sgn.d)), (.slice false 1 (y.codes.map D.str)), (.slice false 4 (y.arcs.map Arc.d))])] [.any, .any] (.bool (decide (x = y))) := by
 refine Sp_intro (lend := true) Tryz.func21 rfl rfl rfl (fun _ => rfl) (fun c hc hX => ?_)
 obtain ⟨hp0, hp1, hp2⟩ := Sgr.parts hb
 have hn0 := bulkF_len hp0
 have hn1 := bulk_len hp1
 have hx1 := bulk_mem hp1
 have hn2 := bulkF_len hp2
 refine T_seq (T_region hc (Ch.s (.ptr 2000 0) (.box 2000 _ _ rfl (.aggD _)) (Ch.s (.ptr 3000 0) (.box 3000 _ _ rfl (.aggD _)) (Ch.s (.d (.bool false)) pa (Ch.nil (T_seq (T_seq ?_)))))))
 refine T_region hc (Ch.s (.ptr 2000 0) (.pure (.fldPtr _ _ _ rfl fld35_0 rfl)) (Ch.s (.d (.slice false 2 (x.sigs.map Sgn.d))) (.pure (.loadPtr1 _ _ rfl ag32 rfl rfl rfl)) (Ch.s (.ptr 3000 0) (.pure (.fldPtr _ _ _ rfl fld35_0 rfl)) (Ch.s (.d (.slice false 2 (y.sigs.map Sgn.d))) (.pure (.loadPtr1 _ _ rfl ag32 rfl rfl rfl)) (Ch.s (.d (.bool (decide (x.sigs = y.sigs)))) (.call 9000 74 _ _ _ en74 rfl (.inl rfl) (.cons (.d _) (.cons (.d _) .nil)) rfl rfl (sp_laws_eqSignalS x.sigs y.sigs a39) (.skip _ _ (.skip _ _ .nil)) rfl) (Ch.s (.d (.bool (!(decide (x.sigs = y.sigs))))) (.pure (.not _ _ rfl rfl)) (Ch.nil ?_)))))))
 refine T_condN (b := (decide (x.sigs = y.sigs))) rfl (fun h1 => ?_) (fun h1 => ?_)
 ·
  replace h1 := of_decide_eq_false h1
  refine T_seq (T_region hc (Ch.s (.d (.bool false)) pa (Ch.nil (T_ret ?_))))
  exact endR [(.d (.bool false))] [] [] (.cons (.tmp 4 rfl) .nil) (.cons (.any _) (.cons (.any _) .nil)) (Exp.of (congrArg D.bool a122) (.d _)) rfl rfl
 ·
  replace h1 := of_decide_eq_true h1
  refine T_skip (T_seq (T_seq (T_region hc (Ch.s (.ptr 2000 1) (.pure (.fldPtr _ _ _ rfl fld35_1 rfl)) (Ch.s (.d (.slice false 1 (x.codes.map D.str))) (.pure (.loadPtr1 _ _ rfl ag23 rfl rfl rfl)) (Ch.s (.ptr 3000 1) (.pure (.fldPtr _ _ _ rfl fld35_1 rfl)) (Ch.s (.d (.slice false 1 (y.codes.map D.str))) (.pure (.loadPtr1 _ _ rfl ag23 rfl rfl rfl)) ?_)))))))
  refine Ch.s (.d (.bool (decide (x.codes = y.codes)))) (.call 15000 29 _ _ _ en29 rfl (.inl rfl) (.cons (.d _) (.cons (.d _) .nil)) rfl rfl (sp_laws_eqStringS x.codes y.codes a23) (.skip _ _ (.skip _ _ .nil)) rfl) (Ch.s (.d (.bool (!(decide (x.codes = y.codes))))) (.pure (.not _ _ rfl rfl)) (Ch.nil ?_))
  refine T_condN (b := (decide (x.codes = y.codes))) rfl (fun h2 => ?_) (fun h2 => ?_)
  ·
   replace h2 := of_decide_eq_false h2
   refine T_seq (T_region hc (Ch.s (.d (.bool false)) pa (Ch.nil (T_ret ?_))))
   exact endR [(.d (.bool false))] [] [] (.cons (.tmp 4 rfl) .nil) (.cons (.any _) (.cons (.any _) .nil)) (Exp.of (congrArg D.bool a122) (.d _)) rfl rfl
  ·
   replace h2 := of_decide_eq_true h2
   refine T_skip (T_seq (T_seq (T_region hc (Ch.s (.ptr 2000 2) (.pure (.fldPtr _ _ _ rfl fld35_2 rfl)) (Ch.s (.d (.slice false 4 (x.arcs.map Arc.d))) (.pure (.loadPtr1 _ _ rfl ag33 rfl rfl rfl)) (Ch.s (.ptr 3000 2) (.pure (.fldPtr _ _ _ rfl fld35_2 rfl)) (Ch.s (.d (.slice false 4 (y.arcs.map Arc.d))) (.pure (.loadPtr1 _ _ rfl ag33 rfl rfl rfl)) ?_)))))))
   refine Ch.s (.d (.bool (decide (x.arcs = y.arcs)))) (.call 21000 75 _ _ _ en75 rfl (.inl rfl) (.cons (.d _) (.cons (.d _) .nil)) rfl rfl (sp_laws_eqArcS x.arcs y.arcs a39) (.skip _ _ (.skip _ _ .nil)) rfl) (Ch.s (.d (.bool (!(decide (x.arcs = y.arcs))))) (.pure (.not _ _ rfl rfl)) (Ch.nil ?_))
   refine T_condN (b := (decide (x.arcs = y.arcs))) rfl (fun h3 => ?_) (fun h3 => ?_)
   ·
    replace h3 := of_decide_eq_false h3
    refine T_seq (T_region hc (Ch.s (.d (.bool false)) pa (Ch.nil (T_ret ?_))))
    exact endR [(.d (.bool false))] [] [] (.cons (.tmp 4 rfl) .nil) (.cons (.any _) (.cons (.any _) .nil)) (Exp.of (congrArg D.bool a122) (.d _)) rfl rfl
   ·
    replace h3 := of_decide_eq_true h3
    refine T_skip (T_seq (T_region hc (Ch.s (.d (.bool true)) pa (Ch.nil (T_ret ?_)))))
    exact endR [(.d (.bool true))] [] [] (.cons (.tmp 4 rfl) .nil) (.cons (.any _) (.cons (.any _) .nil)) (Exp.of (congrArg D.bool a122) (.d _)) rfl rfl

theorem sp_laws_eqRegionCovers (x y : Rcv) (hb : x.bulk ≤ 1048576) : Sp Tryz.prog 116 [(.agg [(.int .i64 x.sig), (.bool (x.up)), (.slice false 1 (x.cubes.map D.str))]), (.agg [(.int .i64 y.sig), (.bool (y.up)), (.slice false 1 (y.cubes.map D.str))])] [.any, .any] (.bool (decide (x = y))) := by
 refine Sp_intro (lend := true) Tryz.func116 rfl rfl rfl (fun _ => rfl) (fun c hc hX => ?_)
 have hp0 := Rcv.parts hb
 have hn0 := bulk_len hp0
 have hx0 := bulk_mem hp0
 refine T_seq (T_region hc (Ch.s (.ptr 2000 0) (.box 2000 _ _ rfl (.aggD _)) (Ch.s (.ptr 3000 0) (.box 3000 _ _ rfl (.aggD _)) (Ch.s (.d (.bool false)) pa (Ch.nil (T_seq (T_seq ?_)))))))
 refine T_region hc (Ch.s (.ptr 2000 0) (.pure (.fldPtr _ _ _ rfl fld121_0 rfl)) (Ch.s (.d (.int .i64 x.sig)) (.pure (.loadPtr1 _ _ rfl ag3 rfl rfl rfl)) (Ch.s (.ptr 3000 0) (.pure (.fldPtr _ _ _ rfl fld121_0 rfl)) (Ch.s (.d (.int .i64 y.sig)) (.pure (.loadPtr1 _ _ rfl ag3 rfl rfl rfl)) (Ch.s (.d (.bool (!(decide (x.sig = y.sig))))) (iX rfl rfl rfl) (Ch.nil ?_))))))
 refine T_condN (b := (decide (x.sig = y.sig))) rfl (fun h1 => ?_) (fun h1 => ?_)
 ·
  replace h1 := of_decide_eq_false h1
  refine T_seq (T_region hc (Ch.s (.d (.bool false)) pa (Ch.nil (T_ret ?_))))
  exact endR [(.d (.bool false))] [] [] (.cons (.tmp 4 rfl) .nil) (.cons (.any _) (.cons (.any _) .nil)) (Exp.of (congrArg D.bool a122) (.d _)) rfl rfl
 ·
  replace h1 := of_decide_eq_true h1
  refine T_skip (T_seq (T_seq (T_region hc (Ch.s (.ptr 2000 1) (.pure (.fldPtr _ _ _ rfl fld121_1 rfl)) (Ch.s (.d (.bool (x.up))) (.pure (.loadPtr1 _ _ rfl ag4 rfl rfl rfl)) (Ch.s (.ptr 3000 1) (.pure (.fldPtr _ _ _ rfl fld121_1 rfl)) (Ch.s (.d (.bool (y.up))) (.pure (.loadPtr1 _ _ rfl ag4 rfl rfl rfl)) ?_)))))))
  refine Ch.s (.d (.bool (!(decide ((x.up) = (y.up)))))) (.pure (.neB _ _ _ _ rfl Tryz.underlying4 rfl rfl)) (Ch.nil ?_)
  refine T_condN (b := (decide ((x.up) = (y.up)))) rfl (fun h2 => ?_) (fun h2 => ?_)
  ·
   replace h2 := of_decide_eq_false h2
   refine T_seq (T_region hc (Ch.s (.d (.bool false)) pa (Ch.nil (T_ret ?_))))
   exact endR [(.d (.bool false))] [] [] (.cons (.tmp 4 rfl) .nil) (.cons (.any _) (.cons (.any _) .nil)) (Exp.of (congrArg D.bool a122) (.d _)) rfl rfl
  ·
   replace h2 := of_decide_eq_true h2
   refine T_skip (T_seq (T_seq (T_region hc (Ch.s (.ptr 2000 2) (.pure (.fldPtr _ _ _ rfl fld121_2 rfl)) (Ch.s (.d (.slice false 1 (x.cubes.map D.str))) (.pure (.loadPtr1 _ _ rfl ag23 rfl rfl rfl)) (Ch.s (.ptr 3000 2) (.pure (.fldPtr _ _ _ rfl fld121_2 rfl)) (Ch.s (.d (.slice false 1 (y.cubes.map D.str))) (.pure (.loadPtr1 _ _ rfl ag23 rfl rfl rfl)) ?_)))))))
   refine Ch.s (.d (.bool (decide (x.cubes = y.cubes)))) (.call 19000 29 _ _ _ en29 rfl (.inl rfl) (.cons (.d _) (.cons (.d _) .nil)) rfl rfl (sp_laws_eqStringS x.cubes y.cubes a23) (.skip _ _ (.skip _ _ .nil)) rfl) (Ch.s (.d (.bool (!(decide (x.cubes = y.cubes))))) (.pure (.not _ _ rfl rfl)) (Ch.nil ?_))
   refine T_condN (b := (decide (x.cubes = y.cubes))) rfl (fun h3 => ?_) (fun h3 => ?_)
   ·
    replace h3 := of_decide_eq_false h3
    refine T_seq (T_region hc (Ch.s (.d (.bool false)) pa (Ch.nil (T_ret ?_))))
    exact endR [(.d (.bool false))] [] [] (.cons (.tmp 4 rfl) .nil) (.cons (.any _) (.cons (.any _) .nil)) (Exp.of (congrArg D.bool a122) (.d _)) rfl rfl
   ·
    replace h3 := of_decide_eq_true h3
    refine T_skip (T_seq (T_region hc (Ch.s (.d (.bool true)) pa (Ch.nil (T_ret ?_)))))
    exact endR [(.d (.bool true))] [] [] (.cons (.tmp 4 rfl) .nil) (.cons (.any _) (.cons (.any _) .nil)) (Exp.of (congrArg D.bool a122) (.d _)) rfl rfl

theorem en263 : Enters Tryz.prog 263 := ⟨_, Tryz.func263, by kernel_rfl, rfl⟩

theorem en251 : Enters Tryz.prog 251 := ⟨_, Tryz.func251, by kernel_rfl, rfl⟩

theorem en234 : Enters Tryz.prog 234 := ⟨_, Tryz.func234, by kernel_rfl, rfl⟩

theorem en236 : Enters Tryz.prog 236 := ⟨_, Tryz.func236, by kernel_rfl, rfl⟩

theorem en235 : Enters Tryz.prog 235 := ⟨_, Tryz.func235, by kernel_rfl, rfl⟩

theorem en218 : Enters Tryz.prog 218 := ⟨_, Tryz.func218, by kernel_rfl, rfl⟩

def letB (x : UInt8) : Bool := decide ((97 : UInt8) ≤ x) && decide (x ≤ 122)

def digB (x : UInt8) : Bool := decide ((48 : UInt8) ≤ x) && decide (x ≤ 57)

def nameCh (x : UInt8) (j : Nat) : Bool := letB x || (digB x && !decide ((j : Int) = 0))

def nameB (u : List UInt8) : Bool := allB u.length (fun j => nameCh (u.getD j 0) j) && withinB u.length 1 6

def sigOk (xs : List Sgn) (j : Nat) : Bool := nameB (xs.getD j default).name && (withinB (xs.getD j default).kind 1 3 && !(xs.take j).any fun y => decide (y.name = (xs.getD j default).name))

def sigsB (xs : List Sgn) : Bool := allB xs.length (sigOk xs) && withinB xs.length 1 8

theorem sigsB_len {sg : List Sgn} (h : sigsB sg = true) : withinB (sg.length : Int) 1 8 = true := by
 unfold sigsB at h
 simp only [Bool.and_eq_true] at h
 exact h.2

theorem digB_n (x : UInt8) : digB x = (!decide (x < 48) && !decide (57 < x)) := by
 unfold digB; rw [← decide_not, ← decide_not]; simp only [UInt8.not_lt]

theorem sp_impl_isName (u : List UInt8) (hu : u.length ≤ 1048576) : Sp Tryz.prog 234 [(.str u)] [.any] (.bool (nameB u)) := by
 refine Sp_intro (lend := true) Tryz.func234 rfl rfl rfl (fun _ => rfl) (fun c hc hX => ?_)
 refine T_seq (T_region hc (Ch.s (.d (.bool false)) pa (Ch.nil (T_seq (T_seq (T_region hc (Ch.s (.d (.int .i64 0)) pa ?_)))))))
 refine Ch.nil (T_block ?_)
 refine T_loop (ι := Nat) (fun k => { n := 45, sl := [(0, (.d (.str u))), (3, (.d (.int .i64 (k : Int))))], hp := [], pin := [] }) (fun k => k ≤ u.length ∧ ∀ j, j < k → nameCh (u.getD j 0) j = true) (fun k => u.length - k) ⟨0, ⟨by omega, fun j hj => by omega⟩, (Wk.of rfl rfl (ai rfl (ai (vI a114) trivial)) trivial)⟩ (fun k hp0 => ?_)
 refine T_seq (T_seq (T_region hc (Ch.s (.d (.int .i64 (k : Int))) pm (Ch.s (.d (.str u)) pm (Ch.s (.d (.int .i64 (u.length : Int))) (.pure (.lenStr _ _ rfl Tryz.underlying9 rfl)) (Ch.s (.d (.bool (decide ((k : Int) < (u.length : Int))))) (iX rfl rfl rfl) (Ch.nil ?_)))))))
 refine T_condD (p := ((k : Int) < (u.length : Int))) rfl (fun h1 => ?_) (fun h1 => ?_)
 ·
  refine T_skip (T_seq (T_block (T_seq ?_)))
  refine T_regionD hc (by kernel_rfl) ?_
  refine ChD.s (.d (.str u)) [] pm (ChD.s (.d (.int .i64 (k : Int))) [] pm (ChD.s (.d (.int .u8 ((u.getD k 0).toNat : Int))) [] (.pure (.idxStr _ _ _ (k) rfl Tryz.underlying9 rfl rfl rfl get_strA)) (ChD.s (.d (.bool (decide (97 ≤ ((u.getD k 0) : UInt8))))) [] (iX rfl rfl (u8_geq ((u.getD k 0) : UInt8) 97 rfl rfl)) (ChD.s (.d (.bool (decide (97 ≤ ((u.getD k 0) : UInt8))))) [] pm ?_))))
  cases h2 : (decide (97 ≤ ((u.getD k 0) : UInt8))) with
  | true =>
   replace h2 := of_decide_eq_true h2
   refine ChD.s (.d (.str u)) [] pm (ChD.s (.d (.int .i64 (k : Int))) [] pm (ChD.s (.d (.int .u8 ((u.getD k 0).toNat : Int))) [] (.pure (.idxStr _ _ _ (k) rfl Tryz.underlying9 rfl rfl rfl get_strA)) (ChD.s (.d (.bool (decide (((u.getD k 0) : UInt8) ≤ 122)))) [] (iX rfl rfl (u8_leq ((u.getD k 0) : UInt8) 122 rfl rfl)) (ChD.s (.d (.bool (decide (((u.getD k 0) : UInt8) ≤ 122)))) [] (.pure (.pickT _ _ _ rfl rfl rfl)) (ChD.s (.d (.str u)) [] pm (ChD.s (.d (.int .i64 (k : Int))) [] pm (ChD.s (.d (.int .u8 ((u.getD k 0).toNat : Int))) [] (.pure (.idxStr _ _ _ (k) rfl Tryz.underlying9 rfl rfl rfl get_strA)) ?_)))))))
   refine ChD.s (.d (.bool (decide (48 ≤ ((u.getD k 0) : UInt8))))) [] (iX rfl rfl (u8_geq ((u.getD k 0) : UInt8) 48 rfl rfl)) (ChD.s (.d (.bool (decide (48 ≤ ((u.getD k 0) : UInt8))))) [] pm ?_)
   cases h3 : (decide (48 ≤ ((u.getD k 0) : UInt8))) with
   | true =>
    replace h3 := of_decide_eq_true h3
    refine ChD.s (.d (.str u)) [] pm (ChD.s (.d (.int .i64 (k : Int))) [] pm (ChD.s (.d (.int .u8 ((u.getD k 0).toNat : Int))) [] (.pure (.idxStr _ _ _ (k) rfl Tryz.underlying9 rfl rfl rfl get_strA)) (ChD.s (.d (.bool (decide (((u.getD k 0) : UInt8) ≤ 57)))) [] (iX rfl rfl (u8_leq ((u.getD k 0) : UInt8) 57 rfl rfl)) (ChD.s (.d (.bool (decide (((u.getD k 0) : UInt8) ≤ 57)))) [] (.pure (.pickT _ _ _ rfl rfl rfl)) (ChD.s (.d (.bool (decide (((u.getD k 0) : UInt8) ≤ 122)))) [] pa (ChD.s (.d (.bool (decide (((u.getD k 0) : UInt8) ≤ 57)))) [] pa ?_))))))
    refine ChD.nil (And.intro ?_ (by kernel_rfl))
    refine T_seq (T_region hc (Ch.s (.d (.bool (decide (((u.getD k 0) : UInt8) ≤ 122)))) pm (Ch.s (.d (.bool (!(decide (((u.getD k 0) : UInt8) ≤ 122))))) (.pure (.not _ _ rfl rfl)) (Ch.s (.d (.bool (!(decide (((u.getD k 0) : UInt8) ≤ 122))))) pm ?_))))
    cases h4 : (decide (((u.getD k 0) : UInt8) ≤ 122)) with
    | true =>
     replace h4 := of_decide_eq_true h4
     refine Ch.skip rfl rfl (Ch.skip rfl rfl (Ch.skip rfl rfl (Ch.skip rfl rfl (Ch.skip rfl rfl (Ch.skip rfl rfl (Ch.s (.d (.bool false)) (.pure (.pickF _ _ _ rfl rfl rfl)) (Ch.nil ?_)))))))
     refine T_cond (b := false) rfl (fun h => nomatch h) (fun _ => ?_)
     refine T_skip (T_region hc (Ch.s (.d (.int .i64 (k : Int))) pm (Ch.s (.d (.int .i64 ((k : Int) + 1))) (iX rfl rfl intV_addA) (Ch.s (.d (.int .i64 ((k : Int) + 1))) pa (Ch.nil ?_)))))
     exact nx (k + 1) ⟨by omega, upto_succ hp0.2 a8⟩ (Wk.of rfl rfl (ai rfl (ai (vI a114) trivial)) trivial)
    | false =>
     replace h4 := of_decide_eq_false h4
     refine Ch.s (.d (.bool (decide (((u.getD k 0) : UInt8) ≤ 57)))) pm (Ch.s (.d (.bool (!(decide (((u.getD k 0) : UInt8) ≤ 57))))) (.pure (.not _ _ rfl rfl)) (Ch.s (.d (.bool (!(decide (((u.getD k 0) : UInt8) ≤ 57))))) pm ?_))
     cases h5 : (decide (((u.getD k 0) : UInt8) ≤ 57)) with
     | true =>
      replace h5 := of_decide_eq_true h5
      refine Ch.s (.d (.int .i64 (k : Int))) pm (Ch.s (.d (.bool (decide ((k : Int) = 0)))) (iX rfl rfl rfl) (Ch.s (.d (.bool (decide ((k : Int) = 0)))) (.pure (.pickF _ _ _ rfl rfl rfl)) (Ch.s (.d (.bool (decide ((k : Int) = 0)))) (.pure (.pickT _ _ _ rfl rfl rfl)) (Ch.nil ?_))))
      refine T_condD (p := ((k : Int) = 0)) rfl (fun h6 => ?_) (fun h6 => ?_)
      ·
       refine T_seq (T_region hc (Ch.s (.d (.bool false)) pa (Ch.nil (T_ret ?_))))
       exact endR [(.d (.bool false))] [] [] (.cons (.tmp 2 rfl) .nil) (.cons (.any _) .nil) (Exp.of (congrArg D.bool a4) (.d _)) rfl rfl
      ·
       refine T_skip (T_region hc (Ch.s (.d (.int .i64 (k : Int))) pm (Ch.s (.d (.int .i64 ((k : Int) + 1))) (iX rfl rfl intV_addA) (Ch.s (.d (.int .i64 ((k : Int) + 1))) pa (Ch.nil ?_)))))
       exact nx (k + 1) ⟨by omega, upto_succ hp0.2 a8⟩ (Wk.of rfl rfl (ai rfl (ai (vI a114) trivial)) trivial)
     | false =>
      replace h5 := of_decide_eq_false h5
      refine Ch.skip rfl rfl (Ch.skip rfl rfl (Ch.s (.d (.bool true)) (.pure (.pickT _ _ _ rfl rfl rfl)) (Ch.s (.d (.bool true)) (.pure (.pickT _ _ _ rfl rfl rfl)) (Ch.nil ?_))))
      refine T_cond (b := true) rfl (fun _ => ?_) (fun h => nomatch h)
      refine T_seq (T_region hc (Ch.s (.d (.bool false)) pa (Ch.nil (T_ret ?_))))
      exact endR [(.d (.bool false))] [] [] (.cons (.tmp 2 rfl) .nil) (.cons (.any _) .nil) (Exp.of (congrArg D.bool a4) (.d _)) rfl rfl
   | false =>
    replace h3 := of_decide_eq_false h3
    refine ChD.skip rfl rfl (ChD.skip rfl rfl (ChD.skip rfl rfl (ChD.skip rfl rfl (ChD.s (.d (.bool false)) [] (.pure (.pickF _ _ _ rfl rfl rfl)) (ChD.s (.d (.bool (decide (((u.getD k 0) : UInt8) ≤ 122)))) [] pa (ChD.s (.d (.bool false)) [] pa ?_))))))
    refine ChD.nil (And.intro ?_ (by kernel_rfl))
    refine T_seq (T_region hc (Ch.s (.d (.bool (decide (((u.getD k 0) : UInt8) ≤ 122)))) pm (Ch.s (.d (.bool (!(decide (((u.getD k 0) : UInt8) ≤ 122))))) (.pure (.not _ _ rfl rfl)) (Ch.s (.d (.bool (!(decide (((u.getD k 0) : UInt8) ≤ 122))))) pm ?_))))
    cases h7 : (decide (((u.getD k 0) : UInt8) ≤ 122)) with
    | true =>
     replace h7 := of_decide_eq_true h7
     refine Ch.skip rfl rfl (Ch.skip rfl rfl (Ch.skip rfl rfl (Ch.skip rfl rfl (Ch.skip rfl rfl (Ch.skip rfl rfl (Ch.s (.d (.bool false)) (.pure (.pickF _ _ _ rfl rfl rfl)) (Ch.nil ?_)))))))
     refine T_cond (b := false) rfl (fun h => nomatch h) (fun _ => ?_)
     refine T_skip (T_region hc (Ch.s (.d (.int .i64 (k : Int))) pm (Ch.s (.d (.int .i64 ((k : Int) + 1))) (iX rfl rfl intV_addA) (Ch.s (.d (.int .i64 ((k : Int) + 1))) pa (Ch.nil ?_)))))
     exact nx (k + 1) ⟨by omega, upto_succ hp0.2 a8⟩ (Wk.of rfl rfl (ai rfl (ai (vI a114) trivial)) trivial)
    | false =>
     replace h7 := of_decide_eq_false h7
     refine Ch.s (.d (.bool false)) pm (Ch.s (.d (.bool true)) (.pure (.not (b := false) _ _ rfl rfl)) (Ch.s (.d (.bool true)) pm (Ch.skip rfl rfl (Ch.skip rfl rfl (Ch.s (.d (.bool true)) (.pure (.pickT _ _ _ rfl rfl rfl)) (Ch.s (.d (.bool true)) (.pure (.pickT _ _ _ rfl rfl rfl)) (Ch.nil ?_)))))))
     refine T_cond (b := true) rfl (fun _ => ?_) (fun h => nomatch h)
     refine T_seq (T_region hc (Ch.s (.d (.bool false)) pa (Ch.nil (T_ret ?_))))
     exact endR [(.d (.bool false))] [] [] (.cons (.tmp 2 rfl) .nil) (.cons (.any _) .nil) (Exp.of (congrArg D.bool a4) (.d _)) rfl rfl
  | false =>
   replace h2 := of_decide_eq_false h2
   refine ChD.skip rfl rfl (ChD.skip rfl rfl (ChD.skip rfl rfl (ChD.skip rfl rfl (ChD.s (.d (.bool false)) [] (.pure (.pickF _ _ _ rfl rfl rfl)) (ChD.s (.d (.str u)) [] pm (ChD.s (.d (.int .i64 (k : Int))) [] pm (ChD.s (.d (.int .u8 ((u.getD k 0).toNat : Int))) [] (.pure (.idxStr _ _ _ (k) rfl Tryz.underlying9 rfl rfl rfl get_strA)) ?_)))))))
   refine ChD.s (.d (.bool (decide (48 ≤ ((u.getD k 0) : UInt8))))) [] (iX rfl rfl (u8_geq ((u.getD k 0) : UInt8) 48 rfl rfl)) (ChD.s (.d (.bool (decide (48 ≤ ((u.getD k 0) : UInt8))))) [] pm ?_)
   cases h8 : (decide (48 ≤ ((u.getD k 0) : UInt8))) with
   | true =>
    replace h8 := of_decide_eq_true h8
    refine ChD.s (.d (.str u)) [] pm (ChD.s (.d (.int .i64 (k : Int))) [] pm (ChD.s (.d (.int .u8 ((u.getD k 0).toNat : Int))) [] (.pure (.idxStr _ _ _ (k) rfl Tryz.underlying9 rfl rfl rfl get_strA)) (ChD.s (.d (.bool (decide (((u.getD k 0) : UInt8) ≤ 57)))) [] (iX rfl rfl (u8_leq ((u.getD k 0) : UInt8) 57 rfl rfl)) (ChD.s (.d (.bool (decide (((u.getD k 0) : UInt8) ≤ 57)))) [] (.pure (.pickT _ _ _ rfl rfl rfl)) (ChD.s (.d (.bool false)) [] pa (ChD.s (.d (.bool (decide (((u.getD k 0) : UInt8) ≤ 57)))) [] pa ?_))))))
    refine ChD.nil (And.intro ?_ (by kernel_rfl))
    refine T_seq (T_region hc (Ch.s (.d (.bool false)) pm (Ch.s (.d (.bool true)) (.pure (.not (b := false) _ _ rfl rfl)) (Ch.s (.d (.bool true)) pm (Ch.s (.d (.bool (decide (((u.getD k 0) : UInt8) ≤ 57)))) pm (Ch.s (.d (.bool (!(decide (((u.getD k 0) : UInt8) ≤ 57))))) (.pure (.not _ _ rfl rfl)) (Ch.s (.d (.bool (!(decide (((u.getD k 0) : UInt8) ≤ 57))))) pm ?_)))))))
    cases h9 : (decide (((u.getD k 0) : UInt8) ≤ 57)) with
    | true =>
     replace h9 := of_decide_eq_true h9
     refine Ch.s (.d (.int .i64 (k : Int))) pm (Ch.s (.d (.bool (decide ((k : Int) = 0)))) (iX rfl rfl rfl) (Ch.s (.d (.bool (decide ((k : Int) = 0)))) (.pure (.pickF _ _ _ rfl rfl rfl)) (Ch.s (.d (.bool (decide ((k : Int) = 0)))) (.pure (.pickT _ _ _ rfl rfl rfl)) (Ch.nil ?_))))
     refine T_condD (p := ((k : Int) = 0)) rfl (fun h10 => ?_) (fun h10 => ?_)
     ·
      refine T_seq (T_region hc (Ch.s (.d (.bool false)) pa (Ch.nil (T_ret ?_))))
      exact endR [(.d (.bool false))] [] [] (.cons (.tmp 2 rfl) .nil) (.cons (.any _) .nil) (Exp.of (congrArg D.bool a4) (.d _)) rfl rfl
     ·
      refine T_skip (T_region hc (Ch.s (.d (.int .i64 (k : Int))) pm (Ch.s (.d (.int .i64 ((k : Int) + 1))) (iX rfl rfl intV_addA) (Ch.s (.d (.int .i64 ((k : Int) + 1))) pa (Ch.nil ?_)))))
      exact nx (k + 1) ⟨by omega, upto_succ hp0.2 a8⟩ (Wk.of rfl rfl (ai rfl (ai (vI a114) trivial)) trivial)
    | false =>
     replace h9 := of_decide_eq_false h9
     refine Ch.skip rfl rfl (Ch.skip rfl rfl (Ch.s (.d (.bool true)) (.pure (.pickT _ _ _ rfl rfl rfl)) (Ch.s (.d (.bool true)) (.pure (.pickT _ _ _ rfl rfl rfl)) (Ch.nil ?_))))
     refine T_cond (b := true) rfl (fun _ => ?_) (fun h => nomatch h)
     refine T_seq (T_region hc (Ch.s (.d (.bool false)) pa (Ch.nil (T_ret ?_))))
     exact endR [(.d (.bool false))] [] [] (.cons (.tmp 2 rfl) .nil) (.cons (.any _) .nil) (Exp.of (congrArg D.bool a4) (.d _)) rfl rfl
   | false =>
    replace h8 := of_decide_eq_false h8
    refine ChD.skip rfl rfl (ChD.skip rfl rfl (ChD.skip rfl rfl (ChD.skip rfl rfl (ChD.s (.d (.bool false)) [] (.pure (.pickF _ _ _ rfl rfl rfl)) (ChD.s (.d (.bool false)) [] pa (ChD.s (.d (.bool false)) [] pa ?_))))))
    refine ChD.nil (And.intro ?_ (by kernel_rfl))
    refine T_seq (T_region hc (Ch.s (.d (.bool false)) pm (Ch.s (.d (.bool true)) (.pure (.not (b := false) _ _ rfl rfl)) (Ch.s (.d (.bool true)) pm (Ch.s (.d (.bool false)) pm (Ch.s (.d (.bool true)) (.pure (.not (b := false) _ _ rfl rfl)) (Ch.s (.d (.bool true)) pm ?_)))))))
    refine Ch.skip rfl rfl (Ch.skip rfl rfl (Ch.s (.d (.bool true)) (.pure (.pickT _ _ _ rfl rfl rfl)) (Ch.s (.d (.bool true)) (.pure (.pickT _ _ _ rfl rfl rfl)) (Ch.nil ?_))))
    refine T_cond (b := true) rfl (fun _ => ?_) (fun h => nomatch h)
    refine T_seq (T_region hc (Ch.s (.d (.bool false)) pa (Ch.nil (T_ret ?_))))
    exact endR [(.d (.bool false))] [] [] (.cons (.tmp 2 rfl) .nil) (.cons (.any _) .nil) (Exp.of (congrArg D.bool a4) (.d _)) rfl rfl
 ·
  refine T_exit (T_seq (T_region hc (Ch.s (.d (.str u)) pm (Ch.s (.d (.int .i64 (u.length : Int))) (.pure (.lenStr _ _ rfl Tryz.underlying9 rfl)) (Ch.s (.d (.bool (withinB (u.length : Int) 1 6))) (.call 44000 91 _ _ _ en91 rfl (.inl rfl) (.cons (.d _) (.cons (.d _) (.cons (.d _) .nil))) rfl rfl (sp_impl_within (u.length : Int) 1 6) (.skip _ _ (.skip _ _ (.skip _ _ .nil))) rfl) (Ch.s (.d (.bool (withinB (u.length : Int) 1 6))) pa (Ch.nil ?_)))))))
  refine T_ret ?_
  exact endR [(.d (.bool (withinB (u.length : Int) 1 6)))] [] [] (.cons (.tmp 2 rfl) .nil) (.cons (.any _) .nil) (Exp.of (congrArg D.bool a4) (.d _)) rfl rfl

theorem sp_spec_l2Name (u : List UInt8) (hu : u.length ≤ 1048576) : Sp Tryz.prog 218 [(.str u)] [.any] (.bool (nameB u)) := by
 refine Sp_intro (lend := true) Tryz.func218 rfl rfl rfl (fun _ => rfl) (fun c hc hX => ?_)
 refine T_seq (T_region hc (Ch.s (.d (.bool false)) pa (Ch.nil (T_seq (T_seq (T_region hc (Ch.s (.d (.int .i64 0)) pa ?_)))))))
 refine Ch.nil (T_block ?_)
 refine T_loop (ι := Nat) (fun k => { n := 42, sl := [(0, (.d (.str u))), (3, (.d (.int .i64 (k : Int))))], hp := [], pin := [] }) (fun k => k ≤ u.length ∧ ∀ j, j < k → nameCh (u.getD j 0) j = true) (fun k => u.length - k) ⟨0, ⟨by omega, fun j hj => by omega⟩, (Wk.of rfl rfl (ai rfl (ai (vI a114) trivial)) trivial)⟩ (fun k hp0 => ?_)
 refine T_seq (T_seq (T_region hc (Ch.s (.d (.int .i64 (k : Int))) pm (Ch.s (.d (.str u)) pm (Ch.s (.d (.int .i64 (u.length : Int))) (.pure (.lenStr _ _ rfl Tryz.underlying9 rfl)) (Ch.s (.d (.bool (decide ((k : Int) < (u.length : Int))))) (iX rfl rfl rfl) (Ch.nil ?_)))))))
 refine T_condD (p := ((k : Int) < (u.length : Int))) rfl (fun h1 => ?_) (fun h1 => ?_)
 ·
  refine T_skip (T_seq (T_block (T_seq (T_region hc (Ch.s (.d (.str u)) pm (Ch.s (.d (.int .i64 (k : Int))) pm (Ch.s (.d (.int .u8 ((u.getD k 0).toNat : Int))) (.pure (.idxStr _ _ _ (k) rfl Tryz.underlying9 rfl rfl rfl get_strA)) ?_)))))))
  refine Ch.s (.d (.bool (decide (97 ≤ ((u.getD k 0) : UInt8))))) (iX rfl rfl (u8_geq ((u.getD k 0) : UInt8) 97 rfl rfl)) (Ch.s (.d (.bool (decide (97 ≤ ((u.getD k 0) : UInt8))))) pm ?_)
  cases h2 : (decide (97 ≤ ((u.getD k 0) : UInt8))) with
  | true =>
   replace h2 := of_decide_eq_true h2
   refine Ch.s (.d (.str u)) pm (Ch.s (.d (.int .i64 (k : Int))) pm (Ch.s (.d (.int .u8 ((u.getD k 0).toNat : Int))) (.pure (.idxStr _ _ _ (k) rfl Tryz.underlying9 rfl rfl rfl get_strA)) (Ch.s (.d (.bool (decide (((u.getD k 0) : UInt8) ≤ 122)))) (iX rfl rfl (u8_leq ((u.getD k 0) : UInt8) 122 rfl rfl)) (Ch.s (.d (.bool (decide (((u.getD k 0) : UInt8) ≤ 122)))) (.pure (.pickT _ _ _ rfl rfl rfl)) (Ch.s (.d (.bool (decide (((u.getD k 0) : UInt8) ≤ 122)))) pa (Ch.nil (T_seq ?_)))))))
   refine T_region hc (Ch.s (.d (.bool (decide (((u.getD k 0) : UInt8) ≤ 122)))) pm (Ch.s (.d (.bool (!(decide (((u.getD k 0) : UInt8) ≤ 122))))) (.pure (.not _ _ rfl rfl)) (Ch.s (.d (.bool (!(decide (((u.getD k 0) : UInt8) ≤ 122))))) pm ?_)))
   cases h3 : (decide (((u.getD k 0) : UInt8) ≤ 122)) with
   | true =>
    replace h3 := of_decide_eq_true h3
    refine Ch.skip rfl rfl (Ch.skip rfl rfl (Ch.skip rfl rfl (Ch.skip rfl rfl (Ch.skip rfl rfl (Ch.skip rfl rfl (Ch.skip rfl rfl (Ch.skip rfl rfl ?_)))))))
    refine Ch.skip rfl rfl (Ch.skip rfl rfl (Ch.skip rfl rfl (Ch.skip rfl rfl (Ch.skip rfl rfl (Ch.skip rfl rfl (Ch.s (.d (.bool false)) (.pure (.pickF _ _ _ rfl rfl rfl)) (Ch.nil ?_)))))))
    refine T_cond (b := false) rfl (fun h => nomatch h) (fun _ => ?_)
    refine T_skip (T_region hc (Ch.s (.d (.int .i64 (k : Int))) pm (Ch.s (.d (.int .i64 ((k : Int) + 1))) (iX rfl rfl intV_addA) (Ch.s (.d (.int .i64 ((k : Int) + 1))) pa (Ch.nil ?_)))))
    exact nx (k + 1) ⟨by omega, upto_succ hp0.2 a8⟩ (Wk.of rfl rfl (ai rfl (ai (vI a114) trivial)) trivial)
   | false =>
    replace h3 := of_decide_eq_false h3
    refine Ch.s (.d (.int .i64 (k : Int))) pm (Ch.s (.d (.bool (decide ((k : Int) = 0)))) (iX rfl rfl rfl) (Ch.s (.d (.bool (decide ((k : Int) = 0)))) pm ?_))
    cases h4 : (decide ((k : Int) = 0)) with
    | true =>
     replace h4 := of_decide_eq_true h4
     refine Ch.skip rfl rfl (Ch.skip rfl rfl (Ch.skip rfl rfl (Ch.skip rfl rfl (Ch.s (.d (.bool true)) (.pure (.pickT _ _ _ rfl rfl rfl)) (Ch.s (.d (.bool true)) pm (Ch.skip rfl rfl (Ch.skip rfl rfl ?_)))))))
     refine Ch.skip rfl rfl (Ch.skip rfl rfl (Ch.s (.d (.bool true)) (.pure (.pickT _ _ _ rfl rfl rfl)) (Ch.s (.d (.bool true)) (.pure (.pickT _ _ _ rfl rfl rfl)) (Ch.nil ?_))))
     refine T_cond (b := true) rfl (fun _ => ?_) (fun h => nomatch h)
     refine T_seq (T_region hc (Ch.s (.d (.bool false)) pa (Ch.nil (T_ret ?_))))
     exact endR [(.d (.bool false))] [] [] (.cons (.tmp 2 rfl) .nil) (.cons (.any _) .nil) (Exp.of (congrArg D.bool a4) (.d _)) rfl rfl
    | false =>
     replace h4 := of_decide_eq_false h4
     refine Ch.s (.d (.str u)) pm (Ch.s (.d (.int .i64 (k : Int))) pm (Ch.s (.d (.int .u8 ((u.getD k 0).toNat : Int))) (.pure (.idxStr _ _ _ (k) rfl Tryz.underlying9 rfl rfl rfl get_strA)) (Ch.s (.d (.bool (decide (((u.getD k 0) : UInt8) < 48)))) (iX rfl rfl (u8_lss ((u.getD k 0) : UInt8) 48 rfl rfl)) (Ch.s (.d (.bool (decide (((u.getD k 0) : UInt8) < 48)))) (.pure (.pickF _ _ _ rfl rfl rfl)) (Ch.s (.d (.bool (decide (((u.getD k 0) : UInt8) < 48)))) pm ?_)))))
     cases h5 : (decide (((u.getD k 0) : UInt8) < 48)) with
     | true =>
      replace h5 := of_decide_eq_true h5
      refine Ch.skip rfl rfl (Ch.skip rfl rfl (Ch.skip rfl rfl (Ch.skip rfl rfl (Ch.s (.d (.bool true)) (.pure (.pickT _ _ _ rfl rfl rfl)) (Ch.s (.d (.bool true)) (.pure (.pickT _ _ _ rfl rfl rfl)) (Ch.nil ?_))))))
      refine T_cond (b := true) rfl (fun _ => ?_) (fun h => nomatch h)
      refine T_seq (T_region hc (Ch.s (.d (.bool false)) pa (Ch.nil (T_ret ?_))))
      exact endR [(.d (.bool false))] [] [] (.cons (.tmp 2 rfl) .nil) (.cons (.any _) .nil) (Exp.of (congrArg D.bool a4) (.d _)) rfl rfl
     | false =>
      replace h5 := of_decide_eq_false h5
      refine Ch.s (.d (.str u)) pm (Ch.s (.d (.int .i64 (k : Int))) pm (Ch.s (.d (.int .u8 ((u.getD k 0).toNat : Int))) (.pure (.idxStr _ _ _ (k) rfl Tryz.underlying9 rfl rfl rfl get_strA)) (Ch.s (.d (.bool (decide (57 < ((u.getD k 0) : UInt8))))) (iX rfl rfl (u8_gtr ((u.getD k 0) : UInt8) 57 rfl rfl)) (Ch.s (.d (.bool (decide (57 < ((u.getD k 0) : UInt8))))) (.pure (.pickF _ _ _ rfl rfl rfl)) (Ch.s (.d (.bool (decide (57 < ((u.getD k 0) : UInt8))))) (.pure (.pickT _ _ _ rfl rfl rfl)) (Ch.nil ?_))))))
      refine T_condD (p := (57 < ((u.getD k 0) : UInt8))) rfl (fun h6 => ?_) (fun h6 => ?_)
      ·
       refine T_seq (T_region hc (Ch.s (.d (.bool false)) pa (Ch.nil (T_ret ?_))))
       exact endR [(.d (.bool false))] [] [] (.cons (.tmp 2 rfl) .nil) (.cons (.any _) .nil) (Exp.of (congrArg D.bool a4) (.d _)) rfl rfl
      ·
       refine T_skip (T_region hc (Ch.s (.d (.int .i64 (k : Int))) pm (Ch.s (.d (.int .i64 ((k : Int) + 1))) (iX rfl rfl intV_addA) (Ch.s (.d (.int .i64 ((k : Int) + 1))) pa (Ch.nil ?_)))))
       exact nx (k + 1) ⟨by omega, upto_succ hp0.2 a8⟩ (Wk.of rfl rfl (ai rfl (ai (vI a114) trivial)) trivial)
  | false =>
   replace h2 := of_decide_eq_false h2
   refine Ch.skip rfl rfl (Ch.skip rfl rfl (Ch.skip rfl rfl (Ch.skip rfl rfl (Ch.s (.d (.bool false)) (.pure (.pickF _ _ _ rfl rfl rfl)) (Ch.s (.d (.bool false)) pa (Ch.nil (T_seq ?_)))))))
   refine T_region hc (Ch.s (.d (.bool false)) pm (Ch.s (.d (.bool true)) (.pure (.not (b := false) _ _ rfl rfl)) (Ch.s (.d (.bool true)) pm (Ch.s (.d (.int .i64 (k : Int))) pm (Ch.s (.d (.bool (decide ((k : Int) = 0)))) (iX rfl rfl rfl) (Ch.s (.d (.bool (decide ((k : Int) = 0)))) pm ?_))))))
   cases h7 : (decide ((k : Int) = 0)) with
   | true =>
    replace h7 := of_decide_eq_true h7
    refine Ch.skip rfl rfl (Ch.skip rfl rfl (Ch.skip rfl rfl (Ch.skip rfl rfl (Ch.s (.d (.bool true)) (.pure (.pickT _ _ _ rfl rfl rfl)) (Ch.s (.d (.bool true)) pm (Ch.skip rfl rfl (Ch.skip rfl rfl ?_)))))))
    refine Ch.skip rfl rfl (Ch.skip rfl rfl (Ch.s (.d (.bool true)) (.pure (.pickT _ _ _ rfl rfl rfl)) (Ch.s (.d (.bool true)) (.pure (.pickT _ _ _ rfl rfl rfl)) (Ch.nil ?_))))
    refine T_cond (b := true) rfl (fun _ => ?_) (fun h => nomatch h)
    refine T_seq (T_region hc (Ch.s (.d (.bool false)) pa (Ch.nil (T_ret ?_))))
    exact endR [(.d (.bool false))] [] [] (.cons (.tmp 2 rfl) .nil) (.cons (.any _) .nil) (Exp.of (congrArg D.bool a4) (.d _)) rfl rfl
   | false =>
    replace h7 := of_decide_eq_false h7
    refine Ch.s (.d (.str u)) pm (Ch.s (.d (.int .i64 (k : Int))) pm (Ch.s (.d (.int .u8 ((u.getD k 0).toNat : Int))) (.pure (.idxStr _ _ _ (k) rfl Tryz.underlying9 rfl rfl rfl get_strA)) (Ch.s (.d (.bool (decide (((u.getD k 0) : UInt8) < 48)))) (iX rfl rfl (u8_lss ((u.getD k 0) : UInt8) 48 rfl rfl)) (Ch.s (.d (.bool (decide (((u.getD k 0) : UInt8) < 48)))) (.pure (.pickF _ _ _ rfl rfl rfl)) (Ch.s (.d (.bool (decide (((u.getD k 0) : UInt8) < 48)))) pm ?_)))))
    cases h8 : (decide (((u.getD k 0) : UInt8) < 48)) with
    | true =>
     replace h8 := of_decide_eq_true h8
     refine Ch.skip rfl rfl (Ch.skip rfl rfl (Ch.skip rfl rfl (Ch.skip rfl rfl (Ch.s (.d (.bool true)) (.pure (.pickT _ _ _ rfl rfl rfl)) (Ch.s (.d (.bool true)) (.pure (.pickT _ _ _ rfl rfl rfl)) (Ch.nil ?_))))))
     refine T_cond (b := true) rfl (fun _ => ?_) (fun h => nomatch h)
     refine T_seq (T_region hc (Ch.s (.d (.bool false)) pa (Ch.nil (T_ret ?_))))
     exact endR [(.d (.bool false))] [] [] (.cons (.tmp 2 rfl) .nil) (.cons (.any _) .nil) (Exp.of (congrArg D.bool a4) (.d _)) rfl rfl
    | false =>
     replace h8 := of_decide_eq_false h8
     refine Ch.s (.d (.str u)) pm (Ch.s (.d (.int .i64 (k : Int))) pm (Ch.s (.d (.int .u8 ((u.getD k 0).toNat : Int))) (.pure (.idxStr _ _ _ (k) rfl Tryz.underlying9 rfl rfl rfl get_strA)) (Ch.s (.d (.bool (decide (57 < ((u.getD k 0) : UInt8))))) (iX rfl rfl (u8_gtr ((u.getD k 0) : UInt8) 57 rfl rfl)) (Ch.s (.d (.bool (decide (57 < ((u.getD k 0) : UInt8))))) (.pure (.pickF _ _ _ rfl rfl rfl)) (Ch.s (.d (.bool (decide (57 < ((u.getD k 0) : UInt8))))) (.pure (.pickT _ _ _ rfl rfl rfl)) (Ch.nil ?_))))))
     refine T_condD (p := (57 < ((u.getD k 0) : UInt8))) rfl (fun h9 => ?_) (fun h9 => ?_)
     ·
      refine T_seq (T_region hc (Ch.s (.d (.bool false)) pa (Ch.nil (T_ret ?_))))
      exact endR [(.d (.bool false))] [] [] (.cons (.tmp 2 rfl) .nil) (.cons (.any _) .nil) (Exp.of (congrArg D.bool a4) (.d _)) rfl rfl
     ·
      refine T_skip (T_region hc (Ch.s (.d (.int .i64 (k : Int))) pm (Ch.s (.d (.int .i64 ((k : Int) + 1))) (iX rfl rfl intV_addA) (Ch.s (.d (.int .i64 ((k : Int) + 1))) pa (Ch.nil ?_)))))
      exact nx (k + 1) ⟨by omega, upto_succ hp0.2 a8⟩ (Wk.of rfl rfl (ai rfl (ai (vI a114) trivial)) trivial)
 ·
  refine T_exit (T_seq (T_region hc (Ch.s (.d (.str u)) pm (Ch.s (.d (.int .i64 (u.length : Int))) (.pure (.lenStr _ _ rfl Tryz.underlying9 rfl)) (Ch.s (.d (.bool (withinB (u.length : Int) 1 6))) (.call 41000 89 _ _ _ en89 rfl (.inl rfl) (.cons (.d _) (.cons (.d _) (.cons (.d _) .nil))) rfl rfl (sp_spec_l1In (u.length : Int) 1 6) (.skip _ _ (.skip _ _ (.skip _ _ .nil))) rfl) (Ch.s (.d (.bool (withinB (u.length : Int) 1 6))) pa (Ch.nil ?_)))))))
  refine T_ret ?_
  exact endR [(.d (.bool (withinB (u.length : Int) 1 6)))] [] [] (.cons (.tmp 2 rfl) .nil) (.cons (.any _) .nil) (Exp.of (congrArg D.bool a4) (.d _)) rfl rfl

theorem sp_IndexFunc_sgn (xs : List Sgn) (f : FuncId) (caps : List D) (p : Sgn → Bool) (hf : Enters Tryz.prog f) (hp : ∀ x ∈ xs, Sp Tryz.prog f (Sgn.d x :: caps) (.any :: anys caps) (.bool (p x))) (hn : xs.length ≤ 1048576) : Sp Tryz.prog 263 [(.slice false 2 (xs.map Sgn.d)), (.fn f caps)] [.any, .any] (.int .i64 (ixF p xs)) := by
 refine Sp_intro (lend := true) Tryz.func263 rfl rfl rfl (fun _ => rfl) (fun c hc hX => ?_)
 refine T_seq (T_region hc (Ch.s (.d (.int .i64 0)) pa (Ch.nil (T_seq (T_seq (T_region hc (Ch.s (.d (.slice false 2 (xs.map Sgn.d))) pm ?_)))))))
 refine Ch.s (.d (.int .i64 (xs.length : Int))) (.pure (.len _ _ 154 rfl Tryz.underlying32 (.sh _ _) (by simp))) (Ch.s (.d (.int .i64 0)) pm (Ch.nil (T_block ?_)))
 refine T_loop (ι := Nat) (fun k => { n := 19, sl := [(0, (.d (.slice false 2 (xs.map Sgn.d)))), (1, (.d (.fn f caps))), (7, (.d (.int .i64 (xs.length : Int)))), (8, (.d (.int .i64 (k : Int))))], hp := [], pin := [] }) (fun k => k ≤ xs.length ∧ ∀ j, j < k → p (xs.getD j default) = false) (fun k => xs.length - k) ⟨0, ⟨by omega, fun j hj => by omega⟩, (Wk.of rfl rfl (ai rfl (ai rfl (ai rfl (ai (vI a114) trivial)))) trivial)⟩ (fun k hp0 => ?_)
 refine T_seq (T_region hc (Ch.s (.d (.bool (decide ((k : Int) < (xs.length : Int))))) (iX rfl rfl rfl) (Ch.nil (T_seq ?_))))
 refine T_condD (p := ((k : Int) < (xs.length : Int))) rfl (fun h1 => ?_) (fun h1 => ?_)
 ·
  refine T_skip (T_seq (T_block (T_seq (T_region hc (Ch.s (.d (.int .i64 (k : Int))) pm (Ch.s (.d (.int .i64 (k : Int))) pa (Ch.nil ?_)))))))
  refine T_seq (T_region hc (Ch.s (.d (.fn f caps)) pm (Ch.s (.d (.slice false 2 (xs.map Sgn.d))) pm (Ch.s (.d (.int .i64 (k : Int))) pm (Ch.s (.d (.ref (.agg [(.str ((xs.getD k default).name)), (.int .i64 ((xs.getD k default).kind))]))) (.pure (.idx _ _ _ 154 (k) rfl Tryz.underlying32 sz154 rfl rfl rfl get_mapA)) (Ch.s (.d (.agg [(.str ((xs.getD k default).name)), (.int .i64 ((xs.getD k default).kind))])) (.pure (.loadRefA _ _ rfl ag154 sz154 rfl)) ?_))))))
  refine Ch.step (v := (.d (.bool (p (xs.getD k default))))) rfl (.callS 16000 f _ #[.tmp 15] _ hf rfl (.inr ⟨caps, rfl, rfl⟩) (.cons (.d _) (exps_ds caps)) rfl (hp _ (getD_mem (by omega))) (.skip _ _ (back_anys caps)) rfl) rfl rfl ?_
  refine Ch.nil ?_
  refine T_cond (b := (p (xs.getD k default))) rfl (fun h2 => ?_) (fun h2 => ?_)
  ·
   refine T_seq (T_region hc (Ch.s (.d (.int .i64 (k : Int))) pm (Ch.s (.d (.int .i64 (k : Int))) pa (Ch.nil (T_ret ?_)))))
   exact endR [(.d (.int .i64 (k : Int)))] [] [] (.cons (.tmp 4 rfl) .nil) (.cons (.any _) (.cons (.any _) .nil)) (Exp.of (congrArg (D.int .i64) a96) (.d _)) rfl rfl
  ·
   refine T_skip (T_region hc (Ch.s (.d (.int .i64 ((k : Int) + 1))) (iX rfl rfl intV_addA) (Ch.s (.d (.int .i64 ((k : Int) + 1))) pm (Ch.nil ?_))))
   exact nx (k + 1) ⟨by omega, upto_succ hp0.2 (by assumption)⟩ (Wk.of rfl rfl (ai rfl (ai rfl (ai rfl (ai (vI a114) trivial)))) trivial)
 ·
  refine T_exit (T_seq (T_region hc (Ch.s (.d (.int .i64 (-1))) pa (Ch.nil (T_ret ?_)))))
  exact endR [(.d (.int .i64 (-1)))] [] [] (.cons (.tmp 4 rfl) .nil) (.cons (.any _) (.cons (.any _) .nil)) (Exp.of (congrArg (D.int .i64) a97) (.d _)) rfl rfl

theorem sp_ContainsFunc_sgn (xs : List Sgn) (f : FuncId) (caps : List D) (p : Sgn → Bool) (hf : Enters Tryz.prog f) (hp : ∀ x ∈ xs, Sp Tryz.prog f (Sgn.d x :: caps) (.any :: anys caps) (.bool (p x))) (hn : xs.length ≤ 1048576) : Sp Tryz.prog 235 [(.slice false 2 (xs.map Sgn.d)), (.fn f caps)] [.any, .any] (.bool (xs.any p)) := by
 refine Sp_intro (lend := true) Tryz.func235 rfl rfl rfl (fun _ => rfl) (fun c hc hX => ?_)
 refine T_seq (T_region hc (Ch.s (.d (.bool false)) pa (Ch.nil (T_seq (T_region hc (Ch.s (.d (.slice false 2 (xs.map Sgn.d))) pm (Ch.s (.d (.fn f caps)) pm ?_)))))))
 refine Ch.s (.d (.int .i64 (ixF p xs))) (.call 7000 263 _ _ _ en263 rfl (.inl rfl) (.cons (.d _) (.cons (.d _) .nil)) rfl rfl (sp_IndexFunc_sgn xs f caps p hf hp a23) (.skip _ _ (.skip _ _ .nil)) rfl) (Ch.s (.d (.bool (decide (0 ≤ (ixF p xs))))) (iX rfl rfl rfl) (Ch.s (.d (.bool (decide (0 ≤ (ixF p xs))))) pa (Ch.nil (T_ret ?_))))
 exact endR [(.d (.bool (decide (0 ≤ (ixF p xs)))))] [] [] (.cons (.tmp 4 rfl) .nil) (.cons (.any _) (.cons (.any _) .nil)) (Exp.of (congrArg D.bool (by exact ixF_nonneg p xs)) (.d _)) rfl rfl

theorem sp_IndexFunc_arc (xs : List Arc) (f : FuncId) (caps : List D) (p : Arc → Bool) (hf : Enters Tryz.prog f) (hp : ∀ x ∈ xs, Sp Tryz.prog f (Arc.d x :: caps) (.any :: anys caps) (.bool (p x))) (hn : xs.length ≤ 1048576) : Sp Tryz.prog 251 [(.slice false 4 (xs.map Arc.d)), (.fn f caps)] [.any, .any] (.int .i64 (ixF p xs)) := by
 refine Sp_intro (lend := true) Tryz.func251 rfl rfl rfl (fun _ => rfl) (fun c hc hX => ?_)
 refine T_seq (T_region hc (Ch.s (.d (.int .i64 0)) pa (Ch.nil (T_seq (T_seq (T_region hc (Ch.s (.d (.slice false 4 (xs.map Arc.d))) pm ?_)))))))
 refine Ch.s (.d (.int .i64 (xs.length : Int))) (.pure (.len _ _ 125 rfl Tryz.underlying33 (.sh _ _) (by simp))) (Ch.s (.d (.int .i64 0)) pm (Ch.nil (T_block ?_)))
 refine T_loop (ι := Nat) (fun k => { n := 19, sl := [(0, (.d (.slice false 4 (xs.map Arc.d)))), (1, (.d (.fn f caps))), (7, (.d (.int .i64 (xs.length : Int)))), (8, (.d (.int .i64 (k : Int))))], hp := [], pin := [] }) (fun k => k ≤ xs.length ∧ ∀ j, j < k → p (xs.getD j default) = false) (fun k => xs.length - k) ⟨0, ⟨by omega, fun j hj => by omega⟩, (Wk.of rfl rfl (ai rfl (ai rfl (ai rfl (ai (vI a114) trivial)))) trivial)⟩ (fun k hp0 => ?_)
 refine T_seq (T_region hc (Ch.s (.d (.bool (decide ((k : Int) < (xs.length : Int))))) (iX rfl rfl rfl) (Ch.nil (T_seq ?_))))
 refine T_condD (p := ((k : Int) < (xs.length : Int))) rfl (fun h1 => ?_) (fun h1 => ?_)
 ·
  refine T_skip (T_seq (T_block (T_seq (T_region hc (Ch.s (.d (.int .i64 (k : Int))) pm (Ch.s (.d (.int .i64 (k : Int))) pa (Ch.nil ?_)))))))
  refine T_seq (T_region hc (Ch.s (.d (.fn f caps)) pm (Ch.s (.d (.slice false 4 (xs.map Arc.d))) pm (Ch.s (.d (.int .i64 (k : Int))) pm (Ch.s (.d (.ref (.agg [(.int .i64 ((xs.getD k default).src)), (.int .i64 ((xs.getD k default).sig)), (.bool ((xs.getD k default).up)), (.int .i64 ((xs.getD k default).dst))]))) (.pure (.idx _ _ _ 125 (k) rfl Tryz.underlying33 sz125 rfl rfl rfl get_mapA)) (Ch.s (.d (.agg [(.int .i64 ((xs.getD k default).src)), (.int .i64 ((xs.getD k default).sig)), (.bool ((xs.getD k default).up)), (.int .i64 ((xs.getD k default).dst))])) (.pure (.loadRefA _ _ rfl ag125 sz125 rfl)) ?_))))))
  refine Ch.step (v := (.d (.bool (p (xs.getD k default))))) rfl (.callS 16000 f _ #[.tmp 15] _ hf rfl (.inr ⟨caps, rfl, rfl⟩) (.cons (.d _) (exps_ds caps)) rfl (hp _ (getD_mem (by omega))) (.skip _ _ (back_anys caps)) rfl) rfl rfl ?_
  refine Ch.nil ?_
  refine T_cond (b := (p (xs.getD k default))) rfl (fun h2 => ?_) (fun h2 => ?_)
  ·
   refine T_seq (T_region hc (Ch.s (.d (.int .i64 (k : Int))) pm (Ch.s (.d (.int .i64 (k : Int))) pa (Ch.nil (T_ret ?_)))))
   exact endR [(.d (.int .i64 (k : Int)))] [] [] (.cons (.tmp 4 rfl) .nil) (.cons (.any _) (.cons (.any _) .nil)) (Exp.of (congrArg (D.int .i64) a96) (.d _)) rfl rfl
  ·
   refine T_skip (T_region hc (Ch.s (.d (.int .i64 ((k : Int) + 1))) (iX rfl rfl intV_addA) (Ch.s (.d (.int .i64 ((k : Int) + 1))) pm (Ch.nil ?_))))
   exact nx (k + 1) ⟨by omega, upto_succ hp0.2 (by assumption)⟩ (Wk.of rfl rfl (ai rfl (ai rfl (ai rfl (ai (vI a114) trivial)))) trivial)
 ·
  refine T_exit (T_seq (T_region hc (Ch.s (.d (.int .i64 (-1))) pa (Ch.nil (T_ret ?_)))))
  exact endR [(.d (.int .i64 (-1)))] [] [] (.cons (.tmp 4 rfl) .nil) (.cons (.any _) (.cons (.any _) .nil)) (Exp.of (congrArg (D.int .i64) a97) (.d _)) rfl rfl

theorem sp_ContainsFunc_arc (xs : List Arc) (f : FuncId) (caps : List D) (p : Arc → Bool) (hf : Enters Tryz.prog f) (hp : ∀ x ∈ xs, Sp Tryz.prog f (Arc.d x :: caps) (.any :: anys caps) (.bool (p x))) (hn : xs.length ≤ 1048576) : Sp Tryz.prog 207 [(.slice false 4 (xs.map Arc.d)), (.fn f caps)] [.any, .any] (.bool (xs.any p)) := by
 refine Sp_intro (lend := true) Tryz.func207 rfl rfl rfl (fun _ => rfl) (fun c hc hX => ?_)
 refine T_seq (T_region hc (Ch.s (.d (.bool false)) pa (Ch.nil (T_seq (T_region hc (Ch.s (.d (.slice false 4 (xs.map Arc.d))) pm (Ch.s (.d (.fn f caps)) pm ?_)))))))
 refine Ch.s (.d (.int .i64 (ixF p xs))) (.call 7000 251 _ _ _ en251 rfl (.inl rfl) (.cons (.d _) (.cons (.d _) .nil)) rfl rfl (sp_IndexFunc_arc xs f caps p hf hp a23) (.skip _ _ (.skip _ _ .nil)) rfl) (Ch.s (.d (.bool (decide (0 ≤ (ixF p xs))))) (iX rfl rfl rfl) (Ch.s (.d (.bool (decide (0 ≤ (ixF p xs))))) pa (Ch.nil (T_ret ?_))))
 exact endR [(.d (.bool (decide (0 ≤ (ixF p xs)))))] [] [] (.cons (.tmp 4 rfl) .nil) (.cons (.any _) (.cons (.any _) .nil)) (Exp.of (congrArg D.bool (by exact ixF_nonneg p xs)) (.d _)) rfl rfl

theorem sp_impl_areSignals_1 (y x : Sgn) : Sp Tryz.prog 236 [(.agg [(.str y.name), (.int .i64 y.kind)]), (.ref (.agg [(.str x.name), (.int .i64 x.kind)]))] [.any, .any] (.bool (decide (y.name = x.name))) := by
 refine Sp_intro (lend := true) Tryz.func236 rfl rfl rfl (fun _ => rfl) (fun c hc hX => ?_)
 refine T_seq (T_region hc (Ch.s (.ptr 2000 0) (.box 2000 _ _ rfl (.aggD _)) (Ch.s (.d (.bool false)) pa (Ch.nil (T_seq (T_region hc (Ch.s (.ptr 2000 0) (.pure (.fldPtr _ _ _ rfl fld154_0 rfl)) ?_)))))))
 refine Ch.s (.d (.str y.name)) (.pure (.loadPtr1 _ _ rfl ag9 rfl rfl rfl)) (Ch.s (.d (.ref (.str x.name))) (.pure (.fldRef _ _ _ rfl fld154_0 rfl rfl rfl)) (Ch.s (.d (.str x.name)) (.pure (.loadRef1 _ _ rfl ag9 rfl rfl)) (Ch.s (.d (.bool (decide (y.name = x.name)))) (.pure (.str _ _ _ _ _ rfl rfl rfl rfl)) (Ch.s (.d (.bool (decide (y.name = x.name)))) pa (Ch.nil (T_ret ?_))))))
 exact endR [(.d (.bool (decide (y.name = x.name))))] [] [] (.cons (.tmp 3 rfl) .nil) (.cons (.any _) (.cons (.any _) .nil)) (.d _) rfl rfl

theorem sp_impl_areSignals (xs : List Sgn) (hb : bulkF Sgn.bulk xs ≤ 1048576) : Sp Tryz.prog 186 [(.slice false 2 (xs.map Sgn.d))] [.any] (.bool (sigsB xs)) := by
 refine Sp_intro (lend := true) Tryz.func186 rfl rfl rfl (fun _ => rfl) (fun c hc hX => ?_)
 have hn := bulkF_len hb
 refine T_seq (T_region hc (Ch.s (.d (.bool false)) pa (Ch.nil (T_seq (T_seq (T_region hc (Ch.s (.d (.slice false 2 (xs.map Sgn.d))) pm ?_)))))))
 refine Ch.s (.d (.int .i64 (xs.length : Int))) (.pure (.len _ _ 154 rfl Tryz.underlying32 (.sh _ _) (by simp))) (Ch.s (.d (.int .i64 0)) pm (Ch.nil (T_block ?_)))
 refine T_loop (ι := Nat) (fun k => { n := 33, sl := [(0, (.d (.slice false 2 (xs.map Sgn.d)))), (5, (.d (.slice false 2 (xs.map Sgn.d)))), (6, (.d (.int .i64 (xs.length : Int)))), (7, (.d (.int .i64 (k : Int))))], hp := [], pin := [] }) (fun k => k ≤ xs.length ∧ ∀ j, j < k → sigOk xs j = true) (fun k => xs.length - k) ⟨0, ⟨by omega, fun j hj => by omega⟩, (Wk.of rfl rfl (ai rfl (ai rfl (ai rfl (ai (vI a114) trivial)))) trivial)⟩ (fun k hp0 => ?_)
 refine T_seq (T_region hc (Ch.s (.d (.bool (decide ((k : Int) < (xs.length : Int))))) (iX rfl rfl rfl) (Ch.nil (T_seq ?_))))
 refine T_condD (p := ((k : Int) < (xs.length : Int))) rfl (fun h1 => ?_) (fun h1 => ?_)
 ·
  try have hk : (xs.getD k default).name.length ≤ 1048576 := bulkF_mem hb _ (getD_mem (l := xs) (j := k) (d := default) (by omega))
  refine T_skip (T_seq (T_block (T_seq (T_region hc (Ch.s (.d (.int .i64 (k : Int))) pm (Ch.s (.d (.ref (.agg [(.str ((xs.getD k default).name)), (.int .i64 ((xs.getD k default).kind))]))) (.pure (.idx _ _ _ 154 (k) rfl Tryz.underlying32 sz154 rfl rfl rfl get_mapA)) (Ch.s (.d (.agg [(.str ((xs.getD k default).name)), (.int .i64 ((xs.getD k default).kind))])) (.pure (.loadRefA _ _ rfl ag154 sz154 rfl)) ?_)))))))
  refine Ch.s (.ptr 4000 0) (.alloc 4000 _ rfl zer154) (Ch.s (.d (.int .i64 (k : Int))) pa (Ch.s .junk (.storePtr _ _ _ rfl rfl rfl (.aggD _) sz154 (lb rfl)) (Ch.nil (T_seq (T_region hc (Ch.s (.ptr 4000 0) (.pure (.fldPtr _ _ _ rfl fld154_0 rfl)) (Ch.s (.d (.str ((xs.getD k default).name))) (.pure (.loadPtr1 _ _ rfl ag9 rfl rfl rfl)) ?_)))))))
  refine Ch.s (.d (.bool (nameB ((xs.getD k default).name)))) (.call 14000 234 _ _ _ en234 rfl (.inl rfl) (.cons (.d _) .nil) rfl rfl (sp_impl_isName ((xs.getD k default).name) a23) (.skip _ _ .nil) rfl) (Ch.s (.d (.bool (!(nameB ((xs.getD k default).name))))) (.pure (.not _ _ rfl rfl)) (Ch.s (.d (.bool (!(nameB ((xs.getD k default).name))))) pm ?_))
  cases h2 : (nameB ((xs.getD k default).name)) with
  | true =>
   refine Ch.s (.ptr 4000 1) (.pure (.fldPtr _ _ _ rfl fld154_1 rfl)) (Ch.s (.d (.int .i64 ((xs.getD k default).kind))) (.pure (.loadPtr1 _ _ rfl ag3 rfl rfl rfl)) (Ch.s (.d (.bool (withinB ((xs.getD k default).kind) 1 3))) (.call 19000 91 _ _ _ en91 rfl (.inl rfl) (.cons (.d _) (.cons (.d _) (.cons (.d _) .nil))) rfl rfl (sp_impl_within ((xs.getD k default).kind) 1 3) (.skip _ _ (.skip _ _ (.skip _ _ .nil))) rfl) (Ch.s (.d (.bool (!(withinB ((xs.getD k default).kind) 1 3)))) (.pure (.not _ _ rfl rfl)) (Ch.s (.d (.bool (!(withinB ((xs.getD k default).kind) 1 3)))) (.pure (.pickF _ _ _ rfl rfl rfl)) (Ch.s (.d (.bool (!(withinB ((xs.getD k default).kind) 1 3)))) pm ?_)))))
   cases h3 : (withinB ((xs.getD k default).kind) 1 3) with
   | true =>
    refine Ch.s (.d (.slice false 2 (xs.map Sgn.d))) pm (Ch.s (.d (.int .i64 (k : Int))) pm (Ch.s (.d (.slice false 2 ((xs.take k).map Sgn.d))) (.pure (.sliceSh _ _ _ _ 154 (0) (k) rfl Tryz.underlying32 sz154 rfl (bndN rfl) (bndS rfl rfl) (by simp <;> omega) (by simp <;> omega) a76)) (Ch.s (.fn 236 [(.ptr 4000 0)]) (.pure (.func _ _ rfl rfl)) (Ch.s (.d (.bool ((xs.take k).any (fun y => decide (y.name = (xs.getD k default).name))))) (.call 27000 235 _ _ _ en235 rfl (.inl rfl) (.cons (.d _) (.cons (.lend (.fn (.cons (.ptr rfl (.agg (.cons (.d _) (.cons (.d _) .nil)) rfl)) .nil))) .nil)) rfl rfl (sp_ContainsFunc_sgn (xs.take k) 236 [(.ref (.agg [(.str ((xs.getD k default).name)), (.int .i64 ((xs.getD k default).kind))]))] (fun y => decide (y.name = (xs.getD k default).name)) en236 (fun y _ => sp_impl_areSignals_1 y (xs.getD k default)) a23) (.skip _ _ (.skip _ _ .nil)) rfl) (Ch.s (.d (.bool ((xs.take k).any (fun y => decide (y.name = (xs.getD k default).name))))) (.pure (.pickF _ _ _ rfl rfl rfl)) (Ch.nil ?_))))))
    refine T_cond (b := ((xs.take k).any (fun y => decide (y.name = (xs.getD k default).name)))) rfl (fun h4 => ?_) (fun h4 => ?_)
    ·
     refine T_seq (T_region hc (Ch.s (.d (.bool false)) pa (Ch.nil (T_ret ?_))))
     exact endR [(.d (.bool false))] [] [] (.cons (.tmp 2 rfl) .nil) (.cons (.any _) .nil) (Exp.of (congrArg D.bool a35) (.d _)) rfl rfl
    ·
     refine T_skip (T_region hc (Ch.s (.d (.int .i64 ((k : Int) + 1))) (iX rfl rfl intV_addA) (Ch.s (.d (.int .i64 ((k : Int) + 1))) pm (Ch.nil ?_))))
     exact nx (k + 1) ⟨by omega, upto_succ hp0.2 a63⟩ (Wk.of rfl rfl (ai rfl (ai rfl (ai rfl (ai (vI a114) trivial)))) trivial)
   | false =>
    refine Ch.skip rfl rfl (Ch.skip rfl rfl (Ch.skip rfl rfl (Ch.skip rfl rfl (Ch.skip rfl rfl (Ch.s (.d (.bool true)) (.pure (.pickT _ _ _ rfl rfl rfl)) (Ch.nil ?_))))))
    refine T_cond (b := true) rfl (fun _ => ?_) (fun h => nomatch h)
    refine T_seq (T_region hc (Ch.s (.d (.bool false)) pa (Ch.nil (T_ret ?_))))
    exact endR [(.d (.bool false))] [] [] (.cons (.tmp 2 rfl) .nil) (.cons (.any _) .nil) (Exp.of (congrArg D.bool a35) (.d _)) rfl rfl
  | false =>
   refine Ch.skip rfl rfl (Ch.skip rfl rfl (Ch.skip rfl rfl (Ch.skip rfl rfl (Ch.s (.d (.bool true)) (.pure (.pickT _ _ _ rfl rfl rfl)) (Ch.s (.d (.bool true)) pm (Ch.skip rfl rfl (Ch.skip rfl rfl ?_)))))))
   refine Ch.skip rfl rfl (Ch.skip rfl rfl (Ch.skip rfl rfl (Ch.s (.d (.bool true)) (.pure (.pickT _ _ _ rfl rfl rfl)) (Ch.nil ?_))))
   refine T_cond (b := true) rfl (fun _ => ?_) (fun h => nomatch h)
   refine T_seq (T_region hc (Ch.s (.d (.bool false)) pa (Ch.nil (T_ret ?_))))
   exact endR [(.d (.bool false))] [] [] (.cons (.tmp 2 rfl) .nil) (.cons (.any _) .nil) (Exp.of (congrArg D.bool a35) (.d _)) rfl rfl
 ·
  try have hk : (xs.getD k default).name.length ≤ 1048576 := bulkF_mem hb _ (getD_mem (l := xs) (j := k) (d := default) (by omega))
  refine T_exit (T_seq (T_region hc (Ch.s (.d (.slice false 2 (xs.map Sgn.d))) pm (Ch.s (.d (.int .i64 (xs.length : Int))) (.pure (.len _ _ 154 rfl Tryz.underlying32 (.sh _ _) (by simp))) (Ch.s (.d (.bool (withinB (xs.length : Int) 1 8))) (.call 32000 91 _ _ _ en91 rfl (.inl rfl) (.cons (.d _) (.cons (.d _) (.cons (.d _) .nil))) rfl rfl (sp_impl_within (xs.length : Int) 1 8) (.skip _ _ (.skip _ _ (.skip _ _ .nil))) rfl) (Ch.s (.d (.bool (withinB (xs.length : Int) 1 8))) pa (Ch.nil ?_)))))))
  refine T_ret ?_
  exact endR [(.d (.bool (withinB (xs.length : Int) 1 8)))] [] [] (.cons (.tmp 2 rfl) .nil) (.cons (.any _) .nil) (Exp.of (congrArg D.bool a35) (.d _)) rfl rfl

theorem any_take {xs : List Sgn} {k m : Nat} (hk : k ≤ xs.length) (hm : (xs.take k).length ≤ m) (h : ∀ j, j < m → decide (((xs.take k).getD j default).name = (xs.getD k default).name) = false) : ((xs.take k).any fun y => decide (y.name = (xs.getD k default).name)) = false :=
 (any_no default fun j hj => h j (by omega)).symm

theorem sp_spec_l2Signals (xs : List Sgn) (hb : bulkF Sgn.bulk xs ≤ 1048576) : Sp Tryz.prog 162 [(.slice false 2 (xs.map Sgn.d))] [.any] (.bool (sigsB xs)) := by
 refine Sp_intro (lend := true) Tryz.func162 rfl rfl rfl (fun _ => rfl) (fun c hc hX => ?_)
 have hn := bulkF_len hb
 refine T_seq (T_region hc (Ch.s (.d (.bool false)) pa (Ch.nil (T_seq (T_seq (T_region hc (Ch.s (.d (.slice false 2 (xs.map Sgn.d))) pm ?_)))))))
 refine Ch.s (.d (.int .i64 (xs.length : Int))) (.pure (.len _ _ 154 rfl Tryz.underlying32 (.sh _ _) (by simp))) (Ch.s (.d (.int .i64 0)) pm (Ch.nil (T_block ?_)))
 refine T_loop (ι := Nat) (fun k => { n := 42, sl := [(0, (.d (.slice false 2 (xs.map Sgn.d)))), (7, (.d (.slice false 2 (xs.map Sgn.d)))), (8, (.d (.int .i64 (xs.length : Int)))), (9, (.d (.int .i64 (k : Int))))], hp := [], pin := [] }) (fun k => k ≤ xs.length ∧ ∀ j, j < k → sigOk xs j = true) (fun k => xs.length - k) ⟨0, ⟨by omega, fun j hj => by omega⟩, (Wk.of rfl rfl (ai rfl (ai rfl (ai rfl (ai (vI a114) trivial)))) trivial)⟩ (fun k hp0 => ?_)
 refine T_seq (T_region hc (Ch.s (.d (.bool (decide ((k : Int) < (xs.length : Int))))) (iX rfl rfl rfl) (Ch.nil (T_seq ?_))))
 refine T_condD (p := ((k : Int) < (xs.length : Int))) rfl (fun h1 => ?_) (fun h1 => ?_)
 ·
  try have hk : (xs.getD k default).name.length ≤ 1048576 := bulkF_mem hb _ (getD_mem (l := xs) (j := k) (d := default) (by omega))
  refine T_skip (T_seq (T_block (T_seq (T_region hc (Ch.s (.d (.int .i64 (k : Int))) pm (Ch.s (.d (.ref (.agg [(.str ((xs.getD k default).name)), (.int .i64 ((xs.getD k default).kind))]))) (.pure (.idx _ _ _ 154 (k) rfl Tryz.underlying32 sz154 rfl rfl rfl get_mapA)) (Ch.s (.d (.agg [(.str ((xs.getD k default).name)), (.int .i64 ((xs.getD k default).kind))])) (.pure (.loadRefA _ _ rfl ag154 sz154 rfl)) ?_)))))))
  refine Ch.s (.ptr 4000 0) (.alloc 4000 _ rfl zer154) (Ch.s (.d (.int .i64 (k : Int))) pa (Ch.s .junk (.storePtr _ _ _ rfl rfl rfl (.aggD _) sz154 (lb rfl)) (Ch.nil (T_seq (T_seq (T_region hc (Ch.s (.ptr 4000 0) (.pure (.fldPtr _ _ _ rfl fld154_0 rfl)) ?_)))))))
  refine Ch.s (.d (.str ((xs.getD k default).name))) (.pure (.loadPtr1 _ _ rfl ag9 rfl rfl rfl)) (Ch.s (.d (.bool (nameB ((xs.getD k default).name)))) (.call 16000 218 _ _ _ en218 rfl (.inl rfl) (.cons (.d _) .nil) rfl rfl (sp_spec_l2Name ((xs.getD k default).name) a23) (.skip _ _ .nil) rfl) (Ch.s (.d (.bool (!(nameB ((xs.getD k default).name))))) (.pure (.not _ _ rfl rfl)) (Ch.s (.d (.bool (!(nameB ((xs.getD k default).name))))) pm ?_)))
  cases h2 : (nameB ((xs.getD k default).name)) with
  | true =>
   refine Ch.s (.ptr 4000 1) (.pure (.fldPtr _ _ _ rfl fld154_1 rfl)) (Ch.s (.d (.int .i64 ((xs.getD k default).kind))) (.pure (.loadPtr1 _ _ rfl ag3 rfl rfl rfl)) (Ch.s (.d (.bool (withinB ((xs.getD k default).kind) 1 3))) (.call 21000 89 _ _ _ en89 rfl (.inl rfl) (.cons (.d _) (.cons (.d _) (.cons (.d _) .nil))) rfl rfl (sp_spec_l1In ((xs.getD k default).kind) 1 3) (.skip _ _ (.skip _ _ (.skip _ _ .nil))) rfl) (Ch.s (.d (.bool (!(withinB ((xs.getD k default).kind) 1 3)))) (.pure (.not _ _ rfl rfl)) (Ch.s (.d (.bool (!(withinB ((xs.getD k default).kind) 1 3)))) (.pure (.pickF _ _ _ rfl rfl rfl)) (Ch.nil ?_)))))
   refine T_condN (b := (withinB ((xs.getD k default).kind) 1 3)) rfl (fun h3 => ?_) (fun h3 => ?_)
   ·
    refine T_seq (T_region hc (Ch.s (.d (.bool false)) pa (Ch.nil (T_ret ?_))))
    exact endR [(.d (.bool false))] [] [] (.cons (.tmp 2 rfl) .nil) (.cons (.any _) .nil) (Exp.of (congrArg D.bool a25) (.d _)) rfl rfl
   ·
    refine T_skip (T_seq (T_region hc (Ch.s (.d (.slice false 2 (xs.map Sgn.d))) pm (Ch.s (.d (.int .i64 (k : Int))) pm (Ch.s (.d (.slice false 2 ((xs.take k).map Sgn.d))) (.pure (.sliceSh _ _ _ _ 154 (0) (k) rfl Tryz.underlying32 sz154 rfl (bndN rfl) (bndS rfl rfl) (by simp <;> omega) (by simp <;> omega) a76)) (Ch.s (.d (.int .i64 ((xs.take k).length : Int))) (.pure (.len _ _ 154 rfl Tryz.underlying32 (.sh _ _) (by simp))) (Ch.s (.d (.int .i64 0)) pm ?_)))))))
    refine Ch.nil (T_block ?_)
    refine T_loop (ι := Nat) (fun m => { n := 42, sl := [(0, (.d (.slice false 2 (xs.map Sgn.d)))), (4, (.ptr 4000 0)), (7, (.d (.slice false 2 (xs.map Sgn.d)))), (8, (.d (.int .i64 (xs.length : Int)))), (9, (.d (.int .i64 (k : Int)))), (26, (.d (.slice false 2 ((xs.take k).map Sgn.d)))), (27, (.d (.int .i64 ((xs.take k).length : Int)))), (28, (.d (.int .i64 (m : Int))))], hp := [(4000, (some (.box [(.d (.str ((xs.getD k default).name))), (.d (.int .i64 ((xs.getD k default).kind)))])))], pin := [] }) (fun m => m ≤ (xs.take k).length ∧ ∀ j, j < m → decide (((xs.take k).getD j default).name = (xs.getD k default).name) = false) (fun m => (xs.take k).length - m) ⟨0, ⟨by omega, fun j hj => by omega⟩, (Wk.of rfl rfl (ai rfl (ai rfl (ai rfl (ai rfl (ai rfl (ai rfl (ai rfl (ai (vI a114) trivial)))))))) (ai rfl trivial))⟩ (fun m hp1 => ?_)
    have hlt : (xs.take k).length = k := by simp; omega
    refine T_seq (T_region hc (Ch.s (.d (.bool (decide ((m : Int) < ((xs.take k).length : Int))))) (iX rfl rfl rfl) (Ch.nil (T_seq ?_))))
    refine T_condD (p := ((m : Int) < ((xs.take k).length : Int))) rfl (fun h4 => ?_) (fun h4 => ?_)
    ·
     refine T_skip (T_seq (T_block (T_seq (T_region hc (Ch.s (.d (.ref (.agg [(.str (((xs.take k).getD m default).name)), (.int .i64 (((xs.take k).getD m default).kind))]))) (.pure (.idx _ _ _ 154 (m) rfl Tryz.underlying32 sz154 rfl rfl rfl get_mapA)) (Ch.s (.d (.agg [(.str (((xs.take k).getD m default).name)), (.int .i64 (((xs.take k).getD m default).kind))])) (.pure (.loadRefA _ _ rfl ag154 sz154 rfl)) (Ch.s (.ptr 6000 0) (.alloc 6000 _ rfl zer154) ?_)))))))
     refine Ch.s .junk (.storePtr _ _ _ rfl rfl rfl (.aggD _) sz154 (lb rfl)) (Ch.nil (T_seq (T_region hc (Ch.s (.ptr 4000 0) (.pure (.fldPtr _ _ _ rfl fld154_0 rfl)) (Ch.s (.d (.str ((xs.getD k default).name))) (.pure (.loadPtr1 _ _ rfl ag9 rfl rfl rfl)) (Ch.s (.ptr 6000 0) (.pure (.fldPtr _ _ _ rfl fld154_0 rfl)) (Ch.s (.d (.str (((xs.take k).getD m default).name))) (.pure (.loadPtr1 _ _ rfl ag9 rfl rfl rfl)) ?_)))))))
     refine Ch.s (.d (.bool (decide (((xs.getD k default).name) = (((xs.take k).getD m default).name))))) (.pure (.str _ _ _ _ _ rfl rfl rfl rfl)) (Ch.nil ?_)
     refine T_condD (p := (((xs.getD k default).name) = (((xs.take k).getD m default).name))) rfl (fun h5 => ?_) (fun h5 => ?_)
     ·
      try have hy := any_yes (p := fun y : Sgn => decide (y.name = (xs.getD k default).name)) (l := xs.take k) default m (by omega) (decide_eq_true h5.symm)
      refine T_seq (T_region hc (Ch.s (.d (.bool false)) pa (Ch.nil (T_ret ?_))))
      exact endR [(.d (.bool false))] [] [] (.cons (.tmp 2 rfl) .nil) (.cons (.any _) .nil) (Exp.of (congrArg D.bool a25) (.d _)) rfl rfl
     ·
      try have hy := any_yes (p := fun y : Sgn => decide (y.name = (xs.getD k default).name)) (l := xs.take k) default m (by omega) (decide_eq_true h5.symm)
      refine T_skip (T_region hc (Ch.s (.d (.int .i64 ((m : Int) + 1))) (iX rfl rfl intV_addA) (Ch.s (.d (.int .i64 ((m : Int) + 1))) pm (Ch.nil ?_))))
      exact nx (m + 1) ⟨by omega, upto_succ hp1.2 (by first | (simp_all; done) | (exact decide_eq_false (fun e => (by assumption : ¬ _) e.symm)))⟩ (Wk.of rfl rfl (ai rfl (ai rfl (ai rfl (ai rfl (ai rfl (ai rfl (ai rfl (ai (vI a114) trivial)))))))) (ai rfl trivial))
    ·
     refine T_exit (T_region hc (Ch.s (.d (.int .i64 ((k : Int) + 1))) (iX rfl rfl intV_addA) (Ch.s (.d (.int .i64 ((k : Int) + 1))) pm (Ch.nil ?_))))
     exact nx (k + 1) ⟨by omega, upto_succ hp0.2 a63⟩ (Wk.of rfl rfl (ai rfl (ai rfl (ai rfl (ai (vI a114) trivial)))) trivial)
  | false =>
   refine Ch.skip rfl rfl (Ch.skip rfl rfl (Ch.skip rfl rfl (Ch.skip rfl rfl (Ch.s (.d (.bool true)) (.pure (.pickT _ _ _ rfl rfl rfl)) (Ch.nil ?_)))))
   refine T_cond (b := true) rfl (fun _ => ?_) (fun h => nomatch h)
   refine T_seq (T_region hc (Ch.s (.d (.bool false)) pa (Ch.nil (T_ret ?_))))
   exact endR [(.d (.bool false))] [] [] (.cons (.tmp 2 rfl) .nil) (.cons (.any _) .nil) (Exp.of (congrArg D.bool a25) (.d _)) rfl rfl
 ·
  try have hk : (xs.getD k default).name.length ≤ 1048576 := bulkF_mem hb _ (getD_mem (l := xs) (j := k) (d := default) (by omega))
  refine T_exit (T_seq (T_region hc (Ch.s (.d (.slice false 2 (xs.map Sgn.d))) pm (Ch.s (.d (.int .i64 (xs.length : Int))) (.pure (.len _ _ 154 rfl Tryz.underlying32 (.sh _ _) (by simp))) (Ch.s (.d (.bool (withinB (xs.length : Int) 1 8))) (.call 41000 89 _ _ _ en89 rfl (.inl rfl) (.cons (.d _) (.cons (.d _) (.cons (.d _) .nil))) rfl rfl (sp_spec_l1In (xs.length : Int) 1 8) (.skip _ _ (.skip _ _ (.skip _ _ .nil))) rfl) (Ch.s (.d (.bool (withinB (xs.length : Int) 1 8))) pa (Ch.nil ?_)))))))
  refine T_ret ?_
  exact endR [(.d (.bool (withinB (xs.length : Int) 1 8)))] [] [] (.cons (.tmp 2 rfl) .nil) (.cons (.any _) .nil) (Exp.of (congrArg D.bool a25) (.d _)) rfl rfl

theorem sty55 : SlotTy Tryz.prog 55 3 1 8 := slotTy_mk (by kernel_rfl)

def outP (sg : List Sgn) (j : Nat) : Bool := !decide ((sg.getD j default).kind = 1)

def outK (sg : List Sgn) (k : Nat) : List Int := selTo k (outP sg) fun j => (j : Int)

def outsL (sg : List Sgn) : List Int := outK sg sg.length

theorem outK_le (sg : List Sgn) (k : Nat) : (outK sg k).length ≤ k := selTo_le _ _ _

theorem sp_impl_outputs (x : Sgr) (hb : x.bulk ≤ 1048576) : Sp Tryz.prog 173 [(.agg [(.slice false 2 (x.sigs.map Sgn.d)), (.slice false 1 (x.codes.map D.str)), (.slice false 4 (x.arcs.map Arc.d))])] [.any] (.slice true 1 ((outsL x.sigs).map (fun n : Int => D.int .i64 n))) := by
 refine Sp_intro (lend := true) Tryz.func173 rfl rfl rfl (fun _ => rfl) (fun c hc hX => ?_)
 obtain ⟨hp0, hp1, hp2⟩ := Sgr.parts hb
 have hn0 := bulkF_len hp0
 have hn1 := bulk_len hp1
 have hx1 := bulk_mem hp1
 have hn2 := bulkF_len hp2
 refine T_seq (T_region hc (Ch.s (.ptr 1000 0) (.box 1000 _ _ rfl (.aggD _)) (Ch.s (.c (.slice none 0 0)) pa (Ch.nil (T_seq (T_region hc (Ch.s (.row 6000) (.slice 6000 _ 3 _ rfl sty55 (xs := []) rfl rfl .nil rfl rfl (by decide)) ?_)))))))
 refine Ch.s (.row 6000) pa (Ch.nil (T_seq (T_seq (T_region hc (Ch.s (.ptr 1000 0) (.pure (.fldPtr _ _ _ rfl fld35_0 rfl)) (Ch.s (.d (.slice false 2 (x.sigs.map Sgn.d))) (.pure (.loadPtr1 _ _ rfl ag32 rfl rfl rfl)) (Ch.s (.d (.int .i64 (x.sigs.length : Int))) (.pure (.len _ _ 154 rfl Tryz.underlying32 (.sh _ _) (by simp))) ?_)))))))
 refine Ch.s (.d (.int .i64 0)) pm (Ch.nil (T_block ?_))
 refine T_loop (ι := Nat) (fun k => { n := 24, sl := [(3, (.row 3)), (8, (.d (.slice false 2 (x.sigs.map Sgn.d)))), (9, (.d (.int .i64 (x.sigs.length : Int)))), (10, (.d (.int .i64 (k : Int))))], hp := [(3, (some (.row 1 ((outK x.sigs k).map (fun n : Int => D.int .i64 n)))))], pin := [] }) (fun k => k ≤ x.sigs.length) (fun k => x.sigs.length - k) ⟨0, (by omega), (Wk.ren [(3, 6000)] rfl rfl rfl rfl (ai rfl (ai rfl (ai rfl (ai (vI a114) trivial)))) (ai (oR a62) trivial))⟩ (fun k hp0 => ?_)
 have hq := outK_le x.sigs k
 refine T_seq (T_region hc (Ch.s (.d (.bool (decide ((k : Int) < (x.sigs.length : Int))))) (iX rfl rfl rfl) (Ch.nil (T_seq ?_))))
 refine T_condD (p := ((k : Int) < (x.sigs.length : Int))) rfl (fun h1 => ?_) (fun h1 => ?_)
 ·
  refine T_skip (T_seq (T_block (T_seq (T_region hc (Ch.s (.d (.int .i64 (k : Int))) pm (Ch.s (.d (.ref (.agg [(.str ((x.sigs.getD k default).name)), (.int .i64 ((x.sigs.getD k default).kind))]))) (.pure (.idx _ _ _ 154 (k) rfl Tryz.underlying32 sz154 rfl rfl rfl get_mapA)) (Ch.s (.d (.agg [(.str ((x.sigs.getD k default).name)), (.int .i64 ((x.sigs.getD k default).kind))])) (.pure (.loadRefA _ _ rfl ag154 sz154 rfl)) ?_)))))))
  refine Ch.s (.ptr 5000 0) (.alloc 5000 _ rfl zer154) (Ch.s (.d (.int .i64 (k : Int))) pa (Ch.s .junk (.storePtr _ _ _ rfl rfl rfl (.aggD _) sz154 (lb rfl)) (Ch.nil (T_seq (T_region hc (Ch.s (.ptr 5000 1) (.pure (.fldPtr _ _ _ rfl fld154_1 rfl)) (Ch.s (.d (.int .i64 ((x.sigs.getD k default).kind))) (.pure (.loadPtr1 _ _ rfl ag3 rfl rfl rfl)) ?_)))))))
  refine Ch.s (.d (.bool (!(decide (((x.sigs.getD k default).kind) = 1))))) (iX rfl rfl rfl) (Ch.nil ?_)
  refine T_condN (b := (decide (((x.sigs.getD k default).kind) = 1))) rfl (fun h2 => ?_) (fun h2 => ?_)
  ·
   replace h2 := of_decide_eq_false h2
   refine T_region hc (Ch.s (.row 3) pm (Ch.s (.d (.int .i64 (k : Int))) pm (Ch.s (.row 20000) (.slice 20000 _ 3 _ rfl sty55 (xs := [.tmp 19]) rfl rfl (.cons (.d _) .nil) rfl rfl (by decide)) ?_)))
   refine Ch.step (v := (.row 21000)) rfl (.append 21000 _ _ _ 3 rfl sty55 (by decide) (.rowK rfl) (.inr ⟨_, rfl, rfl⟩) (.row rfl rfl) rfl a56) rfl rfl ?_
   refine Ch.s (.row 21000) pa (Ch.nil (T_region hc (Ch.s (.d (.int .i64 ((k : Int) + 1))) (iX rfl rfl intV_addA) (Ch.s (.d (.int .i64 ((k : Int) + 1))) pm (Ch.nil ?_)))))
   exact nx (k + 1) (by omega) (Wk.ren [(3, 21000)] rfl rfl rfl rfl (ai rfl (ai rfl (ai rfl (ai (vI a114) trivial)))) (ai (oR a62) trivial))
  ·
   replace h2 := of_decide_eq_true h2
   refine T_skip (T_region hc (Ch.s (.d (.int .i64 ((k : Int) + 1))) (iX rfl rfl intV_addA) (Ch.s (.d (.int .i64 ((k : Int) + 1))) pm (Ch.nil ?_))))
   exact nx (k + 1) (by omega) (Wk.of rfl rfl (ai rfl (ai rfl (ai rfl (ai (vI a114) trivial)))) (ai (oR a62) trivial))
 ·
  refine T_exit (T_seq (T_region hc (Ch.s (.row 3) pm (Ch.s (.row 3) pa (Ch.nil (T_ret ?_))))))
  exact endR [(.row 3)] [] [3] (.cons (.tmp 2 rfl) .nil) (.cons (.any _) .nil) (Exp.of (congrArg (D.slice true 1) (by rw [outsL, show x.sigs.length = k by omega])) (.row rfl)) rfl rfl

theorem en289 : Enters Tryz.prog 289 := ⟨_, Tryz.func289, by kernel_rfl, rfl⟩

theorem en264 : Enters Tryz.prog 264 := ⟨_, Tryz.func264, by kernel_rfl, rfl⟩

theorem zr3 : (Tryz.prog.info? 3).bind (·.zero) = some (.int .i64 0) := by kernel_rfl

theorem en237 : Enters Tryz.prog 237 := ⟨_, Tryz.func237, by kernel_rfl, rfl⟩

theorem zr55 : (Tryz.prog.info? 55).bind (·.zero) = some (.slice none 0 0) := by kernel_rfl

theorem zer55 : ∃ i z, Tryz.prog.info? 55 = some i ∧ i.zero = some z ∧ z.cells = List.toArray [.slice none 0 0] := zero_mk zr55 rfl

theorem sty49 : SlotTy Tryz.prog 49 55 1 24 := slotTy_mk (by kernel_rfl)

theorem sz212 : SizeIs Tryz.prog 212 2 := by unfold SizeIs; kernel_rfl

theorem ag212 : AggIs Tryz.prog 212 true := by unfold AggIs; kernel_rfl

theorem zr212 : (Tryz.prog.info? 212).bind (·.zero) = some (.agg #[.int .i64 0, .int .i64 0]) := by kernel_rfl

theorem zer212 : ∃ i z, Tryz.prog.info? 212 = some i ∧ i.zero = some z ∧ z.cells = List.toArray [.int .i64 0, .int .i64 0] := zero_mk zr212 rfl

theorem fld212_0 : FieldIs Tryz.prog 212 0 0 1 false := FieldIs.mk Tryz.underlying212 rfl rfl sz3 ag3 rfl

theorem sz55 : SizeIs Tryz.prog 55 1 := by unfold SizeIs; kernel_rfl

theorem ag55 : AggIs Tryz.prog 55 false := by unfold AggIs; kernel_rfl

theorem fld212_1 : FieldIs Tryz.prog 212 1 1 1 false := FieldIs.mk Tryz.underlying212 rfl rfl sz3 ag3 rfl

def linked (a : List (List Int)) (e : Stp) : List (List Int) := a.set e.src.toNat (a.getD e.src.toNat default ++ [e.dst])

def adjTo (n : Nat) (l : List Stp) (k : Nat) : List (List Int) := (l.take k).foldl linked (List.replicate n [])

theorem adjTo_zero (n : Nat) (l : List Stp) : adjTo n l 0 = List.replicate n [] := rfl

theorem adjTo_succ {n : Nat} {l : List Stp} {k : Nat} (h : k < l.length) : adjTo n l (k + 1) = linked (adjTo n l k) (l.getD k default) := by
 have hg : l.getD k default = l[k] := by simp [h]
 unfold adjTo
 rw [List.take_succ_eq_append_getElem h, List.foldl_append, hg]; rfl

theorem set_holeI {a : List (List Int)} {j : Nat} {h : D} {xs : List Int} {y : Int} : ((a.map intsU).set j h).set j (.slice true 1 (xs.map (fun n => D.int .i64 n) ++ [D.int .i64 y])) = (a.set j (xs ++ [y])).map intsU := by
 rw [show D.slice true 1 (xs.map (fun n => D.int .i64 n) ++ [D.int .i64 y]) = intsU (xs ++ [y]) from congrArg (D.slice true 1) (by rw [List.map_append]; rfl)]
 exact set_hole

theorem getD_app {a b : List Int} {k : Nat} (h : k < a.length) : (a ++ b).getD k default = a.getD k default := by
 rw [List.getD_eq_getElem?_getD, List.getElem?_append_left h, ← List.getD_eq_getElem?_getD]

theorem linked_length (a : List (List Int)) (e : Stp) : (linked a e).length = a.length := by simp [linked]

theorem foldl_len : ∀ (l : List Stp) (a : List (List Int)), (l.foldl linked a).length = a.length
 | [], _ => rfl
 | e :: l, a => by rw [List.foldl_cons, foldl_len l, linked_length]

theorem adjTo_length (n : Nat) (l : List Stp) (k : Nat) : (adjTo n l k).length = n := by rw [adjTo, foldl_len, List.length_replicate]

theorem adj_len (n : Nat) (l : List Stp) : ∀ k, k ≤ l.length → ∀ i, ((adjTo n l k).getD i default).length ≤ k
  | 0, _, i => by
    rw [adjTo_zero]
    by_cases hi : i < n
    · simp [hi]
    · simp [hi]; rfl
  | k + 1, hk, i => by
    rw [adjTo_succ (by omega), linked, List.getD_eq_getElem?_getD, List.getElem?_set]
    have h1 := adj_len n l k (by omega)
    split
    · rename_i e
      subst e
      have h2 := h1 (l.getD k default).src.toNat
      split
      · rw [Option.getD_some, List.length_append, List.length_singleton]; omega
      · exact Nat.zero_le _
    · rw [← List.getD_eq_getElem?_getD]
      have h2 := h1 i; omega

def relax (k : Nat) (p : List Int × List Int) (t : Int) : List Int × List Int :=
 if p.1.getD t.toNat default < 0 then (p.1.set t.toNat (p.1.getD (p.2.getD k default).toNat default + 1), p.2 ++ [t]) else p

def relaxTo (k : Nat) (o q ts : List Int) (m : Nat) : List Int × List Int := (ts.take m).foldl (relax k) (o, q)

theorem relaxTo_zero (k : Nat) (o q ts : List Int) : relaxTo k o q ts 0 = (o, q) := rfl

theorem relaxTo_succ {k : Nat} {o q ts : List Int} {m : Nat} (h : m < ts.length) : relaxTo k o q ts (m + 1) = relax k (relaxTo k o q ts m) (ts.getD m default) := by
 have hg : ts.getD m default = ts[m] := by simp [h]
 unfold relaxTo
 rw [List.take_succ_eq_append_getElem h, List.foldl_append, hg]; rfl

theorem sp_bits_Mul64 (n : Nat) (hn : n ≤ 1048576) : Sp Tryz.prog 289 [(.int .u64 1), (.int .u64 (n : Int))] [.any, .any] (.tup [(.int .u64 0), (.int .u64 (n : Int))]) := by
 refine Sp_intro (lend := true) Tryz.func289 rfl rfl rfl (fun _ => rfl) (fun c hc hX => ?_)
 refine T_seq (T_region hc (Ch.s (.d (.int .u64 0)) pa (Ch.s (.d (.int .u64 0)) pa (Ch.nil (T_seq (T_region hc (Ch.s (.d (.int .u64 1)) pm ?_)))))))
 refine Ch.s (.d (.int .u64 1)) (iX rfl rfl rfl) (Ch.s (.d (.int .u64 1)) pa (Ch.nil (T_seq (T_region hc (Ch.s (.d (.int .u64 1)) pm (Ch.s (.d (.int .u64 0)) (.pure (.shift _ _ _ _ _ rfl rfl rfl rfl)) (Ch.s (.d (.int .u64 0)) pa ?_)))))))
 refine Ch.nil (T_seq (T_region hc (Ch.s (.d (.int .u64 (n : Int))) pm (Ch.s (.d (.int .u64 (n : Int))) (iX rfl rfl (u64_and (n := n) a43)) (Ch.s (.d (.int .u64 (n : Int))) pa (Ch.nil (T_seq ?_)))))))
 refine T_region hc (Ch.s (.d (.int .u64 (n : Int))) pm (Ch.s (.d (.int .u64 0)) (.pure (.shift _ _ _ _ _ rfl rfl rfl (u64_shr (n := n) a43))) (Ch.s (.d (.int .u64 0)) pa (Ch.nil (T_seq (T_region hc (Ch.s (.d (.int .u64 1)) pm ?_)))))))
 refine Ch.s (.d (.int .u64 (n : Int))) pm (Ch.s (.d (.int .u64 (n : Int))) (iX rfl rfl (u64_mul1 (n := n) a43)) (Ch.s (.d (.int .u64 (n : Int))) pa (Ch.nil (T_seq (T_region hc (Ch.s (.d (.int .u64 0)) pm (Ch.s (.d (.int .u64 (n : Int))) pm ?_)))))))
 refine Ch.s (.d (.int .u64 0)) (iX rfl rfl (u64_mul0 _)) (Ch.s (.d (.int .u64 (n : Int))) pm (Ch.s (.d (.int .u64 0)) (.pure (.shift _ _ _ _ _ rfl rfl rfl (u64_shr (n := n) a43))) (Ch.s (.d (.int .u64 0)) (iX rfl rfl rfl) (Ch.s (.d (.int .u64 0)) pa (Ch.nil (T_seq (T_region hc ?_)))))))
 refine Ch.s (.d (.int .u64 0)) pm (Ch.s (.d (.int .u64 0)) (iX rfl rfl rfl) (Ch.s (.d (.int .u64 0)) pa (Ch.nil (T_seq (T_region hc (Ch.s (.d (.int .u64 0)) pm (Ch.s (.d (.int .u64 0)) (.pure (.shift _ _ _ _ _ rfl rfl rfl rfl)) ?_)))))))
 refine Ch.s (.d (.int .u64 0)) pa (Ch.nil (T_seq (T_region hc (Ch.s (.d (.int .u64 0)) pm (Ch.s (.d (.int .u64 1)) pm (Ch.s (.d (.int .u64 0)) pm (Ch.s (.d (.int .u64 0)) (iX rfl rfl rfl) ?_)))))))
 refine Ch.s (.d (.int .u64 0)) (iX rfl rfl rfl) (Ch.s (.d (.int .u64 0)) pa (Ch.nil (T_seq (T_region hc (Ch.s (.d (.int .u64 0)) pm (Ch.s (.d (.int .u64 0)) pm (Ch.s (.d (.int .u64 0)) (iX rfl rfl rfl) ?_)))))))
 refine Ch.s (.d (.int .u64 0)) pm (Ch.s (.d (.int .u64 0)) (iX rfl rfl rfl) (Ch.s (.d (.int .u64 0)) pm (Ch.s (.d (.int .u64 0)) (.pure (.shift _ _ _ _ _ rfl rfl rfl rfl)) (Ch.s (.d (.int .u64 0)) (iX rfl rfl rfl) (Ch.s (.d (.int .u64 0)) pa (Ch.nil (T_seq ?_)))))))
 refine T_region hc (Ch.s (.d (.int .u64 1)) pm (Ch.s (.d (.int .u64 (n : Int))) pm (Ch.s (.d (.int .u64 (n : Int))) (iX rfl rfl (u64_mul1 (n := n) a43)) (Ch.s (.d (.int .u64 (n : Int))) pa (Ch.nil (T_ret ?_))))))
 exact endR [(.d (.int .u64 0)), (.d (.int .u64 (n : Int)))] [] [] (.cons (.tmp 4 rfl) (.cons (.tmp 5 rfl) .nil)) (.cons (.any _) (.cons (.any _) .nil)) (.tup (.cons (.d _) (.cons (.d _) .nil))) rfl rfl

theorem sp_bits_Mul (n : Nat) (hn : n ≤ 1048576) : Sp Tryz.prog 264 [(.int .u64 1), (.int .u64 (n : Int))] [.any, .any] (.tup [(.int .u64 0), (.int .u64 (n : Int))]) := by
 refine Sp_intro (lend := true) Tryz.func264 rfl rfl rfl (fun _ => rfl) (fun c hc hX => ?_)
 refine T_seq (T_region hc (Ch.s (.d (.int .u64 0)) pa (Ch.s (.d (.int .u64 0)) pa (Ch.nil (T_seq ?_)))))
 refine T_cond (b := false) rfl (fun h => nomatch h) (fun _ => ?_)
 refine T_skip (T_seq (T_region hc (Ch.s (.d (.int .u64 1)) pm (Ch.s (.d (.int .u64 (n : Int))) pm (Ch.s (.tup [(.d (.int .u64 0)), (.d (.int .u64 (n : Int)))]) (.call 25000 289 _ _ _ en289 rfl (.inl rfl) (.cons (.d _) (.cons (.d _) .nil)) rfl rfl (sp_bits_Mul64 n a23) (.skip _ _ (.skip _ _ .nil)) rfl) (Ch.s (.tup [(.d (.int .u64 0)), (.d (.int .u64 (n : Int)))]) pm (Ch.s (.d (.int .u64 0)) (.pure (.extract _ rfl rfl rfl)) ?_)))))))
 refine Ch.s (.d (.int .u64 (n : Int))) (.pure (.extract _ rfl rfl rfl)) (Ch.s (.d (.int .u64 0)) pa (Ch.s (.d (.int .u64 (n : Int))) pa (Ch.nil (T_seq (T_region hc (Ch.s (.d (.int .u64 0)) pm (Ch.s (.d (.int .u64 (n : Int))) pm ?_)))))))
 refine Ch.s (.d (.int .u64 0)) pa (Ch.s (.d (.int .u64 (n : Int))) pa (Ch.nil (T_ret ?_)))
 exact endR [(.d (.int .u64 0)), (.d (.int .u64 (n : Int)))] [] [] (.cons (.tmp 4 rfl) (.cons (.tmp 5 rfl) .nil)) (.cons (.any _) (.cons (.any _) .nil)) (.tup (.cons (.d _) (.cons (.d _) .nil))) rfl rfl

def repTo (v : Int) (n k : Nat) : List Int := List.replicate k v ++ List.replicate (n - k) 0

theorem repTo_all (v : Int) {n k : Nat} (h : n ≤ k) (h2 : k ≤ n) : repTo v n k = List.replicate n v := by
 rw [repTo, show k = n by omega, Nat.sub_self]; simp

theorem repTo_length (v : Int) {n k : Nat} (h : k ≤ n) : (repTo v n k).length = n := by simp [repTo]; omega

theorem noUs_rep {d : D} (h : d.noU = true) : ∀ n, noUs (List.replicate n d) = true
 | 0 => rfl
 | n + 1 => by rw [List.replicate_succ, noUs, h, noUs_rep h n]; rfl

theorem rep_first {v : Int} {n : Nat} (h : 1 ≤ n) : (List.replicate n (D.int .i64 0)).take 0 ++ [D.int .i64 v].take 1 ++ (List.replicate n (D.int .i64 0)).drop (0 + 1) = (repTo v n 1).map fun n => D.int .i64 n := by
 simp [repTo]

theorem rep_next {v : Int} {n k m : Nat} (h : k ≤ n) (hm : Nat.min k (n - k) = m) : ((repTo v n k).map fun n => D.int .i64 n).take k ++ (((repTo v n k).take k).map fun n => D.int .i64 n).take m ++ ((repTo v n k).map fun n => D.int .i64 n).drop (k + m) = (repTo v n (k + m)).map fun n => D.int .i64 n := by
 have h1 : m ≤ k := by rw [← hm]; exact Nat.min_le_left _ _
 rw [← List.map_take, ← List.map_take, ← List.map_drop, ← List.map_append, ← List.map_append]
 congr 1
 have e1 : (repTo v n k).take k = List.replicate k v := by rw [repTo, List.take_append_of_le_length (by simp), List.take_of_length_le (by simp)]
 have e2 : (repTo v n k).drop (k + m) = List.replicate (n - (k + m)) 0 := by
  rw [repTo, List.drop_append, List.drop_of_length_le (by simp), List.nil_append]
  rw [List.length_replicate, List.drop_replicate]; congr 1; omega
 rw [e1, e2, List.take_replicate, Nat.min_eq_left h1, List.replicate_append_replicate, repTo]

theorem sp_Repeat_int (v : Int) (n : Nat) (h1n : 1 ≤ n) (hn : n ≤ 1048576) : Sp Tryz.prog 237 [(.slice false 1 [(.int .i64 v)]), (.int .i64 (n : Int))] [.any, .any] (.slice true 1 ((List.replicate n v).map (fun n : Int => D.int .i64 n))) := by
 refine Sp_intro (lend := true) Tryz.func237 rfl rfl rfl (fun _ => rfl) (fun c hc hX => ?_)
 refine T_seq (T_region hc (Ch.s (.c (.slice none 0 0)) pa (Ch.nil (T_seq (T_seq (T_region hc (Ch.s (.d (.int .i64 (n : Int))) pm ?_)))))))
 refine Ch.s (.d (.bool (decide ((n : Int) < 0)))) (iX rfl rfl rfl) (Ch.nil ?_)
 refine T_condD (p := ((n : Int) < 0)) rfl (fun h1 => ?_) (fun h1 => ?_)
 ·
  exfalso; omega
 ·
  refine T_skip (T_seq (T_region hc (Ch.s (.d (.slice false 1 [(.int .i64 v)])) pm (Ch.s (.d (.int .i64 ((1 : Nat) : Int))) (.pure (.len _ _ 3 rfl Tryz.underlying55 (.sh _ _) rfl)) ?_))))
  refine Ch.step (v := (.d (.int .u64 1))) rfl (.pure (EvP.of (convU64 (n := 1) rfl a43) (.convInt _ _ _ rfl (isSome_of Tryz.underlying3) Tryz.underlying198 rfl))) rfl rfl ?_
  refine Ch.s (.d (.int .i64 (n : Int))) pm ?_
  refine Ch.step (v := (.d (.int .u64 (n : Int)))) rfl (.pure (EvP.of (convU64 (n := n) rfl a43) (.convInt _ _ _ rfl (isSome_of Tryz.underlying3) Tryz.underlying198 rfl))) rfl rfl ?_
  refine Ch.s (.tup [(.d (.int .u64 0)), (.d (.int .u64 (n : Int)))]) (.call 18000 264 _ _ _ en264 rfl (.inl rfl) (.cons (.d _) (.cons (.d _) .nil)) rfl rfl (sp_bits_Mul n a23) (.skip _ _ (.skip _ _ .nil)) rfl) (Ch.s (.tup [(.d (.int .u64 0)), (.d (.int .u64 (n : Int)))]) pm (Ch.s (.d (.int .u64 0)) (.pure (.extract _ rfl rfl rfl)) (Ch.s (.d (.int .u64 (n : Int))) (.pure (.extract _ rfl rfl rfl)) (Ch.s (.d (.int .u64 0)) pa (Ch.s (.d (.int .u64 (n : Int))) pa (Ch.nil (T_seq ?_)))))))
  refine T_seq (T_region hc (Ch.s (.d (.int .u64 0)) pm (Ch.s (.d (.bool false)) (iX rfl rfl rfl) (Ch.s (.d (.bool false)) pm (Ch.s (.d (.int .u64 (n : Int))) pm (Ch.s (.d (.bool (decide (9223372036854775807 < (n : Int))))) (iX rfl rfl rfl) (Ch.s (.d (.bool (decide (9223372036854775807 < (n : Int))))) (.pure (.pickF _ _ _ rfl rfl rfl)) ?_)))))))
  refine Ch.nil ?_
  refine T_condD (p := (9223372036854775807 < (n : Int))) rfl (fun h2 => ?_) (fun h2 => ?_)
  ·
   exfalso; omega
  ·
   refine T_skip (T_seq (T_region hc (Ch.s (.d (.int .u64 (n : Int))) pm (Ch.s (.d (.int .i64 (n : Int))) (.pure (EvP.of (conv64 a43 a43) (.convInt _ _ _ rfl (isSome_of Tryz.underlying198) Tryz.underlying3 rfl))) (Ch.s (.row 30000) (.make 30000 _ 3 _ _ (n) (n) rfl sty55 rfl rfl rfl rfl a43 a43 a43 (zeroD_mk (zd := (.int .i64 0)) zr3 a120 rfl)) (Ch.s (.row 30000) pa (Ch.nil ?_)))))))
   refine T_seq (T_region hc (Ch.s (.row 30000) pm (Ch.s (.d (.slice false 1 [(.int .i64 v)])) pm (Ch.s (.d (.int .i64 ((1 : Nat) : Int))) (.copy (n := 1) (zs := ((repTo v n 1).map (fun n : Int => D.int .i64 n))) _ _ _ _ 3 rfl sty55 (.row rfl) (noUs_rep rfl _) (.sh _ _) (by rw [List.length_replicate]; exact Nat.min_eq_left (show 1 ≤ n - 0 by omega)) (rep_first (by omega))) (Ch.s (.d (.int .i64 ((1 : Nat) : Int))) pa (Ch.nil (T_seq ?_)))))))
   refine T_block ?_
   refine T_loop (ι := Nat) (fun k => { n := 48, sl := [(7, (.row 7)), (8, (.d (.int .i64 (k : Int))))], hp := [(7, (some (.row 1 ((repTo v n k).map (fun n : Int => D.int .i64 n)))))], pin := [] }) (fun k => 1 ≤ k ∧ k ≤ n) (fun k => n - k) ⟨1, ⟨by omega, by omega⟩, (Wk.ren [(7, 30000)] rfl rfl rfl rfl (ai rfl (ai rfl trivial)) (ai rfl trivial))⟩ (fun k hp0 => ?_)
   have hrl := repTo_length v hp0.2; have h8 : Nat.min k (n - k) ≤ n - k := Nat.min_le_right k (n - k)
   refine T_seq (T_seq (T_region hc (Ch.s (.d (.int .i64 (k : Int))) pm (Ch.s (.row 7) pm (Ch.s (.d (.int .i64 ((repTo v n k).length : Int))) (.pure (.len _ _ 3 rfl Tryz.underlying55 (.row rfl) (by simp))) (Ch.s (.d (.bool (decide ((k : Int) < ((repTo v n k).length : Int))))) (iX rfl rfl rfl) (Ch.nil ?_)))))))
   refine T_condD (p := ((k : Int) < ((repTo v n k).length : Int))) rfl (fun h3 => ?_) (fun h3 => ?_)
   ·
    refine T_skip (T_block ?_)
    refine T_regionD hc (by kernel_rfl) ?_
    refine ChD.s (.d (.int .i64 (k : Int))) [] pm (ChD.s (.row 7) [] pm (ChD.s (.d (.int .i64 (k : Int))) [] pm (ChD.s (.sub 7 1 k ((repTo v n k).length)) [7] (.pure (.subRow _ _ _ _ 3 (k) ((repTo v n k).length) rfl Tryz.underlying55 sz3 rfl rfl (bndS rfl rfl) (bndN (by simp)) a43 a43)) (ChD.s (.row 7) [] pm (ChD.s (.d (.int .i64 (k : Int))) [] pm (ChD.s (.sub 7 1 0 k) [7] (.pure (.subRow _ _ _ _ 3 (0) (k) rfl Tryz.underlying55 sz3 rfl rfl (bndN rfl) (bndS rfl rfl) a43 a43)) (ChD.s (.d (.int .i64 ((Nat.min k (n - k) : Nat) : Int))) [7] (.copy (n := Nat.min k (n - k)) (zs := ((repTo v n (k + Nat.min k (n - k))).map (fun n : Int => D.int .i64 n))) _ _ _ _ 3 rfl sty55 (.sub rfl a43 a43) (noUs_map (fun _ => rfl) _) (.sub (ys := (((repTo v n k).take k).map (fun n : Int => D.int .i64 n))) rfl (noUs_map (fun _ => rfl) _) a43 a43 (by first | (rw [List.map_drop, List.take_of_length_le (by simp)]; done) | (simp [List.map_take, List.map_drop]; done))) (by simp only [List.length_map, List.length_take, repTo_length v hp0.2]; rw [Nat.min_eq_left hp0.2]) (rep_next hp0.2 rfl)) ?_)))))))
    refine ChD.s (.d (.int .i64 ((k : Int) + ((Nat.min k (n - k) : Nat) : Int)))) [] (iX rfl rfl intV_addA) (ChD.s (.d (.int .i64 ((k : Int) + ((Nat.min k (n - k) : Nat) : Int)))) [] pa ?_)
    refine ChD.nil (And.intro ?_ (by kernel_rfl))
    refine Exists.intro (k + Nat.min k (n - k)) (And.intro ⟨by omega, by omega⟩ (And.intro (by have h9 : 1 ≤ Nat.min k (n - k) := Nat.le_min.2 ⟨by omega, by omega⟩; generalize Nat.min k (n - k) = z at *; omega) (Wk.of rfl rfl (ai rfl (ai (vI (by first | rfl | omega)) trivial)) (ai rfl trivial))))
   ·
    refine T_exit (T_seq (T_region hc (Ch.s (.row 7) pm (Ch.s (.row 7) pa (Ch.nil (T_ret ?_))))))
    exact endR [(.row 7)] [] [7] (.cons (.tmp 4 rfl) .nil) (.cons (.any _) (.cons (.any _) .nil)) (Exp.of (congrArg (D.slice true 1) (by rw [repTo_all v (by omega) hp0.2])) (.row rfl)) rfl rfl

theorem edges_in {n : Nat} {l : List Stp} (h : ∀ e ∈ l, (0 ≤ e.src ∧ e.src.toNat < n) ∧ (0 ≤ e.dst ∧ e.dst.toNat < n)) : ∀ k, k ≤ l.length → ∀ i, ∀ t ∈ (adjTo n l k).getD i default, 0 ≤ t ∧ t.toNat < n
  | 0, _, i, t, ht => by
    rw [adjTo_zero] at ht
    by_cases hi : i < n
    · simp [hi] at ht
    · simp [hi] at ht
      cases ht
  | k + 1, hk, i, t, ht => by
    have he := h _ (getD_mem (l := l) (j := k) (d := default) (by omega))
    rw [adjTo_succ (by omega), linked] at ht
    by_cases hi : i = (l.getD k default).src.toNat
    · subst hi
      rw [List.getD_eq_getElem?_getD, List.getElem?_set] at ht
      rw [if_pos rfl, if_pos (by rw [adjTo_length]; exact he.1.2)] at ht
      rw [Option.getD_some] at ht
      rcases List.mem_append.1 ht with ht | ht
      · exact edges_in h k (by omega) _ t ht
      · rw [List.mem_singleton] at ht; rw [ht]; exact he.2
    · rw [List.getD_eq_getElem?_getD, List.getElem?_set, if_neg (fun e => hi e.symm), ← List.getD_eq_getElem?_getD] at ht
      exact edges_in h k (by omega) i t ht

def negs (o : List Int) : Nat := o.countP fun d => decide (d < 0)

structure Bfs (n : Nat) (p : List Int × List Int) : Prop where
 len : p.1.length = n
 qin : ∀ t ∈ p.2, 0 ≤ t ∧ t.toNat < n
 qd : ∀ t ∈ p.2, 0 ≤ p.1.getD t.toNat default
 top : ∀ j, p.1.getD j default ≤ (p.2.length : Int)
 few : p.2.length + negs p.1 = n

theorem Bfs.relax {n : Nat} {p : List Int × List Int} (h : Bfs n p) {k : Nat} (hk : k < p.2.length) {t : Int} (ht : 0 ≤ t ∧ t.toNat < n) : Bfs n (relax k p t) := by
  unfold Go.AM.relax
  split
  · rename_i hneg
    have hq := h.qd _ (getD_mem (l := p.2) (j := k) (d := default) hk)
    have htl : t.toNat < p.1.length := by rw [h.len]; exact ht.2
    have hg : p.1.getD t.toNat default = p.1[t.toNat] := by simp [htl]
    have hcnt : negs (p.1.set t.toNat (p.1.getD (p.2.getD k default).toNat default + 1)) + 1 = negs p.1 := by
      unfold negs
      rw [List.countP_set (h := htl)]
      rw [← hg, if_pos (decide_eq_true hneg), if_neg (by rw [decide_eq_true_iff]; omega)]
      have : 0 < p.1.countP fun d => decide (d < 0) := List.countP_pos_iff.2 ⟨_, List.getElem_mem htl, by rw [← hg]; exact decide_eq_true hneg⟩
      omega
    have hset : ∀ j, (p.1.set t.toNat (p.1.getD (p.2.getD k default).toNat default + 1)).getD j default = if t.toNat = j then p.1.getD (p.2.getD k default).toNat default + 1 else p.1.getD j default := by
      intro j
      rw [List.getD_eq_getElem?_getD, List.getElem?_set]
      split
      · rename_i e; subst e; first | rfl | (rw [if_pos htl]; rfl)
      · rw [← List.getD_eq_getElem?_getD]
    refine ⟨by rw [List.length_set]; exact h.len, ?_, ?_, ?_, ?_⟩
    · intro x hx
      rcases List.mem_append.1 hx with hx | hx
      · exact h.qin x hx
      · rw [List.mem_singleton] at hx; rw [hx]; exact ht
    · intro x hx
      rw [hset]
      split
      · omega
      · rcases List.mem_append.1 hx with hx | hx
        · exact h.qd x hx
        · rename_i hne
          rw [List.mem_singleton] at hx; subst hx; exact absurd rfl hne
    · intro j
      rw [hset, List.length_append, List.length_singleton]
      have h1 := h.top j
      have h2 := h.top (p.2.getD k default).toNat
      split <;> omega
    · have := h.few
      dsimp only
      rw [List.length_append, List.length_singleton]; omega
  · exact h

theorem relax_q {p : List Int × List Int} {k : Nat} {t : Int} : ∃ r, (relax k p t).2 = p.2 ++ r := by
  unfold relax; split
  · exact ⟨[t], rfl⟩
  · exact ⟨[], by simp⟩

theorem relaxTo_inv {n : Nat} {o q ts : List Int} (h : Bfs n (o, q)) {k : Nat} (hk : k < q.length) (hts : ∀ t ∈ ts, 0 ≤ t ∧ t.toNat < n) : ∀ m, m ≤ ts.length → Bfs n (relaxTo k o q ts m) ∧ ∃ r, (relaxTo k o q ts m).2 = q ++ r
 | 0, _ => ⟨h, [], by rw [relaxTo_zero]; simp⟩
 | m + 1, hm => by
  obtain ⟨h1, r, h2⟩ := relaxTo_inv h hk hts m (by omega)
  rw [relaxTo_succ (by omega)]
  have hkl : k < (relaxTo k o q ts m).2.length := by rw [h2, List.length_append]; omega
  obtain ⟨r2, h3⟩ := relax_q (p := relaxTo k o q ts m) (k := k) (t := ts.getD m default)
  exact ⟨h1.relax hkl (hts _ (getD_mem (by omega))), r ++ r2, by rw [h3, h2, List.append_assoc]⟩

def bfsR (nx : List (List Int)) : Nat → List Int × List Int → Nat → List Int
 | 0, p, _ => p.1
 | f + 1, p, k => if k < p.2.length then bfsR nx f (relaxTo k p.1 p.2 (nx.getD (p.2.getD k default).toNat default) (nx.getD (p.2.getD k default).toNat default).length) (k + 1) else p.1

def distF (n : Nat) (l : List Stp) (s : Nat) : List Int := bfsR (adjTo n l l.length) n ((List.replicate n (-1)).set s 0, [(s : Int)]) 0

structure BfsInv (n : Nat) (l : List Stp) (s : Nat) (q : (List Int × List Int) × Nat) : Prop where
 inv : Bfs n q.1
 eq : bfsR (adjTo n l l.length) (n - q.2) q.1 q.2 = distF n l s

theorem Bfs.le {n p} (h : Bfs n p) : p.2.length ≤ n := by have := h.few; omega

theorem BfsInv.zero {n : Nat} {l : List Stp} {s : Nat} (hs : s < n) : BfsInv n l s (((List.replicate n (-1)).set s 0, [(s : Int)]), 0) := by
  have hset : ∀ j, ((List.replicate n (-1 : Int)).set s 0).getD j default = if s = j then 0 else if j < n then -1 else default := by
    intro j
    rw [List.getD_eq_getElem?_getD, List.getElem?_set]
    split
    · rw [if_pos (by simpa using hs)]; rfl
    · rw [List.getElem?_replicate]; split <;> rfl
  refine ⟨⟨by simp, ?_, ?_, ?_, ?_⟩, rfl⟩
  · intro t ht
    have : t = (s : Int) := by simpa using ht
    omega
  · intro t ht
    have : t = (s : Int) := by simpa using ht
    subst this
    dsimp only
    rw [hset, if_pos (by omega)]; omega
  · intro j
    dsimp only
    rw [hset]
    split
    · simp
    · split
      · simp
      · show (0 : Int) ≤ _; simp
  · dsimp only
    unfold negs
    rw [List.countP_set (h := by simpa using hs)]
    simp [List.countP_replicate]
    omega

theorem BfsInv.step {n : Nat} {l : List Stp} {s : Nat} {q : (List Int × List Int) × Nat} (h : BfsInv n l s q) (hk : q.2 < q.1.2.length) (hl : ∀ e ∈ l, (0 ≤ e.src ∧ e.src.toNat < n) ∧ (0 ≤ e.dst ∧ e.dst.toNat < n)) {ts : List Int} (hts : ts = (adjTo n l l.length).getD (q.1.2.getD q.2 default).toNat default) :
  BfsInv n l s (relaxTo q.2 q.1.1 q.1.2 ts ts.length, q.2 + 1) := by
 subst hts
 have hle := h.inv.le
 refine ⟨(relaxTo_inv h.inv hk (edges_in hl _ (Nat.le_refl _) _) _ (Nat.le_refl _)).1, ?_⟩
 rw [← h.eq]
 dsimp only
 rw [show n - q.2 = (n - (q.2 + 1)) + 1 by omega, bfsR, if_pos hk]

theorem BfsInv.done {n : Nat} {l : List Stp} {s : Nat} {q : (List Int × List Int) × Nat} (h : BfsInv n l s q) (hk : ¬ q.2 < q.1.2.length) : q.1.1 = distF n l s := by
 rw [← h.eq]
 cases n - q.2 with
 | zero => rfl
 | succ f => rw [bfsR, if_neg hk]

end Go.AM
