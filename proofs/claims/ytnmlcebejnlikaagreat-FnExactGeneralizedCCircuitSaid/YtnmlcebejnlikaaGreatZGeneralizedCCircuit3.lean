/-
  The contracts that the law FnExactGeneralizedCCircuit needs.
-/
import Derived.Test.YtnmlcebejnlikaaGreatZGeneralizedCCircuit2
import Derived.Test.YtnmlcebejnlikaaGreatSh
namespace Go.AM
open Go.Proofs
set_option linter.unusedVariables false
set_option linter.unusedSimpArgs false

theorem dl_keep {p : List Int → Bool} {xs : List (List Int)} {j : Nat} {us : List Value} {u : Value} (h : DlInv p xs j us) (hj : j < xs.length) (hp : p (xs.getD j default) = false) :
  ((dlRow p xs j us).set j (.hole u)).set (keepTo p xs j).length (intsU (xs.getD j default)) = dlRow p xs (j + 1) (us.tail ++ [u]) ∧ DlInv p xs (j + 1) (us.tail ++ [u]) := by
 have hk := keepTo_yes hj hp
 have h1 := h.len
 have h3 := h.pos
 refine ⟨?_, by omega, by rw [hk]; simp only [List.length_append, List.length_singleton, List.length_tail]; omega, by simp⟩
 rw [dl_set h hj, List.set_append_right (h := by simp)]
 simp only [List.length_map, Nat.sub_self]
 unfold dlRow
 rw [hk]
 cases us with
 | nil => exact absurd h3 (Nat.not_lt_zero _)
 | cons v us => simp

theorem dl_start {p : List Int → Bool} {xs : List (List Int)} {u : Value} (h : ¬ ixF p xs = -1) : (xs.map intsU).set (ixF p xs).toNat (.hole u) = dlRow p xs ((ixF p xs).toNat + 1) [u] ∧ DlInv p xs ((ixF p xs).toNat + 1) [u] ∧ (keepTo p xs ((ixF p xs).toNat + 1)).length = (ixF p xs).toNat ∧ (ixF p xs).toNat < xs.length := by
  obtain ⟨k, hk, hk1, hk2⟩ := ixF_first h
  have e : (ixF p xs).toNat = k := by omega
  rw [e]
  have hl : (keepTo p xs (k + 1)).length = k := by rw [hk2, List.length_take]; omega
  refine ⟨?_, ⟨by omega, by rw [hl]; rfl, by simp⟩, hl, hk⟩
  unfold dlRow
  rw [hk2]
  apply List.ext_getElem?
  intro q
  have ht : (xs.take k).length = k := by rw [List.length_take]; omega
  rw [List.append_assoc, List.getElem?_append, List.getElem?_set, List.length_map, List.length_map, ht]
  by_cases h1 : k = q
  · subst h1
    rw [if_pos rfl, if_pos hk, if_neg (by omega), Nat.sub_self]; rfl
  · rw [if_neg h1]
    by_cases h2 : q < k
    · rw [if_pos h2, List.getElem?_map, List.getElem?_map, List.getElem?_take, if_pos h2]
    · rw [if_neg h2, show q - k = (q - k - 1) + 1 by omega]
      simp only [List.map_cons, List.map_nil, List.singleton_append, List.getElem?_cons_succ, List.getElem?_map, List.getElem?_drop]
      rw [show k + 1 + (q - k - 1) = q by omega]

theorem dl_clear {p : List Int → Bool} {xs : List (List Int)} {j : Nat} {us : List Value} (h : DlInv p xs j us) (hj : ¬ j < xs.length) : noUs (((dlRow p xs j us).take (dlRow p xs j us).length).drop (keepTo p xs j).length) = true := by
 have h2 := h.le
 rw [List.take_length]
 unfold dlRow
 rw [List.drop_of_length_le (i := j) (by omega), List.map_nil, List.append_nil, List.drop_append]
 rw [List.drop_of_length_le (by simp), List.nil_append]
 exact noUs_iff.2 fun y hy => by
  obtain ⟨v, _, rfl⟩ := List.mem_map.1 (List.mem_of_mem_drop hy)
  rfl

theorem dl_end {p : List Int → Bool} {xs : List (List Int)} {j : Nat} {us : List Value} {Z B : List D} (h : DlInv p xs j us) (hj : ¬ j < xs.length) : (((dlRow p xs j us).take (keepTo p xs j).length ++ Z ++ B).take (keepTo p xs j).length) = (xs.filter fun u => !p u).map intsU := by
 have h2 := h.le
 have h3 : keepTo p xs j = xs.filter fun u => !p u := by rw [keepTo, List.take_of_length_le (by omega)]
 rw [take_cut (by rw [dl_len h]; have := h.len; omega), ← h3]
 unfold dlRow
 rw [List.append_assoc, List.take_append_of_le_length (by simp), List.take_of_length_le (by simp)]

theorem intsU_sol (l : List Int) : (intsU l).solid = true := solid_row (fun _ => rfl) l

theorem sp_DeleteFunc_ints (xs : List (List Int)) (f : FuncId) (caps : List D) (p : List Int → Bool) (hf : Enters Tryz.prog f) (hp : ∀ x ∈ xs, Sp Tryz.prog f (intsD x :: caps) (.any :: anys caps) (.bool (p x))) (hn : xs.length ≤ 1048576) : Sp Tryz.prog 299 [(.slice true 1 (xs.map intsU)), (.fn f caps)] [.any, .any] (.slice true 1 ((xs.filter (fun u => !p u)).map intsU)) := by
 refine Sp_intro (lend := false) Tryz.func299 rfl rfl rfl (fun h => nomatch h) (fun c hc hX => ?_)
 have hixb := ixF_bounds p xs
 refine Ts hc (Ch.s (.c (.slice none 0 0)) pa (Ch.nil (Ts hc (Ch.s (.row 1) pm (Ch.s (.d (.fn f caps)) pm ?_)))))
 refine Ch.s (dI (ixF p xs)) (.call 10000 307 _ _ _ en307 rfl (.inl rfl) (.cons (.lend (.row rfl (frozs_to intsU_fz _))) (.cons (.d _) .nil)) rfl rfl (sp_IndexFunc_ints xs f caps p hf hp a46) (.skip _ _ (.skip _ _ .nil)) rfl) (Ch.s (dI (ixF p xs)) pa (Ch.nil (Tq (Ts hc (Ch.s (dI (ixF p xs)) pm (Ch.s (dB (decide ((ixF p xs) = (-1)))) (iX rfl rfl rfl) ?_))))))
 refine Ch.nil ?_
 refine T_condD (p := ((ixF p xs) = (-1))) rfl (fun h1 => ?_) (fun h1 => ?_)
 ·
  refine Ts hc (Ch.s (.row 1) pm (Ch.s (.row 1) pa (Ch.nil (T_ret ?_))))
  exact eR [(.row 1)] [] [1] (.cons (.tmp 4 rfl) .nil) eB (Exp.of (congrArg (D.slice true 1) a114) (.row rfl))
 ·
  refine Tk (Tq (Ts hc (Ch.s (dI (ixF p xs)) pm (Ch.s (dI ((ixF p xs) + 1)) (iX rfl rfl intV_addA) (Ch.s (dI ((ixF p xs) + 1)) pa (Ch.nil ?_))))))
  refine Tb ?_
  refine T_take 1 (ixF p xs).toNat 7900000 7900001 rfl (get_map intsU (dl_start (u := default) h1).2.2.2) rfl rfl (fun u0 => ?_)
  refine T_loop (ι := Nat × List Value) (fun q => { n := 42, sl := [(0, (.row 1)), (1, (.d (.fn f caps))), (5, (dI ((keepTo p xs q.1).length : Int))), (6, (dI (q.1 : Int)))], hp := [(1, (some (.row 1 (dlRow p xs q.1 q.2))))], pin := [1] }) (fun q => DlInv p xs q.1 q.2) (fun q => xs.length - q.1) ⟨((ixF p xs).toNat + 1, [u0]), ((dl_start h1).2.1), (Wk.of rfl rfl (ar (ar (ai (vI a18) (ai (vI a126) trivial)))) (ai (oR a73) trivial))⟩ (fun q hp0 => ?_)
  have hq1 := dl_len hp0; have hq2 := hp0.len; have hq3 := hp0.le; have hq4 := hp0.pos
  refine Tq (Ts hc (Ch.s (dI (q.1 : Int)) pm (Ch.s (.row 1) pm (Ch.s (dI ((dlRow p xs q.1 q.2).length : Int)) (.pure (.len _ _ 55 rfl Tryz.underlying49 (.row rfl) rfl)) (Ch.s (dB (decide ((q.1 : Int) < ((dlRow p xs q.1 q.2).length : Int)))) (iX rfl rfl rfl) (Ch.nil ?_))))))
  refine T_condD (p := ((q.1 : Int) < ((dlRow p xs q.1 q.2).length : Int))) rfl (fun h2 => ?_) (fun h2 => ?_)
  ·
   refine Tk (Tq (Tb (Tq ?_)))
   refine T_take 1 q.1 7000002 7000003 rfl (dl_at hp0 (by omega)) rfl rfl (fun u1 => ?_)
   refine Tz hc (Ch.s (.row 1) pm (Ch.s (dI (q.1 : Int)) pm (Ch.s (.el 1 1 q.1 0) (.pure (.idxRow _ _ _ 55 (q.1) rfl Tryz.underlying49 sz55 rfl rfl rfl rfl a96)) (Ch.s (.row 7000002) (.pure (.loadHole (n := 7000002) (m := 7000003) (u := u1) _ _ rfl ag55 rfl rfl (get_set a96) rfl rfl)) (Ch.s (.row 7000002) pa (Ch.nil (Tq ?_)))))))
   refine Tz hc (Ch.s (.d (.fn f caps)) pm (Ch.s (.row 7000002) pm ?_))
   refine Ch.step (v := (dB (p (xs.getD q.1 default)))) rfl (.call 28000 f _ #[.tmp 27] _ hf rfl (.inr ⟨caps, rfl, rfl⟩) (.cons (.lend (.row rfl (frozs_map (fun _ => rfl) _))) (exps_ds caps)) rfl (sol rfl (anys_one (anys_sol caps))) (hp _ (getD_mem (by omega))) (.skip _ _ (back_anys caps)) rfl) rfl rfl ?_
   refine Ch.s (dB (!(p (xs.getD q.1 default)))) (nT rfl) (Ch.nil ?_)
   refine T_condN (b := (p (xs.getD q.1 default))) rfl (fun h3 => ?_) (fun h3 => ?_)
   ·
    refine Ts hc (Ch.s (.row 1) pm (Ch.s (dI ((keepTo p xs q.1).length : Int)) pm (Ch.s (.row 7000002) pm (Ch.s (.el 1 1 ((keepTo p xs q.1).length) 0) (.pure (.idxRow _ _ _ 55 ((keepTo p xs q.1).length) rfl Tryz.underlying49 sz55 rfl rfl rfl rfl a96)) (Ch.s .junk (.storeElK (y' := (.slice true 1 ((xs.getD q.1 default).map (fun n : Int => D.int .i64 n)))) _ _ _ rfl rfl rfl (.row rfl) rfl rfl rfl sz55 rfl (dl_hole hp0 (by omega)) rfl rfl) (Ch.nil ?_))))))
    refine Tz hc (Ch.s (dI ((keepTo p xs q.1).length : Int)) pm (Ch.s (dI (((keepTo p xs q.1).length : Int) + 1)) (iX rfl rfl intV_addA) (Ch.s (dI (((keepTo p xs q.1).length : Int) + 1)) pa (Ch.nil (Tz hc (Ch.s (dI (q.1 : Int)) pm (Ch.s (dI ((q.1 : Int) + 1)) (iX rfl rfl intV_addA) ?_)))))))
    refine Ch.s (dI ((q.1 : Int) + 1)) pa (Ch.nil ?_)
    exact nx (q.1 + 1, q.2.tail ++ [u1]) a35 (Wk.of rfl rfl (ar (ar (ai (vI a18) (ai (vI a126) trivial)))) (ai (oR a73) trivial))
   ·
    refine Tk (Tz hc (Ch.s (dI (q.1 : Int)) pm (Ch.s (dI ((q.1 : Int) + 1)) (iX rfl rfl intV_addA) (Ch.s (dI ((q.1 : Int) + 1)) pa (Ch.nil ?_)))))
    exact nx (q.1 + 1, q.2 ++ [u1]) a35 (Wk.of rfl rfl (ar (ar (ai (vI a18) (ai (vI a126) trivial)))) (ai (oR a73) trivial))
  ·
   refine T_exit (Ts hc (Ch.s (.row 1) pm (Ch.s (dI ((keepTo p xs q.1).length : Int)) pm (Ch.s (.sub 1 1 ((keepTo p xs q.1).length) ((dlRow p xs q.1 q.2).length)) (.pure (.subRow _ _ _ _ 55 ((keepTo p xs q.1).length) ((dlRow p xs q.1 q.2).length) rfl Tryz.underlying49 sz55 rfl rfl (bndS rfl rfl) (bndN rfl) a52 a52)) (Ch.s .junk (.clearK _ _ 55 rfl sty49 rfl rfl a52 (dl_clear hp0 (by omega)) (zeroD_mk (zd := (.slice true 1 [])) zr55 a135 rfl)) (Ch.nil ?_))))))
   refine Ts hc (Ch.s (.row 1) pm (Ch.s (dI ((keepTo p xs q.1).length : Int)) pm (Ch.s (.row 41000) (.cut 41000 _ _ _ 55 ((keepTo p xs q.1).length) rfl Tryz.underlying49 sz55 rfl rfl (bndS rfl rfl) a52 rfl) (Ch.s (.row 41000) pa (Ch.nil (T_ret ?_))))))
   exact eR [(.row 41000)] [] [41000] (.cons (.tmp 4 rfl) .nil) eB (Exp.of (congrArg (D.slice true 1) a114) (.row rfl))

def prIn (P : Nat → Nat → Bool) (i m : Nat) : List (List Int) := selTo m (fun k => decide (i < k) && P i k) fun k => [(i : Int), (k : Int)]

def prTo (P : Nat → Nat → Bool) (n k : Nat) : List (List Int) := (List.range k).flatMap fun i => prIn P i n

def prM (P : Nat → Nat → Bool) (n k m : Nat) : List (List Int) := prTo P n k ++ prIn P k m

theorem prIn_none (P : Nat → Nat → Bool) (i : Nat) {m : Nat} (h : m ≤ i + 1) : prIn P i m = [] := by
 unfold prIn selTo
 rw [List.map_eq_nil_iff, List.filter_eq_nil_iff]
 intro k hk
 have := List.mem_range.1 hk
 rw [decide_eq_false (by omega)]
 simp

theorem prM_start (P : Nat → Nat → Bool) (n k : Nat) : prTo P n k = prM P n k (k + 1) := by rw [prM, prIn_none P k (Nat.le_refl _), List.append_nil]

theorem prIn_all {P : Nat → Nat → Bool} {i n m : Nat} (h : n ≤ m) (h2 : m = n ∨ m ≤ i + 1) : prIn P i m = prIn P i n := by
  rcases h2 with rfl | h2
  · rfl
  · rw [prIn_none P i h2, prIn_none P i (by omega)]

theorem prM_end {P : Nat → Nat → Bool} {n k m : Nat} (h : n ≤ m) (h2 : m = n ∨ m ≤ k + 1) : prM P n k m = prTo P n (k + 1) := by
 rw [prM, prIn_all h h2]
 unfold prTo
 rw [List.range_succ, List.flatMap_append]
 simp

theorem prM_yes {P : Nat → Nat → Bool} {n k m : Nat} (hk : k < m) (h : P k m = true) : prM P n k m ++ [[(k : Int), (m : Int)]] = prM P n k (m + 1) := by
 have : prIn P k m ++ [[(k : Int), (m : Int)]] = prIn P k (m + 1) := selTo_yes (by rw [h, decide_eq_true hk]; rfl)
 rw [prM, List.append_assoc, this]; rfl

theorem prM_no {P : Nat → Nat → Bool} {n k m : Nat} (h : P k m = false) : prM P n k m = prM P n k (m + 1) := by
 have : prIn P k m = prIn P k (m + 1) := selTo_no (by rw [h, Bool.and_false])
 rw [prM, this]; rfl

theorem prIn_le (P : Nat → Nat → Bool) (i m : Nat) : (prIn P i m).length ≤ m := selTo_le _ _ _

theorem prTo_le (P : Nat → Nat → Bool) {n : Nat} (hn : n ≤ 300) : ∀ k, (prTo P n k).length ≤ k * 300
 | 0 => Nat.le_refl 0
 | k + 1 => by
  have h1 := prTo_le P hn k
  have h2 := prIn_le P k n
  have e : (prTo P n (k + 1)).length = (prTo P n k).length + (prIn P k n).length := by
   unfold prTo
   rw [List.range_succ, List.flatMap_append, List.length_append]; simp
  omega

theorem prM_le (P : Nat → Nat → Bool) {n k m : Nat} (hn : n ≤ 300) (hk : k ≤ 300) (hm : m ≤ 301) : (prM P n k m).length ≤ 100000 := by
 have h1 := prTo_le P hn k
 have h2 := prIn_le P k m
 rw [prM, List.length_append]
 omega

theorem prTo_in {P : Nat → Nat → Bool} {n k : Nat} (hk : k ≤ n) : ∀ pr ∈ prTo P n k, pr.length = 2 ∧ (0 ≤ pr.getD 0 default ∧ (pr.getD 0 default).toNat < n) ∧ (0 ≤ pr.getD 1 default ∧ (pr.getD 1 default).toNat < n) := by
  intro pr hpr
  obtain ⟨i, hi, hp⟩ := List.mem_flatMap.1 hpr
  obtain ⟨j, hj, rfl⟩ := List.mem_map.1 hp
  have h1 := List.mem_range.1 hi
  have h2 := List.mem_range.1 (List.mem_filter.1 hj).1
  refine ⟨rfl, ?_, ?_⟩
  · show (0 : Int) ≤ (i : Int) ∧ ((i : Int)).toNat < n
    omega
  · show (0 : Int) ≤ (j : Int) ∧ ((j : Int)).toNat < n
    omega

theorem selTo_filter {τ : Type} (n : Nat) (p : Nat → Bool) (f : Nat → τ) (q : τ → Bool) : (selTo n p f).filter q = selTo n (fun j => p j && q (f j)) f := by
 unfold selTo
 rw [List.filter_map, List.filter_filter]
 congr 1
 apply List.filter_congr
 intro j _
 simp [Bool.and_comm]

theorem prTo_filter (P : Nat → Nat → Bool) (Q : List Int → Bool) (n k : Nat) : (prTo P n k).filter Q = prTo (fun i j => P i j && Q [(i : Int), (j : Int)]) n k := by
 unfold prTo
 rw [List.filter_flatMap]
 congr 1
 funext i
 unfold prIn
 rw [selTo_filter]
 congr 1
 funext j
 rw [Bool.and_assoc]

theorem flatMap_cong {σ τ : Type} {f g : σ → List τ} : ∀ {l : List σ}, (∀ a ∈ l, f a = g a) → l.flatMap f = l.flatMap g
 | [], _ => rfl
 | a :: l, h => by rw [List.flatMap_cons, List.flatMap_cons, h a List.mem_cons_self, flatMap_cong fun b hb => h b (List.mem_cons_of_mem _ hb)]

theorem prTo_congr {P Q : Nat → Nat → Bool} {n k : Nat} (hk : k ≤ n) (h : ∀ i j, i < n → j < n → P i j = Q i j) : prTo P n k = prTo Q n k := by
 unfold prTo
 apply flatMap_cong
 intro i hi
 have h1 := List.mem_range.1 hi
 unfold prIn selTo
 congr 1
 apply List.filter_congr
 intro j hj
 have h2 := List.mem_range.1 hj
 rw [h i j (by omega) h2]

def eqP (x : Sgr) (i k : Nat) : Bool := decide (x.codes.getD i default = x.codes.getD k default)

def cfS (x : Sgr) (pr : List Int) (s : Int) : Bool := !decide ((!excB x (pr.getD 0 default) s) = (!excB x (pr.getD 1 default) s))

def cfD (x : Sgr) (i k : Nat) : Bool := (outsL x.sigs).any fun s => excB x (i : Int) s != excB x (k : Int) s

def cfP (x : Sgr) (i k : Nat) : Bool := eqP x i k && cfD x i k

def cfL (x : Sgr) : List (List Int) := prTo (cfP x) x.codes.length x.codes.length

theorem cf_filter (x : Sgr) : (prTo (eqP x) x.codes.length x.codes.length).filter (fun u => !(fun pr => !(outsL x.sigs).any (cfS x pr)) u) = cfL x := by
  rw [prTo_filter]
  unfold cfL
  apply prTo_congr (Nat.le_refl _)
  intro i j _ _
  unfold cfP cfD
  rw [Bool.not_not]
  congr 1
  congr 1
  funext s
  unfold cfS
  show (!decide ((!excB x (i : Int) s) = (!excB x (j : Int) s))) = _
  cases excB x (i : Int) s <;> cases excB x (j : Int) s <;> rfl

theorem cfS_eq {x : Sgr} {pr : List Int} {s : Int} (hx : SgOk x) (h0 : 0 ≤ pr.getD 0 default ∧ (pr.getD 0 default).toNat < x.codes.length) (h1 : 0 ≤ pr.getD 1 default ∧ (pr.getD 1 default).toNat < x.codes.length) (hs : 0 ≤ s) :
  (!decide (decide (((two ((masksL x).getD (pr.getD 0 default).toNat default) (2 * s).toNat : Nat) : Int) = 0) = decide (((two ((masksL x).getD (pr.getD 1 default).toNat default) (2 * s).toNat : Nat) : Int) = 0))) = cfS x pr s := by
 rw [two_exc hx hs h0, two_exc hx hs h1]; rfl

set_option maxHeartbeats 1000000 in
theorem sp_impl_equalCodes (x : Sgr) (hb : x.bulk ≤ 1048576) (hx : SgOk x) : Sp Tryz.prog 300 [(.agg [(.slice false 2 (x.sigs.map Sgn.d)), (.slice false 1 (x.codes.map D.str)), (.slice false 4 (x.arcs.map Arc.d))])] [.any] (.slice true 1 ((prTo (eqP x) x.codes.length x.codes.length).map intsU)) := by
 refine Sp_intro (lend := true) Tryz.func300 rfl rfl rfl (fun _ => rfl) (fun c hc hX => ?_)
 obtain ⟨hp0, hp1, hp2⟩ := Sgr.parts hb
 have hn0 := bulkF_len hp0
 have hn1 := bulk_len hp1
 have hx1 := bulk_mem hp1
 have hn2 := bulkF_len hp2; have hx8 := hx.eight; have hxl := hx.len; have hxf := hx.few
 refine Ts hc (Ch.s (.ptr 1000 0) (.box 1000 _ _ rfl (.aggD _)) (Ch.s (.c (.slice none 0 0)) pa (Ch.nil (Ts hc (Ch.s (.row 7000) (.slice 7000 _ 55 _ rfl sty49 (xs := []) rfl rfl .nil rfl rfl (by decide)) ?_)))))
 refine Ch.s (.row 7000) pa (Ch.nil (Tq (Ts hc (Ch.s (.ptr 1000 1) (fP fld35_1 rfl) (Ch.s (.d (.slice false 1 (x.codes.map D.str))) (lP ag23 rfl rfl rfl) (Ch.s (dI (x.codes.length : Int)) (.pure (.len _ _ 9 rfl Tryz.underlying23 (.sh _ _) (by simp))) ?_))))))
 refine Ch.s (dI 0) pm (Ch.nil (Tb ?_))
 refine T_loop (ι := Nat) (fun k => { n := 40, sl := [(1, (.ptr 1000 0)), (3, (.row 3)), (9, (.d (.slice false 1 (x.codes.map D.str)))), (10, (dI (x.codes.length : Int))), (11, (dI (k : Int)))], hp := [(3, (some (.row 1 ((prTo (eqP x) x.codes.length k).map intsU)))), (1000, (some (.box (vX x))))], pin := [] }) (fun k => k ≤ x.codes.length) (fun k => x.codes.length - k) ⟨0, (by omega), (Wk.ren [(3, 7000)] rfl rfl rfl rfl (ar (ar (ar (ar (ai (vI a126) trivial))))) (ai (oR a121) (ar trivial)))⟩ (fun k hp0 => ?_)
 refine Ts hc (Ch.s (dB (decide ((k : Int) < (x.codes.length : Int)))) (iX rfl rfl rfl) (Ch.nil (Tq ?_)))
 refine T_condD (p := ((k : Int) < (x.codes.length : Int))) rfl (fun h1 => ?_) (fun h1 => ?_)
 ·
  refine Tk (Tq (Tb (Ts hc (Ch.s (dI (k : Int)) pm (Ch.s (.d (.ref (.str (x.codes.getD k default)))) (.pure (.idx _ _ _ 9 (k) rfl Tryz.underlying23 sz9 rfl rfl rfl get_mapA)) (Ch.s (dS (x.codes.getD k default)) (rF ag9 rfl rfl) ?_))))))
  refine Ch.s (dI (k : Int)) pa (Ch.s (dS (x.codes.getD k default)) pa (Ch.nil (Ts hc (Ch.s (dI (k : Int)) pm (Ch.s (dI ((k : Int) + 1)) (iX rfl rfl intV_addA) (Ch.s (dI ((k : Int) + 1)) pa ?_))))))
  refine Ch.nil (Tb ?_)
  refine T_loop (ι := Nat) (fun m => { n := 40, sl := [(1, (.ptr 1000 0)), (3, (.row 3)), (4, (dI (k : Int))), (5, (dS (x.codes.getD k default))), (6, (dI (m : Int))), (9, (.d (.slice false 1 (x.codes.map D.str)))), (10, (dI (x.codes.length : Int))), (11, (dI (k : Int)))], hp := [(3, (some (.row 1 ((prM (eqP x) x.codes.length k m).map intsU)))), (1000, (some (.box (vX x))))], pin := [] }) (fun m => k < m ∧ m ≤ x.codes.length) (fun m => x.codes.length - m) ⟨k + 1, ⟨by omega, by omega⟩, (Wk.of rfl rfl (ar (ar (ar (ar (ai (vI a126) (ar (ar (ar trivial)))))))) (ai (oR a16) (ar trivial)))⟩ (fun m hp1 => ?_)
  have hq := prM_le (eqP x) (n := x.codes.length) (k := k) (m := m) (by omega) (by omega) (by omega)
  refine Tq (Ts hc (Ch.s (dI (m : Int)) pm (Ch.s (.ptr 1000 1) (fP fld35_1 rfl) (Ch.s (.d (.slice false 1 (x.codes.map D.str))) (lP ag23 rfl rfl rfl) (Ch.s (dI (x.codes.length : Int)) (.pure (.len _ _ 9 rfl Tryz.underlying23 (.sh _ _) (by simp))) (Ch.s (dB (decide ((m : Int) < (x.codes.length : Int)))) (iX rfl rfl rfl) ?_))))))
  refine Ch.nil ?_
  refine T_condD (p := ((m : Int) < (x.codes.length : Int))) rfl (fun h2 => ?_) (fun h2 => ?_)
  ·
   refine Tk (Tq (Tb (Ts hc (Ch.s (.ptr 1000 1) (fP fld35_1 rfl) (Ch.s (.d (.slice false 1 (x.codes.map D.str))) (lP ag23 rfl rfl rfl) (Ch.s (dI (m : Int)) pm ?_))))))
   refine Ch.s (.d (.ref (.str (x.codes.getD m default)))) (.pure (.idx _ _ _ 9 (m) rfl Tryz.underlying23 sz9 rfl rfl rfl get_mapA)) (Ch.s (dS (x.codes.getD m default)) (rF ag9 rfl rfl) (Ch.s (dS (x.codes.getD k default)) pm (Ch.s (dB (decide ((x.codes.getD m default) = (x.codes.getD k default)))) (.pure (.str _ _ _ _ _ rfl rfl rfl rfl)) (Ch.nil ?_))))
   refine T_condD (p := ((x.codes.getD m default) = (x.codes.getD k default))) rfl (fun h3 => ?_) (fun h3 => ?_)
   ·
    refine Tz hc (Ch.s (.row 3) pm (Ch.s (dI (k : Int)) pm (Ch.s (dI (m : Int)) pm (Ch.s (.row 35000) (.slice 35000 _ 3 _ rfl sty55 (xs := [.tmp 33, .tmp 34]) rfl rfl (.cons (.d _) (.cons (.d _) .nil)) rfl rfl (by decide)) (Ch.s (.row 36000) (.slice 36000 _ 55 _ rfl sty49 (xs := [.tmp 35]) rfl rfl (.cons (.row rfl) .nil) rfl rfl (by decide)) ?_)))))
    refine Ch.step (v := (.row 37000)) rfl (.append 37000 _ _ _ 55 rfl sty49 (by decide) (.rowK rfl) (.inr ⟨_, rfl, rfl⟩) (.rowK rfl) rfl a69) rfl rfl ?_
    refine Ch.s (.row 37000) pa (Ch.nil (Tz hc (Ch.s (dI (m : Int)) pm (Ch.s (dI ((m : Int) + 1)) (iX rfl rfl intV_addA) (Ch.s (dI ((m : Int) + 1)) pa (Ch.nil ?_))))))
    exact nx (m + 1) ⟨by omega, by omega⟩ (Wk.ren [(3, 37000)] rfl rfl rfl rfl (ar (ar (ar (ar (ai (vI a126) (ar (ar (ar trivial)))))))) (ai (oR a16) (ar trivial)))
   ·
    refine Tk (Tz hc (Ch.s (dI (m : Int)) pm (Ch.s (dI ((m : Int) + 1)) (iX rfl rfl intV_addA) (Ch.s (dI ((m : Int) + 1)) pa (Ch.nil ?_)))))
    exact nx (m + 1) ⟨by omega, by omega⟩ (Wk.of rfl rfl (ar (ar (ar (ar (ai (vI a126) (ar (ar (ar trivial)))))))) (ai (oR a16) (ar trivial)))
  ·
   refine T_exit (Tz hc (Ch.s (dI ((k : Int) + 1)) (iX rfl rfl intV_addA) (Ch.s (dI ((k : Int) + 1)) pm (Ch.nil ?_))))
   exact nx (k + 1) (by omega) (Wk.of rfl rfl (ar (ar (ar (ar (ai (vI a126) trivial))))) (ai (oR a121) (ar trivial)))
 ·
  refine T_exit (Ts hc (Ch.s (.row 3) pm (Ch.s (.row 3) pa (Ch.nil (T_ret ?_)))))
  exact eR [(.row 3)] [] [3] (.cons (.tmp 2 rfl) .nil) eA (Exp.of (congrArg (D.slice true 1) (by rw [show x.codes.length = k by omega])) (.row rfl))

set_option maxHeartbeats 1000000 in
theorem sp_spec_l6Pairs (x : Sgr) (hb : x.bulk ≤ 1048576) (hx : SgOk x) : Sp Tryz.prog 221 [(.agg [(.slice false 2 (x.sigs.map Sgn.d)), (.slice false 1 (x.codes.map D.str)), (.slice false 4 (x.arcs.map Arc.d))])] [.any] (.slice true 1 ((prTo (eqP x) x.codes.length x.codes.length).map intsU)) := by
 refine Sp_intro (lend := true) Tryz.func221 rfl rfl rfl (fun _ => rfl) (fun c hc hX => ?_)
 obtain ⟨hp0, hp1, hp2⟩ := Sgr.parts hb
 have hn0 := bulkF_len hp0
 have hn1 := bulk_len hp1
 have hx1 := bulk_mem hp1
 have hn2 := bulkF_len hp2; have hx8 := hx.eight; have hxl := hx.len; have hxf := hx.few
 refine Ts hc (Ch.s (.ptr 1000 0) (.box 1000 _ _ rfl (.aggD _)) (Ch.s (.c (.slice none 0 0)) pa (Ch.nil (Ts hc (Ch.s (.c (.slice none 0 0)) pa ?_)))))
 refine Ch.nil (Tq (Ts hc (Ch.s (.ptr 1000 1) (fP fld35_1 rfl) (Ch.s (.d (.slice false 1 (x.codes.map D.str))) (lP ag23 rfl rfl rfl) (Ch.s (dI (x.codes.length : Int)) (.pure (.len _ _ 9 rfl Tryz.underlying23 (.sh _ _) (by simp))) (Ch.s (dI 0) pm ?_))))))
 refine Ch.nil (Tb ?_)
 refine T_loop (ι := Nat) (fun k => { n := 40, sl := [(1, (.ptr 1000 0)), (3, (.row 3)), (8, (dI (x.codes.length : Int))), (9, (dI (k : Int)))], hp := [(3, (some (.row 1 ((prTo (eqP x) x.codes.length k).map intsU)))), (1000, (some (.box (vX x))))], pin := [] }) (fun k => k ≤ x.codes.length) (fun k => x.codes.length - k) ⟨0, (by omega), (Wk.trans (Wk.nilrow 3 900003 1 rfl rfl rfl) (Wk.ren [(3, 900003)] rfl rfl rfl rfl (ar (ar (ar (ai (vI a126) trivial)))) (ai (oR a121) (ar trivial))))⟩ (fun k hp0 => ?_)
 refine Ts hc (Ch.s (dB (decide ((k : Int) < (x.codes.length : Int)))) (iX rfl rfl rfl) (Ch.nil (Tq ?_)))
 refine T_condD (p := ((k : Int) < (x.codes.length : Int))) rfl (fun h1 => ?_) (fun h1 => ?_)
 ·
  refine Tk (Tq (Tb (Ts hc (Ch.s (dI (k : Int)) pm (Ch.s (dI (k : Int)) pa (Ch.nil ?_))))))
  refine Ts hc (Ch.s (dI (k : Int)) pm (Ch.s (dI ((k : Int) + 1)) (iX rfl rfl intV_addA) (Ch.s (dI ((k : Int) + 1)) pa (Ch.nil (Tb ?_)))))
  refine T_loop (ι := Nat) (fun m => { n := 40, sl := [(1, (.ptr 1000 0)), (3, (.row 3)), (4, (dI (k : Int))), (5, (dI (m : Int))), (8, (dI (x.codes.length : Int))), (9, (dI (k : Int)))], hp := [(3, (some (.row 1 ((prM (eqP x) x.codes.length k m).map intsU)))), (1000, (some (.box (vX x))))], pin := [] }) (fun m => k < m ∧ m ≤ x.codes.length) (fun m => x.codes.length - m) ⟨k + 1, ⟨by omega, by omega⟩, (Wk.of rfl rfl (ar (ar (ar (ai (vI a126) (ar (ar trivial)))))) (ai (oR a16) (ar trivial)))⟩ (fun m hp1 => ?_)
  have hq := prM_le (eqP x) (n := x.codes.length) (k := k) (m := m) (by omega) (by omega) (by omega)
  refine Tq (Ts hc (Ch.s (dI (m : Int)) pm (Ch.s (.ptr 1000 1) (fP fld35_1 rfl) (Ch.s (.d (.slice false 1 (x.codes.map D.str))) (lP ag23 rfl rfl rfl) (Ch.s (dI (x.codes.length : Int)) (.pure (.len _ _ 9 rfl Tryz.underlying23 (.sh _ _) (by simp))) (Ch.s (dB (decide ((m : Int) < (x.codes.length : Int)))) (iX rfl rfl rfl) ?_))))))
  refine Ch.nil ?_
  refine T_condD (p := ((m : Int) < (x.codes.length : Int))) rfl (fun h2 => ?_) (fun h2 => ?_)
  ·
   refine Tk (Tq (Tb (Tq ?_)))
   refine T_regionD hc (by kernel_rfl) ?_
   refine ChD.s (.ptr 1000 1) [] (fP fld35_1 rfl) (ChD.s (.d (.slice false 1 (x.codes.map D.str))) [1000] (lP ag23 rfl rfl rfl) (ChD.s (dI (k : Int)) [] pm (ChD.s (.d (.ref (.str (x.codes.getD k default)))) [] (.pure (.idx _ _ _ 9 (k) rfl Tryz.underlying23 sz9 rfl rfl rfl get_mapA)) (ChD.s (dS (x.codes.getD k default)) [] (rF ag9 rfl rfl) (ChD.s (.ptr 1000 1) [] (fP fld35_1 rfl) (ChD.s (.d (.slice false 1 (x.codes.map D.str))) [1000] (lP ag23 rfl rfl rfl) (ChD.s (dI (m : Int)) [] pm ?_)))))))
   refine ChD.s (.d (.ref (.str (x.codes.getD m default)))) [] (.pure (.idx _ _ _ 9 (m) rfl Tryz.underlying23 sz9 rfl rfl rfl get_mapA)) (ChD.s (dS (x.codes.getD m default)) [] (rF ag9 rfl rfl) (ChD.s (dB (decide ((x.codes.getD k default) = (x.codes.getD m default)))) [] (.pure (.str _ _ _ _ _ rfl rfl rfl rfl)) ?_))
   refine ChD.nil (And.intro ?_ (by kernel_rfl))
   refine T_condD (p := ((x.codes.getD k default) = (x.codes.getD m default))) rfl (fun h3 => ?_) (fun h3 => ?_)
   ·
    refine Tz hc (Ch.s (.row 3) pm (Ch.s (dI (k : Int)) pm (Ch.s (dI (m : Int)) pm (Ch.s (.row 35000) (.slice 35000 _ 3 _ rfl sty55 (xs := [.tmp 33, .tmp 34]) rfl rfl (.cons (.d _) (.cons (.d _) .nil)) rfl rfl (by decide)) (Ch.s (.row 36000) (.slice 36000 _ 55 _ rfl sty49 (xs := [.tmp 35]) rfl rfl (.cons (.row rfl) .nil) rfl rfl (by decide)) ?_)))))
    refine Ch.step (v := (.row 37000)) rfl (.append 37000 _ _ _ 55 rfl sty49 (by decide) (.rowK rfl) (.inr ⟨_, rfl, rfl⟩) (.rowK rfl) rfl a69) rfl rfl ?_
    refine Ch.s (.row 37000) pa (Ch.nil (Tz hc (Ch.s (dI (m : Int)) pm (Ch.s (dI ((m : Int) + 1)) (iX rfl rfl intV_addA) (Ch.s (dI ((m : Int) + 1)) pa (Ch.nil ?_))))))
    exact nx (m + 1) ⟨by omega, by omega⟩ (Wk.ren [(3, 37000)] rfl rfl rfl rfl (ar (ar (ar (ai (vI a126) (ar (ar trivial)))))) (ai (oR a16) (ar trivial)))
   ·
    refine Tk (Tz hc (Ch.s (dI (m : Int)) pm (Ch.s (dI ((m : Int) + 1)) (iX rfl rfl intV_addA) (Ch.s (dI ((m : Int) + 1)) pa (Ch.nil ?_)))))
    exact nx (m + 1) ⟨by omega, by omega⟩ (Wk.of rfl rfl (ar (ar (ar (ai (vI a126) (ar (ar trivial)))))) (ai (oR a16) (ar trivial)))
  ·
   refine T_exit (Tz hc (Ch.s (dI ((k : Int) + 1)) (iX rfl rfl intV_addA) (Ch.s (dI ((k : Int) + 1)) pm (Ch.nil ?_))))
   exact nx (k + 1) (by omega) (Wk.of rfl rfl (ar (ar (ar (ai (vI a126) trivial)))) (ai (oR a121) (ar trivial)))
 ·
  refine T_exit (Ts hc (Ch.s (.row 3) pm (Ch.s (.row 3) pa (Ch.nil (T_ret ?_)))))
  exact eR [(.row 3)] [] [3] (.cons (.tmp 2 rfl) .nil) eA (Exp.of (congrArg (D.slice true 1) (by rw [show x.codes.length = k by omega])) (.row rfl))

theorem sp_conflicts_in (s : Int) (x : Sgr) (pr : List Int) (hs : 0 ≤ s ∧ s.toNat < x.sigs.length) (hx : SgOk x) (hpr : pr.length = 2 ∧ (0 ≤ pr.getD 0 default ∧ (pr.getD 0 default).toNat < x.codes.length) ∧ (0 ≤ pr.getD 1 default ∧ (pr.getD 1 default).toNat < x.codes.length)) : Sp Tryz.prog 303 [(.int .i64 s), (.ref (.slice false 1 ((masksL x).map (fun n : Nat => D.int .i64 (n : Int))))), (.ref (.slice false 1 (pr.map (fun n : Int => D.int .i64 n))))] [.any, .any, .any] (.bool (cfS x pr s)) := by
 refine Sp_intro (lend := true) Tryz.func303 rfl rfl rfl (fun _ => rfl) (fun c hc hX => ?_)
 have hx8 := hx.eight; have hml : (masksL x).length = x.codes.length := masksTo_len x _
 refine Ts hc (Ch.s (dB false) pa (Ch.nil (Tq ?_)))
 refine T_regionD hc (by kernel_rfl) ?_
 refine ChD.s (.d (.slice false 1 ((masksL x).map (fun n : Nat => D.int .i64 (n : Int))))) [] (rF ag55 rfl rfl) (ChD.s (.d (.slice false 1 (pr.map (fun n : Int => D.int .i64 n)))) [] (rF ag55 rfl rfl) (ChD.s (.d (.ref (.int .i64 (pr.getD 0 default)))) [] (.pure (.idx _ _ _ 3 (0) rfl Tryz.underlying55 sz3 rfl rfl rfl get_mapA)) (ChD.s (dI (pr.getD 0 default)) [] (rF ag3 rfl rfl) (ChD.s (.d (.ref (.int .i64 (((masksL x).getD (((pr.getD 0 default)).toNat) default) : Int)))) [] (.pure (.idx _ _ _ 3 (((pr.getD 0 default)).toNat) rfl Tryz.underlying55 sz3 rfl rfl (by omega) get_mapA)) (ChD.s (dI (((masksL x).getD (((pr.getD 0 default)).toNat) default) : Int)) [] (rF ag3 rfl rfl) (ChD.s (dI s) [] pm (ChD.s (dI (2 * s)) [] (iX rfl rfl (intV_mul a52 a52)) ?_)))))))
 refine ChD.s (dI ((((masksL x).getD (((pr.getD 0 default)).toNat) default) >>> (((2 * s)).toNat) : Nat) : Int)) [] (.pure (.shift _ _ _ _ _ rfl rfl rfl (i64_shr (m := ((masksL x).getD (((pr.getD 0 default)).toNat) default)) (n := ((2 * s)).toNat) (by omega) a52))) (ChD.s (dI ((two ((masksL x).getD (((pr.getD 0 default)).toNat) default) (((2 * s)).toNat) : Nat) : Int)) [] (iX rfl rfl (i64_and3 (((masksL x).getD (((pr.getD 0 default)).toNat) default) >>> (((2 * s)).toNat)))) (ChD.s (dB (decide (((two ((masksL x).getD (((pr.getD 0 default)).toNat) default) (((2 * s)).toNat) : Nat) : Int) = 0))) [] (iX rfl rfl rfl) (ChD.s (.d (.slice false 1 ((masksL x).map (fun n : Nat => D.int .i64 (n : Int))))) [] (rF ag55 rfl rfl) (ChD.s (.d (.slice false 1 (pr.map (fun n : Int => D.int .i64 n)))) [] (rF ag55 rfl rfl) (ChD.s (.d (.ref (.int .i64 (pr.getD 1 default)))) [] (.pure (.idx _ _ _ 3 (1) rfl Tryz.underlying55 sz3 rfl rfl rfl get_mapA)) (ChD.s (dI (pr.getD 1 default)) [] (rF ag3 rfl rfl) (ChD.s (.d (.ref (.int .i64 (((masksL x).getD (((pr.getD 1 default)).toNat) default) : Int)))) [] (.pure (.idx _ _ _ 3 (((pr.getD 1 default)).toNat) rfl Tryz.underlying55 sz3 rfl rfl (by omega) get_mapA)) ?_)))))))
 refine ChD.s (dI (((masksL x).getD (((pr.getD 1 default)).toNat) default) : Int)) [] (rF ag3 rfl rfl) (ChD.s (dI s) [] pm (ChD.s (dI (2 * s)) [] (iX rfl rfl (intV_mul a52 a52)) (ChD.s (dI ((((masksL x).getD (((pr.getD 1 default)).toNat) default) >>> (((2 * s)).toNat) : Nat) : Int)) [] (.pure (.shift _ _ _ _ _ rfl rfl rfl (i64_shr (m := ((masksL x).getD (((pr.getD 1 default)).toNat) default)) (n := ((2 * s)).toNat) (by omega) a52))) (ChD.s (dI ((two ((masksL x).getD (((pr.getD 1 default)).toNat) default) (((2 * s)).toNat) : Nat) : Int)) [] (iX rfl rfl (i64_and3 (((masksL x).getD (((pr.getD 1 default)).toNat) default) >>> (((2 * s)).toNat)))) (ChD.s (dB (decide (((two ((masksL x).getD (((pr.getD 1 default)).toNat) default) (((2 * s)).toNat) : Nat) : Int) = 0))) [] (iX rfl rfl rfl) (ChD.s (dB (!(decide ((decide (((two ((masksL x).getD (((pr.getD 0 default)).toNat) default) (((2 * s)).toNat) : Nat) : Int) = 0)) = (decide (((two ((masksL x).getD (((pr.getD 1 default)).toNat) default) (((2 * s)).toNat) : Nat) : Int) = 0)))))) [] (.pure (.neB _ _ _ _ rfl Tryz.underlying4 rfl rfl)) (ChD.s (dB (!(decide ((decide (((two ((masksL x).getD (((pr.getD 0 default)).toNat) default) (((2 * s)).toNat) : Nat) : Int) = 0)) = (decide (((two ((masksL x).getD (((pr.getD 1 default)).toNat) default) (((2 * s)).toNat) : Nat) : Int) = 0)))))) [] pa ?_)))))))
 refine ChD.nil (And.intro ?_ (by kernel_rfl))
 refine T_ret ?_
 exact eR [(dB (!(decide ((decide (((two ((masksL x).getD (((pr.getD 0 default)).toNat) default) (((2 * s)).toNat) : Nat) : Int) = 0)) = (decide (((two ((masksL x).getD (((pr.getD 1 default)).toNat) default) (((2 * s)).toNat) : Nat) : Int) = 0))))))] [] [] (.cons (.tmp 4 rfl) .nil) eC (Exp.of (congrArg D.bool (by exact cfS_eq hx hpr.2.1 hpr.2.2 hs.1)) (.d _))

theorem sp_conflicts_1 (x : Sgr) (pr : List Int) (hx : SgOk x) (hpr : pr.length = 2 ∧ (0 ≤ pr.getD 0 default ∧ (pr.getD 0 default).toNat < x.codes.length) ∧ (0 ≤ pr.getD 1 default ∧ (pr.getD 1 default).toNat < x.codes.length)) : Sp Tryz.prog 301 [(.slice false 1 (pr.map (fun n : Int => D.int .i64 n))), (.ref (.slice false 1 ((outsL x.sigs).map (fun n : Int => D.int .i64 n)))), (.ref (.slice false 1 ((masksL x).map (fun n : Nat => D.int .i64 (n : Int)))))] [.any, .any, .any] (.bool (!(outsL x.sigs).any (cfS x pr))) := by
 refine Sp_intro (lend := true) Tryz.func301 rfl rfl rfl (fun _ => rfl) (fun c hc hX => ?_)
 have hx8 := hx.eight; have hml : (masksL x).length = x.codes.length := masksTo_len x _; have hol := outs_len x.sigs
 refine Ts hc (Ch.s (.ptr 3000 0) (.box 3000 _ _ rfl (.one _ rfl)) (Ch.s (dB false) pa (Ch.nil (Ts hc (Ch.s (.d (.slice false 1 ((outsL x.sigs).map (fun n : Int => D.int .i64 n)))) (rF ag55 rfl rfl) ?_)))))
 refine Ch.s (.fn 303 [(.d (.ref (.slice false 1 ((masksL x).map (fun n : Nat => D.int .i64 (n : Int)))))), (.ptr 3000 0)]) (.pure (.func _ _ rfl rfl)) (Ch.s (dB ((outsL x.sigs).any (cfS x pr))) (.call 7000 302 _ _ _ en302 rfl (.inl rfl) (.cons (.d _) (.cons (.lend (.fn (.cons (.d _) (.cons (.ptr rfl (.one (.d _) rfl)) .nil)))) .nil)) rfl rfl (sp_ContainsFunc_int (outsL x.sigs) 303 [(.ref (.slice false 1 ((masksL x).map (fun n : Nat => D.int .i64 (n : Int))))), (.ref (.slice false 1 (pr.map (fun n : Int => D.int .i64 n))))] (cfS x pr) en303 (fun s hs => sp_conflicts_in s x pr (outs_in s hs) hx hpr) a46) (.skip _ _ (.skip _ _ .nil)) rfl) (Ch.s (dB (!((outsL x.sigs).any (cfS x pr)))) (nT rfl) (Ch.s (dB (!((outsL x.sigs).any (cfS x pr)))) pa (Ch.nil (T_ret ?_)))))
 exact eR [(dB (!((outsL x.sigs).any (cfS x pr))))] [] [] (.cons (.tmp 4 rfl) .nil) eC (Exp.of (congrArg D.bool (by rfl)) (.d _))

theorem sp_impl_conflicts (x : Sgr) (hb : x.bulk ≤ 1048576) (hx : SgOk x) : Sp Tryz.prog 284 [(.agg [(.slice false 2 (x.sigs.map Sgn.d)), (.slice false 1 (x.codes.map D.str)), (.slice false 4 (x.arcs.map Arc.d))])] [.any] (.slice true 1 ((cfL x).map intsU)) := by
 refine Sp_intro (lend := true) Tryz.func284 rfl rfl rfl (fun _ => rfl) (fun c hc hX => ?_)
 obtain ⟨hp0, hp1, hp2⟩ := Sgr.parts hb
 have hn0 := bulkF_len hp0
 have hn1 := bulk_len hp1
 have hx1 := bulk_mem hp1
 have hn2 := bulkF_len hp2; have hx8 := hx.eight; have hxl := hx.len; have hxf := hx.few; have hpl := prTo_le (eqP x) (n := x.codes.length) (by omega) x.codes.length
 refine Ts hc (Ch.s (.ptr 1000 0) (.box 1000 _ _ rfl (.aggD _)) (Ch.s (.c (.slice none 0 0)) pa (Ch.nil (Tq ?_))))
 refine T_regionD hc (by kernel_rfl) ?_
 refine ChD.s (.agg (vX x)) [1000] (lA ag35 sz35 rfl rfl (lb rfl) rfl) (ChD.s (.row 6000) [] (.call 6000 296 _ _ _ en296 rfl (.inl rfl) (.cons lX .nil) rfl (sol (solid_row (fun _ => rfl) _) rfl) (sp_impl_labelMasks x a46 (by assumption)) (.skip _ _ .nil) rfl) (ChD.s (.agg (vX x)) [1000] (lA ag35 sz35 rfl rfl (lb rfl) rfl) (ChD.s (.row 8000) [] (.call 8000 173 _ _ _ en173 rfl (.inl rfl) (.cons lX .nil) rfl (sol (solid_row (fun _ => rfl) _) rfl) (sp_impl_outputs x a51) (.skip _ _ .nil) rfl) (ChD.s (.ptr 3000 0) [] (.alloc 3000 _ rfl zer55) (ChD.s (.ptr 4000 0) [] (.alloc 4000 _ rfl zer55) (ChD.s .junk [3000, 6000] (.storePtr _ _ _ rfl rfl rfl (.one _ rfl) sz55 (lb rfl)) (ChD.s .junk [4000, 8000] (.storePtr _ _ _ rfl rfl rfl (.one _ rfl) sz55 (lb rfl)) ?_)))))))
 refine ChD.nil (And.intro ?_ (by kernel_rfl))
 refine Ts hc (Ch.s (.agg (vX x)) (lA ag35 sz35 rfl rfl (lb rfl) rfl) ?_)
 refine Ch.step (v := (.row 10000)) rfl (.call 10000 300 _ _ _ en300 rfl (.inl rfl) (.cons lX .nil) rfl (sol (solid_row intsU_sol _) rfl) (sp_impl_equalCodes x a46 (by assumption)) (.skip _ _ .nil) rfl) rfl rfl ?_
 refine Ch.s (.fn 301 [(.ptr 4000 0), (.ptr 3000 0)]) (.pure (.func _ _ rfl rfl)) ?_
 refine Ch.step (v := (.row 12000)) rfl (.call 12000 299 _ _ _ en299 rfl (.inl rfl) (.cons (.row rfl) (.cons (.lend (.fn (.cons (.ptr rfl (.one (.row rfl (frozs_map (fun _ => rfl) _)) rfl)) (.cons (.ptr rfl (.one (.row rfl (frozs_map (fun _ => rfl) _)) rfl)) .nil)))) .nil)) rfl (sol (solid_row intsU_sol _) rfl) (sp_DeleteFunc_ints (prTo (eqP x) x.codes.length x.codes.length) 301 [(.ref (.slice false 1 ((outsL x.sigs).map (fun n : Int => D.int .i64 n)))), (.ref (.slice false 1 ((masksL x).map (fun n : Nat => D.int .i64 (n : Int)))))] (fun pr => !(outsL x.sigs).any (cfS x pr)) en301 (fun pr hpr => sp_conflicts_1 x pr hx (prTo_in (Nat.le_refl _) pr hpr)) a46) (.skip _ _ (.skip _ _ .nil)) rfl) rfl rfl ?_
 refine Ch.s (.row 12000) pa (Ch.nil (T_ret ?_))
 exact eR [(.row 12000)] [] [12000] (.cons (.tmp 2 rfl) .nil) eA (Exp.of (congrArg (D.slice true 1) (by first | (rw [cf_filter]; done) | (exact congrArg (List.map _) (cf_filter x)))) (.row rfl))

theorem en99 : Enters Tryz.prog 99 := ⟨_, Tryz.func99, by kernel_rfl, rfl⟩

theorem mg_at {τ : Type} [Inhabited τ] {f : τ → D} {P : List D} {xs : List τ} {m : Nat} (h : P.length = m) (hm : m < xs.length) : (P ++ (xs.drop m).map f)[m]? = some (f (xs.getD m default)) := by
 rw [List.getElem?_append_right (by omega), h, Nat.sub_self, List.getElem?_map, List.getElem?_drop, Nat.add_zero]
 simp [hm]

theorem mg_set {τ : Type} {f : τ → D} {P : List D} {xs : List τ} {m : Nat} {y : D} (h : P.length = m) (hm : m < xs.length) : (P ++ (xs.drop m).map f).set m y = (P ++ [y]) ++ (xs.drop (m + 1)).map f := by
 rw [List.set_append_right (h := by omega), h, Nat.sub_self, List.drop_eq_getElem_cons hm, List.map_cons, List.set_cons_zero, List.append_assoc]
 rfl

theorem mg_len {τ : Type} {f : τ → D} {P : List D} {xs : List τ} {m : Nat} (h : P.length = m) (hm : m ≤ xs.length) : (P ++ (xs.drop m).map f).length = xs.length := by
 rw [List.length_append, List.length_map, List.length_drop]; omega

theorem en124 : Enters Tryz.prog 124 := ⟨_, Tryz.func124, by kernel_rfl, rfl⟩

theorem en209 : Enters Tryz.prog 209 := ⟨_, Tryz.func209, by kernel_rfl, rfl⟩

structure Lin {α : Type} (le : α → α → Bool) : Prop where
 trans : ∀ a b c : α, le a b = true → le b c = true → le a c = true
 total : ∀ a b : α, (le a b || le b a) = true
 anti : ∀ a b : α, le a b = true → le b a = true → a = b

def Rise {α : Type} (le : α → α → Bool) (l : List α) : Prop := l.Pairwise fun a b => le a b = true ∧ a ≠ b

theorem rise_ext {α : Type} {le : α → α → Bool} (h : Lin le) : ∀ {l m : List α}, Rise le l → Rise le m → (∀ a, a ∈ l ↔ a ∈ m) → l = m
  | [], [], _, _, _ => rfl
  | [], b :: m, _, _, e => absurd ((e b).2 List.mem_cons_self) List.not_mem_nil
  | a :: l, [], _, _, e => absurd ((e a).1 List.mem_cons_self) List.not_mem_nil
  | a :: l, b :: m, hl, hm, e => by
    unfold Rise at hl hm
    rw [List.pairwise_cons] at hl hm
    have hab : a = b := by
      rcases List.mem_cons.1 ((e a).1 List.mem_cons_self) with h1 | h1
      · exact h1
      · rcases List.mem_cons.1 ((e b).2 List.mem_cons_self) with h2 | h2
        · exact h2.symm
        · exact h.anti _ _ (hl.1 b h2).1 (hm.1 a h1).1
    subst hab
    congr 1
    refine rise_ext h hl.2 hm.2 fun x => ⟨fun hx => ?_, fun hx => ?_⟩
    · rcases List.mem_cons.1 ((e x).1 (List.mem_cons_of_mem _ hx)) with h1 | h1
      · exact absurd h1.symm (hl.1 x hx).2
      · exact h1
    · rcases List.mem_cons.1 ((e x).2 (List.mem_cons_of_mem _ hx)) with h1 | h1
      · exact absurd h1.symm (hm.1 x hx).2
      · exact h1

theorem upTo_rise {α : Type} [Inhabited α] [DecidableEq α] {le : α → α → Bool} (h : Lin le) {zs : List α} (hz : zs.Pairwise fun a b => le a b = true) : ∀ m, m ≤ zs.length →
    Rise le (Lib.compactUpTo zs.toArray m) ∧ (∀ a, a ∈ Lib.compactUpTo zs.toArray m ↔ a ∈ zs.take m) ∧ ∀ a ∈ Lib.compactUpTo zs.toArray m, 0 < m ∧ le a (zs.getD (m - 1) default) = true
  | 0, _ => ⟨List.Pairwise.nil, fun a => by simp [Lib.compactUpTo], fun a ha => by simp [Lib.compactUpTo] at ha⟩
  | m + 1, hm => by
    obtain ⟨h1, h2, h3⟩ := upTo_rise h hz m (by omega)
    have hg : ∀ j, j < zs.length → zs.toArray[j]! = zs.getD j default := by intro j hj; simp [hj]
    have hml : zs.getD m default = zs[m] := by simp [show m < zs.length by omega]
    have hrefl : ∀ a : α, le a a = true := fun a => by have := h.total a a; rwa [Bool.or_self] at this
    have hstep : 0 < m → le (zs.getD (m - 1) default) (zs.getD m default) = true := by
      intro h0
      have := List.pairwise_iff_getElem.1 hz (m - 1) m (by omega) (by omega) (by omega)
      rw [hml, show zs.getD (m - 1) default = zs[m - 1] by simp [show m - 1 < zs.length by omega]]; exact this
    rw [Lib.compactUpTo_succ, List.take_succ_eq_append_getElem (by omega), ← hml]
    cases hk : Lib.keeps zs.toArray m with
    | false =>
      have h4 : ¬ (m = 0 ∨ zs.toArray[m]! ≠ zs.toArray[m - 1]!) := by
        unfold Lib.keeps at hk
        exact of_decide_eq_false hk
      have h0 : 0 < m := Nat.pos_of_ne_zero fun e => h4 (.inl e)
      have h5 : zs.getD m default = zs.getD (m - 1) default := by
        rw [← hg m (by omega), ← hg (m - 1) (by omega)]
        exact Classical.byContradiction fun e => h4 (.inr e)
      rw [if_neg (by decide), List.append_nil]
      refine ⟨h1, fun a => ?_, fun a ha => ⟨by omega, ?_⟩⟩
      · rw [h2, List.mem_append, List.mem_singleton]
        refine ⟨.inl, fun hh => hh.elim id fun e => ?_⟩
        rw [e, h5, show zs.getD (m - 1) default = zs[m - 1] by simp [show m - 1 < zs.length by omega]]
        exact List.mem_take_iff_getElem.2 ⟨m - 1, by omega, rfl⟩
      · show le a (zs.getD m default) = true
        rw [h5]; exact (h3 a ha).2
    | true =>
      have h4 : m = 0 ∨ zs.toArray[m]! ≠ zs.toArray[m - 1]! := by
        unfold Lib.keeps at hk
        exact of_decide_eq_true hk
      rw [if_pos rfl, hg m (by omega)]
      refine ⟨?_, fun a => ?_, fun a ha => ⟨by omega, ?_⟩⟩
      · unfold Rise at h1 ⊢
        rw [List.pairwise_append]
        refine ⟨h1, List.pairwise_singleton _ _, fun a ha b hb => ?_⟩
        rw [List.mem_singleton] at hb
        subst hb
        obtain ⟨h0, h5⟩ := h3 a ha
        refine ⟨h.trans _ _ _ h5 (hstep h0), fun e => ?_⟩
        rcases h4 with h4 | h4
        · omega
        · rw [hg m (by omega), hg (m - 1) (by omega)] at h4
          subst e
          exact h4 (h.anti _ _ h5 (hstep h0))
      · rw [List.mem_append, List.mem_append, h2]
      · show le a (zs.getD m default) = true
        rcases List.mem_append.1 ha with ha | ha
        · exact h.trans _ _ _ (h3 a ha).2 (hstep (h3 a ha).1)
        · rw [List.mem_singleton] at ha; subst ha; exact hrefl _

def tid {α : Type} [Inhabited α] [DecidableEq α] (le : α → α → Bool) (l : List α) : List α := Lib.compact (l.mergeSort le)

theorem tid_rise {α : Type} [Inhabited α] [DecidableEq α] {le : α → α → Bool} (h : Lin le) (l : List α) : Rise le (tid le l) :=
 (upTo_rise h (List.pairwise_mergeSort (fun a b c h1 h2 => h.trans a b c h1 h2) (fun a b => h.total a b) l) _ (Nat.le_refl _)).1

theorem tid_mem {α : Type} [Inhabited α] [DecidableEq α] {le : α → α → Bool} (h : Lin le) {l : List α} {a : α} : a ∈ tid le l ↔ a ∈ l := by
 have := (upTo_rise h (List.pairwise_mergeSort (fun a b c h1 h2 => h.trans a b c h1 h2) (fun a b => h.total a b) l) _ (Nat.le_refl _)).2.1 a
 rw [List.take_length, List.mem_mergeSort] at this
 exact this

theorem tid_nil {α : Type} [Inhabited α] [DecidableEq α] (le : α → α → Bool) : tid le ([] : List α) = [] := by
 rw [tid, List.mergeSort_nil]; rfl

theorem upTo_len {α : Type} [Inhabited α] [DecidableEq α] (d : Array α) (m : Nat) : (Lib.compactUpTo d m).length ≤ m := by
 unfold Lib.compactUpTo
 rw [List.length_map]
 have := List.length_filter_le (Lib.keeps d) (List.range m)
 rwa [List.length_range] at this

theorem compact_len {α : Type} [Inhabited α] [DecidableEq α] (l : List α) : (Lib.compact l).length ≤ l.length := upTo_len _ _

theorem tid_len {α : Type} [Inhabited α] [DecidableEq α] (le : α → α → Bool) (l : List α) : (tid le l).length ≤ l.length := by
 have := compact_len (l.mergeSort le)
 rwa [List.length_mergeSort] at this

theorem bl_irr : ∀ x : List UInt8, Op.bytesLess x x = false
 | [] => rfl
 | a :: x => by
  rw [Op.bytesLess, bl_irr x, Bool.and_false, Bool.or_false]
  simp

theorem u8_lt {a b : UInt8} : a < b ↔ a.toNat < b.toNat := UInt8.lt_iff_toNat_lt

theorem bl_cons {a b : UInt8} {x y : List UInt8} : Op.bytesLess (a :: x) (b :: y) = true ↔ a.toNat < b.toNat ∨ (a.toNat = b.toNat ∧ Op.bytesLess x y = true) := by
 rw [Op.bytesLess, Bool.or_eq_true, decide_eq_true_iff, Bool.and_eq_true, beq_iff_eq, u8_lt, UInt8.toNat_inj]

theorem bl_trans : ∀ {x y z : List UInt8}, Op.bytesLess x y = true → Op.bytesLess y z = true → Op.bytesLess x z = true
  | [], [], _, h, _ => by simp [Op.bytesLess] at h
  | [], b :: y, [], _, h => by simp [Op.bytesLess] at h
  | [], b :: y, c :: z, _, _ => rfl
  | a :: x, [], _, h, _ => by simp [Op.bytesLess] at h
  | a :: x, b :: y, [], _, h => by simp [Op.bytesLess] at h
  | a :: x, b :: y, c :: z, h1, h2 => by
    rw [bl_cons] at h1 h2 ⊢
    rcases h1 with h1 | ⟨h1, h3⟩ <;> rcases h2 with h2 | ⟨h2, h4⟩
    · exact .inl (by omega)
    · exact .inl (by omega)
    · exact .inl (by omega)
    · exact .inr ⟨by omega, bl_trans h3 h4⟩

theorem bl_tri : ∀ {x y : List UInt8}, ¬ Op.bytesLess x y = true → ¬ Op.bytesLess y x = true → x = y
 | [], [], _, _ => rfl
 | [], b :: y, h, _ => absurd rfl h
 | a :: x, [], _, h => absurd rfl h
 | a :: x, b :: y, h1, h2 => by
  rw [bl_cons] at h1 h2
  have e : a = b := UInt8.toNat_inj.1 (by
   have h3 : ¬ a.toNat < b.toNat := fun h => h1 (.inl h)
   have h4 : ¬ b.toNat < a.toNat := fun h => h2 (.inl h)
   omega)
  subst e
  rw [bl_tri (fun h => h1 (.inr ⟨rfl, h⟩)) (fun h => h2 (.inr ⟨rfl, h⟩))]

theorem bl_lt : ∀ x y : List UInt8, (Op.bytesLess x y = true) ↔ x < y
 | [], [] => by simp [Op.bytesLess]
 | _ :: _, [] => by simp [Op.bytesLess]
 | [], _ :: _ => by simp [Op.bytesLess]
 | a :: x, b :: y => by
  rw [bl_cons, List.cons_lt_cons_iff, u8_lt, bl_lt x y, UInt8.toNat_inj]

def leS (x y : List UInt8) : Bool := decide (x ≤ y)

theorem leS_bl (x y : List UInt8) : leS x y = !Op.bytesLess y x := by
 unfold leS
 rw [Bool.eq_iff_iff, decide_eq_true_iff, Bool.not_eq_true', ← List.not_lt, ← bl_lt]
 simp

theorem linS : Lin leS := by
  refine ⟨fun a b c h1 h2 => ?_, fun a b => ?_, fun a b h1 h2 => ?_⟩
  · rw [leS_bl, Bool.not_eq_true'] at h1 h2 ⊢
    rw [Bool.eq_false_iff] at *
    intro hc
    by_cases hab : a = b
    · subst hab; exact h2 hc
    · by_cases h3 : Op.bytesLess a b = true
      · exact h2 (bl_trans hc h3)
      · exact hab (bl_tri h3 h1)
  · rw [leS_bl, leS_bl]
    cases hab : Op.bytesLess a b with
    | false => simp
    | true =>
      cases hba : Op.bytesLess b a with
      | false => rfl
      | true => have := bl_trans hab hba; rw [bl_irr] at this; cases this
  · rw [leS_bl, Bool.not_eq_true', Bool.eq_false_iff] at h1 h2
    exact bl_tri h2 h1

def tidS (l : List (List UInt8)) : List (List UInt8) := tid leS l

def put14 (l : List (List UInt8)) (x : List UInt8) : List (List UInt8) := l.takeWhile (fun b => Op.bytesLess b x) ++ x :: l.dropWhile (fun b => Op.bytesLess b x)

def put15 (l : List (List UInt8)) (x : List UInt8) : List (List UInt8) := if hasS l x then l else put14 l x

theorem put14_mem {l : List (List UInt8)} {x a : List UInt8} : a ∈ put14 l x ↔ a ∈ l ∨ a = x := by
  unfold put14
  rw [List.mem_append, List.mem_cons]
  have e : a ∈ l ↔ a ∈ l.takeWhile (fun b => Op.bytesLess b x) ∨ a ∈ l.dropWhile (fun b => Op.bytesLess b x) := by
    rw [← List.mem_append, List.takeWhile_append_dropWhile]
  rw [e]
  constructor
  · rintro (h1 | h1 | h1)
    · exact .inl (.inl h1)
    · exact .inr h1
    · exact .inl (.inr h1)
  · rintro ((h1 | h1) | h1)
    · exact .inl h1
    · exact .inr (.inr h1)
    · exact .inr (.inl h1)

theorem put14_len (l : List (List UInt8)) (x : List UInt8) : (put14 l x).length = l.length + 1 := by
 have : (l.takeWhile (fun b => Op.bytesLess b x) ++ l.dropWhile (fun b => Op.bytesLess b x)).length = l.length := by rw [List.takeWhile_append_dropWhile]
 rw [List.length_append] at this
 unfold put14
 rw [List.length_append, List.length_cons]; omega

theorem hasS_mem {l : List (List UInt8)} {x : List UInt8} : hasS l x = true ↔ x ∈ l := by
  unfold hasS
  rw [List.any_eq_true]
  constructor
  · rintro ⟨a, ha, h⟩
    have := of_decide_eq_true h
    subst this; exact ha
  · intro h
    exact ⟨x, h, decide_eq_true rfl⟩

theorem put15_mem {l : List (List UInt8)} {x a : List UInt8} : a ∈ put15 l x ↔ a ∈ l ∨ a = x := by
  unfold put15
  split
  · rename_i h
    constructor
    · exact .inl
    · rintro (h1 | rfl)
      · exact h1
      · exact hasS_mem.1 h
  · exact put14_mem

theorem dropS_rise {x : List UInt8} : ∀ {l : List (List UInt8)}, Rise leS l → ¬ x ∈ l → ∀ a ∈ l.dropWhile (fun b => Op.bytesLess b x), leS x a = true ∧ x ≠ a
  | [], _, _, a, ha => by simp at ha
  | b :: l, hl, hx, a, ha => by
    unfold Rise at hl
    rw [List.pairwise_cons] at hl
    rw [List.dropWhile_cons] at ha
    split at ha
    · exact dropS_rise hl.2 (fun h => hx (List.mem_cons_of_mem _ h)) a ha
    · rename_i hb
      have h1 : leS x b = true := by rw [leS_bl]; simpa using hb
      rcases List.mem_cons.1 ha with rfl | ha
      · exact ⟨h1, fun e => hx (e ▸ List.mem_cons_self)⟩
      · exact ⟨linS.trans _ _ _ h1 (hl.1 a ha).1, fun e => hx (e ▸ List.mem_cons_of_mem _ ha)⟩

theorem whileS_lt {x : List UInt8} : ∀ {l : List (List UInt8)} {a : List UInt8}, a ∈ l.takeWhile (fun b => Op.bytesLess b x) → Op.bytesLess a x = true
  | [], a, h => by simp at h
  | b :: l, a, h => by
    rw [List.takeWhile_cons] at h
    split at h
    · rename_i hb
      rcases List.mem_cons.1 h with rfl | h
      · exact hb
      · exact whileS_lt h
    · simp at h

theorem bl_le {a b : List UInt8} (h : Op.bytesLess a b = true) : leS a b = true ∧ a ≠ b := by
  refine ⟨?_, fun e => ?_⟩
  · rw [leS_bl]
    cases hba : Op.bytesLess b a with
    | false => rfl
    | true => have := bl_trans h hba; rw [bl_irr] at this; cases this
  · subst e; rw [bl_irr] at h; cases h

theorem put15_rise {l : List (List UInt8)} {x : List UInt8} (hl : Rise leS l) : Rise leS (put15 l x) := by
  unfold put15
  split
  · exact hl
  · rename_i h
    have hn : ¬ x ∈ l := fun hm => h (hasS_mem.2 hm)
    have hd := dropS_rise hl hn
    unfold Rise at hl ⊢
    unfold put14
    rw [List.pairwise_append, List.pairwise_cons]
    refine ⟨hl.sublist (List.takeWhile_sublist _), ⟨hd, hl.sublist (List.dropWhile_sublist _)⟩, fun a ha b hb => ?_⟩
    have h3 := bl_le (whileS_lt ha)
    rcases List.mem_cons.1 hb with rfl | hb
    · exact h3
    · have h4 := hd b hb
      refine ⟨linS.trans _ _ _ h3.1 h4.1, fun e => ?_⟩
      subst e
      exact h3.2 (linS.anti _ _ h3.1 h4.1)

theorem put15_tid (l : List (List UInt8)) (x : List UInt8) : put15 (tidS l) x = tidS (l ++ [x]) :=
 rise_ext linS (put15_rise (tid_rise linS l)) (tid_rise linS _) fun a => by
  rw [put15_mem, tidS, tid_mem linS, tidS, tid_mem linS, List.mem_append, List.mem_singleton]

theorem sp_Sort_str (xs : List (List UInt8)) (hn : xs.length ≤ 1048576) : Sp Tryz.prog 124 [.slice true 1 (xs.map D.str)] [.slice true 1 ((xs.mergeSort leS).map D.str)] (.tup []) :=
 sp_turnRow encStrD (srt := fun l => l.mergeSort leS) (fun l => List.length_mergeSort l) List.mergeSort_nil Tryz.slices_Sort_string_none Tryz.slices_Sort_string xs hn

theorem sp_Compact_str (xs : List (List UInt8)) (hn : xs.length ≤ 1048576) : Sp Tryz.prog 209 [.slice true 1 (xs.map D.str)] [.any] (.slice true 1 ((Lib.compact xs).map D.str)) := by
 have h := sp_cutRow (P := Tryz.prog) (fn := 209) encStrD (more := []) (mvs := []) (fun S w vs F hd => by rw [DRs] at hd; exact hd) (fun S w => by rw [List.map_nil, DRs]; exact ⟨rfl, rfl⟩) xs (Lib.compact xs ++ List.replicate (xs.length - (Lib.compact xs).length) []) (Lib.compact xs).length
  (by have := compact_len xs; rw [List.length_append, List.length_replicate]; omega) (by rw [List.length_append]; omega) (fun _ p cap w => Tryz.slices_Compact_string_empty p cap w) (fun blk cap w hH hc hm => Tryz.slices_Compact_string blk 0 cap xs w hH (by omega) hc)
 rw [List.take_left] at h
 exact h

def nxTo (x : Sgr) : Nat → List (List Int)
 | 0 => List.replicate x.codes.length []
 | k + 1 => (nxTo x k).set (x.arcs.getD k default).src.toNat ((nxTo x k).getD (x.arcs.getD k default).src.toNat default ++ [(k : Int)])

theorem nxTo_len (x : Sgr) : ∀ k, (nxTo x k).length = x.codes.length
 | 0 => by simp [nxTo]
 | k + 1 => by rw [nxTo, List.length_set, nxTo_len x k]

theorem nx_mem {x : Sgr} (hen : ends x.codes.length x.arcs) {j : Nat} {i : Int} : ∀ k, k ≤ x.arcs.length → (i ∈ (nxTo x k).getD j default ↔ (0 ≤ i ∧ i.toNat < k) ∧ (x.arcs.getD i.toNat default).src.toNat = j)
  | 0, _ => by
    constructor
    · intro h
      exfalso
      unfold nxTo at h
      by_cases hj : j < x.codes.length
      · simp [hj] at h
      · simp [hj] at h
        cases h
    · rintro ⟨⟨_, h⟩, _⟩
      omega
  | k + 1, hk => by
    have he := hen _ (getD_mem (l := x.arcs) (j := k) (d := default) (by omega))
    rw [nxTo, getD_set, nxTo_len]
    split
    · rename_i h
      rw [List.mem_append, List.mem_singleton, h.1, nx_mem hen k (by omega)]
      constructor
      · rintro (⟨⟨h1, h2⟩, h3⟩ | h1)
        · exact ⟨⟨h1, by omega⟩, h3⟩
        · subst h1
          exact ⟨⟨by omega, by omega⟩, h.1⟩
      · rintro ⟨⟨h1, h2⟩, h3⟩
        by_cases e : i = (k : Int)
        · exact .inr e
        · exact .inl ⟨⟨h1, by omega⟩, h3⟩
    · rename_i h
      rw [nx_mem hen k (by omega)]
      constructor
      · rintro ⟨⟨h1, h2⟩, h3⟩
        exact ⟨⟨h1, by omega⟩, h3⟩
      · rintro ⟨⟨h1, h2⟩, h3⟩
        refine ⟨⟨h1, ?_⟩, h3⟩
        apply Classical.byContradiction
        intro hc
        have e : i.toNat = k := by omega
        rw [e] at h3
        exact h ⟨h3, he.1.2⟩

theorem nx_le (x : Sgr) : ∀ k, k ≤ x.arcs.length → ∀ j, ((nxTo x k).getD j default).length ≤ k
  | 0, _, j => by
    unfold nxTo
    by_cases hj : j < x.codes.length
    · simp [hj]
    · simp [hj]; rfl
  | k + 1, hk, j => by
    have h1 := nx_le x k (by omega)
    rw [nxTo, getD_set]
    split
    · rename_i h
      have := h1 (x.arcs.getD k default).src.toNat
      rw [List.length_append, List.length_singleton]; omega
    · have := h1 j; omega

theorem sp_impl_nextArcs (x : Sgr) (hb : x.bulk ≤ 1048576) (hx : SgOk x) : Sp Tryz.prog 297 [(.agg [(.slice false 2 (x.sigs.map Sgn.d)), (.slice false 1 (x.codes.map D.str)), (.slice false 4 (x.arcs.map Arc.d))])] [.any] (.slice true 1 ((nxTo x x.arcs.length).map intsU)) := by
 refine Sp_intro (lend := true) Tryz.func297 rfl rfl rfl (fun _ => rfl) (fun c hc hX => ?_)
 obtain ⟨hp0, hp1, hp2⟩ := Sgr.parts hb
 have hn0 := bulkF_len hp0
 have hn1 := bulk_len hp1
 have hx1 := bulk_mem hp1
 have hn2 := bulkF_len hp2; have hxl := hx.len; have hxf := hx.few; have hen := hx.ends
 refine Ts hc (Ch.s (.ptr 1000 0) (.box 1000 _ _ rfl (.aggD _)) (Ch.s (.c (.slice none 0 0)) pa (Ch.nil (Ts hc (Ch.s (.ptr 1000 1) (fP fld35_1 rfl) ?_)))))
 refine Ch.s (.d (.slice false 1 (x.codes.map D.str))) (lP ag23 rfl rfl rfl) (Ch.s (dI (x.codes.length : Int)) (.pure (.len _ _ 9 rfl Tryz.underlying23 (.sh _ _) (by simp))) (Ch.s (.row 9000) (.make 9000 _ 55 _ _ (x.codes.length) (x.codes.length) rfl sty49 rfl rfl rfl rfl a52 a52 a52 (zeroD_mk (zd := (.slice true 1 [])) zr55 a135 rfl)) (Ch.s (.row 9000) pa (Ch.nil (Tq (Tq (Tz hc ?_)))))))
 refine Ch.s (.ptr 1000 2) (fP fld35_2 rfl) (Ch.s (.d (.slice false 4 (x.arcs.map Arc.d))) (lP ag33 rfl rfl rfl) (Ch.s (dI (x.arcs.length : Int)) (.pure (.len _ _ 125 rfl Tryz.underlying33 (.sh _ _) (by simp))) (Ch.s (dI 0) pm (Ch.nil (Tb ?_)))))
 refine T_loop (ι := Nat) (fun k => { n := 32, sl := [(3, (.row 3)), (11, (.d (.slice false 4 (x.arcs.map Arc.d)))), (12, (dI (x.arcs.length : Int))), (13, (dI (k : Int)))], hp := [(3, (some (.row 1 ((nxTo x k).map intsU))))], pin := [] }) (fun k => k ≤ x.arcs.length) (fun k => x.arcs.length - k) ⟨0, (by omega), (Wk.ren [(3, 9000)] rfl rfl rfl rfl (ar (ar (ar (ai (vI a126) trivial)))) (ai (oR a102) trivial))⟩ (fun k hp0 => ?_)
 have hnl := nxTo_len x k; have hnx := nx_le x k hp0 (x.arcs.getD k default).src.toNat
 refine Ts hc (Ch.s (dB (decide ((k : Int) < (x.arcs.length : Int)))) (iX rfl rfl rfl) (Ch.nil (Tq ?_)))
 refine T_condD (p := ((k : Int) < (x.arcs.length : Int))) rfl (fun h1 => ?_) (fun h1 => ?_)
 ·
  try have hek := hen _ (getD_mem (l := x.arcs) (j := k) (d := default) (by omega))
  refine Tk (Tq (Tb (Ts hc (Ch.s (dI (k : Int)) pm (Ch.s (.d (.ref (.agg [(.int .i64 ((x.arcs.getD k default).src)), (.int .i64 ((x.arcs.getD k default).sig)), (.bool ((x.arcs.getD k default).up)), (.int .i64 ((x.arcs.getD k default).dst))]))) (.pure (.idx _ _ _ 125 (k) rfl Tryz.underlying33 sz125 rfl rfl rfl get_mapA)) (Ch.s (.d (.agg [(.int .i64 ((x.arcs.getD k default).src)), (.int .i64 ((x.arcs.getD k default).sig)), (.bool ((x.arcs.getD k default).up)), (.int .i64 ((x.arcs.getD k default).dst))])) (.pure (.loadRefA _ _ rfl ag125 sz125 rfl)) ?_))))))
  refine Ch.s (.ptr 5000 0) (.alloc 5000 _ rfl zer125) (Ch.s (dI (k : Int)) pa (Ch.s .junk (.storePtr _ _ _ rfl rfl rfl (.aggD _) sz125 (lb rfl)) (Ch.nil ?_)))
  refine T_take 3 ((((x.arcs.getD k default).src)).toNat) 7000002 7000003 rfl get_mapA rfl rfl (fun u1 => ?_)
  refine T_regionD hc (by kernel_rfl) ?_
  refine ChD.s (.row 3) [] pm (ChD.s (.ptr 5000 0) [] (fP fld125_0 rfl) (ChD.s (dI ((x.arcs.getD k default).src)) [5000] (lP ag3 rfl rfl rfl) (ChD.s (.row 3) [] pm (ChD.s (.ptr 5000 0) [] (fP fld125_0 rfl) (ChD.s (dI ((x.arcs.getD k default).src)) [5000] (lP ag3 rfl rfl rfl) (ChD.s (.el 3 1 ((((x.arcs.getD k default).src)).toNat) 0) [3, 7000002, 7000003] (.pure (.idxRow _ _ _ 55 ((((x.arcs.getD k default).src)).toNat) rfl Tryz.underlying49 sz55 rfl rfl rfl (by omega) a96)) (ChD.s (.row 7000002) [3, 7000002, 7000003] (.pure (.loadHole (n := 7000002) (m := 7000003) (u := u1) _ _ rfl ag55 rfl rfl (get_set a96) rfl rfl)) ?_)))))))
  refine ChD.s (dI (k : Int)) [] pm (ChD.s (.row 27000) [] (.slice 27000 _ 3 _ rfl sty55 (xs := [.tmp 26]) rfl rfl (.cons (.d _) .nil) rfl rfl (by decide)) (ChD.s (.row 28000) [27000, 7000002] (.append 28000 _ _ _ 3 rfl sty55 (by decide) (.rowK rfl) (.inr ⟨_, rfl, rfl⟩) (.row rfl rfl) rfl a69) (ChD.s (.el 3 1 ((((x.arcs.getD k default).src)).toNat) 0) [3, 7000002, 7000003] (.pure (.idxRow _ _ _ 55 ((((x.arcs.getD k default).src)).toNat) rfl Tryz.underlying49 sz55 rfl rfl rfl (by omega) a96)) (ChD.s .junk [3, 28000, 7000002, 7000003] (.storeElK (y' := (.slice true 1 ((((nxTo x k).getD ((((x.arcs.getD k default).src)).toNat) default).map (fun n : Int => D.int .i64 n)) ++ [(.int .i64 (k : Int))]))) _ _ _ rfl rfl rfl (.row rfl) rfl rfl rfl sz55 rfl (get_set a96) rfl rfl) ?_))))
  refine ChD.nil (And.intro ?_ (by kernel_rfl))
  refine Tz hc (Ch.s (dI ((k : Int) + 1)) (iX rfl rfl intV_addA) (Ch.s (dI ((k : Int) + 1)) pm (Ch.nil ?_)))
  exact nx (k + 1) (by omega) (Wk.of rfl rfl (ar (ar (ar (ai (vI a126) trivial)))) (ai (oR a102) trivial))
 ·
  try have hek := hen _ (getD_mem (l := x.arcs) (j := k) (d := default) (by omega))
  refine T_exit (Ts hc (Ch.s (.row 3) pm (Ch.s (.row 3) pa (Ch.nil (T_ret ?_)))))
  exact eR [(.row 3)] [] [3] (.cons (.tmp 2 rfl) .nil) eA (Exp.of (congrArg (D.slice true 1) (by rw [show x.arcs.length = k by omega])) (.row rfl))

theorem en206 : Enters Tryz.prog 206 := ⟨_, Tryz.func206, by kernel_rfl, rfl⟩

theorem en93 : Enters Tryz.prog 93 := ⟨_, Tryz.func93, by kernel_rfl, rfl⟩

theorem en141 : Enters Tryz.prog 141 := ⟨_, Tryz.func141, by kernel_rfl, rfl⟩

theorem zr29 : (Tryz.prog.info? 29).bind (·.zero) = some (.agg #[.slice none 0 0, .slice none 0 0]) := by kernel_rfl

theorem zer29 : ∃ i z, Tryz.prog.info? 29 = some i ∧ i.zero = some z ∧ z.cells = List.toArray [.slice none 0 0, .slice none 0 0] := zero_mk zr29 rfl

theorem stru29 : StructIs Tryz.prog 29 [.slice none 0 0, .slice none 0 0] [(0, 1), (1, 1)] := structIs_mk (by kernel_rfl) Tryz.underlying29 (by kernel_rfl)

theorem sz29 : SizeIs Tryz.prog 29 2 := by unfold SizeIs; kernel_rfl

theorem en152 : Enters Tryz.prog 152 := ⟨_, Tryz.func152, by kernel_rfl, rfl⟩

theorem ag29 : AggIs Tryz.prog 29 true := by unfold AggIs; kernel_rfl

theorem en139 : Enters Tryz.prog 139 := ⟨_, Tryz.func139, by kernel_rfl, rfl⟩

theorem en143 : Enters Tryz.prog 143 := ⟨_, Tryz.func143, by kernel_rfl, rfl⟩

theorem ag5 : AggIs Tryz.prog 5 false := by unfold AggIs; kernel_rfl

theorem en140 : Enters Tryz.prog 140 := ⟨_, Tryz.func140, by kernel_rfl, rfl⟩

theorem en142 : Enters Tryz.prog 142 := ⟨_, Tryz.func142, by kernel_rfl, rfl⟩

theorem en73 : Enters Tryz.prog 73 := ⟨_, Tryz.func73, by kernel_rfl, rfl⟩

theorem en183 : Enters Tryz.prog 183 := ⟨_, Tryz.func183, by kernel_rfl, rfl⟩

theorem en250 : Enters Tryz.prog 250 := ⟨_, Tryz.func250, by kernel_rfl, rfl⟩

theorem en158 : Enters Tryz.prog 158 := ⟨_, Tryz.func158, by kernel_rfl, rfl⟩

theorem en204 : Enters Tryz.prog 204 := ⟨_, Tryz.func204, by kernel_rfl, rfl⟩

theorem en134 : Enters Tryz.prog 134 := ⟨_, Tryz.func134, by kernel_rfl, rfl⟩

theorem en135 : Enters Tryz.prog 135 := ⟨_, Tryz.func135, by kernel_rfl, rfl⟩

theorem en69 : Enters Tryz.prog 69 := ⟨_, Tryz.func69, by kernel_rfl, rfl⟩

theorem en31 : Enters Tryz.prog 31 := ⟨_, Tryz.func31, by kernel_rfl, rfl⟩

theorem ag26 : AggIs Tryz.prog 26 true := by unfold AggIs; kernel_rfl

theorem sz26 : SizeIs Tryz.prog 26 3 := by unfold SizeIs; kernel_rfl

theorem en16 : Enters Tryz.prog 16 := ⟨_, Tryz.func16, by kernel_rfl, rfl⟩

theorem en18 : Enters Tryz.prog 18 := ⟨_, Tryz.func18, by kernel_rfl, rfl⟩

theorem en17 : Enters Tryz.prog 17 := ⟨_, Tryz.func17, by kernel_rfl, rfl⟩

theorem en19 : Enters Tryz.prog 19 := ⟨_, Tryz.func19, by kernel_rfl, rfl⟩

theorem en21 : Enters Tryz.prog 21 := ⟨_, Tryz.func21, by kernel_rfl, rfl⟩

theorem en22 : Enters Tryz.prog 22 := ⟨_, Tryz.func22, by kernel_rfl, rfl⟩

def bitQ (x : Sgr) (sig : Int) (j : Nat) : Bool := decide ((x.codes.getD j default).getD sig.toNat 0 = 49)

def wayN (w : List UInt8) : Nat := if w = [117, 112] then 1 else if w = [100, 111, 119, 110] then 2 else 0

def wayOn (w : Nat) (b e : Bool) : Bool := if w = 1 then e && !b else if w = 2 then e && b else !decide (e = b)

def wayOff (w : Nat) (b e : Bool) : Bool := if w = 1 then decide (e = b) else if w = 2 then !decide (e = b) else decide (e = b)

def onQ (x : Sgr) (sig : Int) (w : Nat) (j : Nat) : Bool := wayOn w (bitQ x sig j) (excB x (j : Int) sig)

def offQ (x : Sgr) (sig : Int) (w : Nat) (j : Nat) : Bool := wayOff w (bitQ x sig j) (excB x (j : Int) sig)

def selC (x : Sgr) (Q : Nat → Bool) (k : Nat) : List (List UInt8) := selTo k Q fun j => x.codes.getD j default

def osTo (x : Sgr) (Q : Nat → Bool) (k : Nat) : List (List UInt8) := tidS (selC x Q k)

def osL (x : Sgr) (Q : Nat → Bool) : List (List UInt8) := osTo x Q x.codes.length

theorem selC_le (x : Sgr) (Q : Nat → Bool) (k : Nat) : (selC x Q k).length ≤ k := selTo_le _ _ _

theorem osTo_le (x : Sgr) (Q : Nat → Bool) (k : Nat) : (osTo x Q k).length ≤ k := Nat.le_trans (tid_len leS _) (selC_le x Q k)

theorem selC_in {x : Sgr} {Q : Nat → Bool} {k : Nat} (hk : k ≤ x.codes.length) : ∀ u ∈ selC x Q k, u ∈ x.codes := by
 intro u hu
 obtain ⟨j, hj, rfl⟩ := List.mem_map.1 hu
 have := List.mem_range.1 (List.mem_filter.1 hj).1
 exact getD_mem (by omega)

theorem osTo_in {x : Sgr} {Q : Nat → Bool} {k : Nat} (hk : k ≤ x.codes.length) : ∀ u ∈ osTo x Q k, u ∈ x.codes := fun u hu => selC_in hk u ((tid_mem linS).1 hu)

theorem osTo_zero (x : Sgr) (Q : Nat → Bool) : osTo x Q 0 = [] := tid_nil leS

theorem osTo_yes {x : Sgr} {Q : Nat → Bool} {k : Nat} (h : Q k = true) : put15 (osTo x Q k) (x.codes.getD k default) = osTo x Q (k + 1) := by
 unfold osTo selC
 rw [put15_tid, selTo_yes (f := fun j => x.codes.getD j default) h]

theorem osTo_no {x : Sgr} {Q : Nat → Bool} {k : Nat} (h : Q k = false) : osTo x Q k = osTo x Q (k + 1) := by
 unfold osTo selC
 rw [selTo_no (f := fun j => x.codes.getD j default) h]

theorem put14_new {l : List (List UInt8)} {u : List UInt8} {k : Nat} (hk : k ≤ l.length) (h1 : ∀ j, j < k → Op.bytesLess (l.getD j default) u = true) (h2 : k < l.length → Op.bytesLess (l.getD k default) u = false) : l.take k ++ [u] ++ l.drop k = put14 l u := by
 have key : ∀ (l : List (List UInt8)) (k : Nat), k ≤ l.length → (∀ j, j < k → Op.bytesLess (l.getD j default) u = true) → (k < l.length → Op.bytesLess (l.getD k default) u = false) → l.takeWhile (fun b => Op.bytesLess b u) = l.take k ∧ l.dropWhile (fun b => Op.bytesLess b u) = l.drop k := by
  intro l
  induction l with
  | nil => intro k _ _ _; simp
  | cons b l ih =>
   intro k hk h1 h2
   cases k with
   | zero =>
    have h3 := h2 (by simp)
    have h4 : Op.bytesLess b u = false := by simpa using h3
    rw [List.takeWhile_cons, List.dropWhile_cons]
    simp [h4]
   | succ k =>
    have h3 : Op.bytesLess b u = true := by simpa using h1 0 (by omega)
    obtain ⟨e1, e2⟩ := ih k (by simpa using hk) (fun j hj => by simpa using h1 (j + 1) (by omega)) (fun hl => by simpa using h2 (by simpa using hl))
    rw [List.takeWhile_cons, List.dropWhile_cons]
    simp [h3, e1, e2]
 obtain ⟨e1, e2⟩ := key l k hk h1 h2
 unfold put14
 rw [e1, e2]
 simp

def outSig (x : Sgr) (sig : Int) : Bool := hasSigB x sig && !decide ((x.sigs.getD sig.toNat default).kind = 1)

theorem outSig_has {x : Sgr} {sig : Int} (h : outSig x sig = true) : sgB x = true ∧ (0 ≤ sig ∧ sig.toNat < x.sigs.length) := by
 unfold outSig at h
 exact has_sig (Bool.and_eq_true_iff.1 h).1

theorem sig_both {x : Sgr} {sig : Int} (h : sgB x = true) (h2 : withinB sig 0 ((x.sigs.length : Int) - 1) = true) : hasSigB x sig = true := by rw [hasSigB, h, h2]; rfl

def setsOk (x : Sgr) (p q : Nat → Bool) : Bool := onoffB (x.sigs.length : Int) (osL x p) (osL x q)

def setsOn (x : Sgr) (p q : Nat → Bool) : List (List UInt8) := if setsOk x p q then osL x p else []

def setsOff (x : Sgr) (p q : Nat → Bool) : List (List UInt8) := if setsOk x p q then osL x q else []

def osOk (x : Sgr) (sig : Int) (w : Nat) : Bool := outSig x sig && setsOk x (onQ x sig w) (offQ x sig w)

def osOn (x : Sgr) (sig : Int) (w : Nat) : List (List UInt8) := if outSig x sig then setsOn x (onQ x sig w) (offQ x sig w) else []

def osOff (x : Sgr) (sig : Int) (w : Nat) : List (List UInt8) := if outSig x sig then setsOff x (onQ x sig w) (offQ x sig w) else []

theorem setsOn_le (x : Sgr) (p q : Nat → Bool) : (setsOn x p q).length ≤ x.codes.length := by
  unfold setsOn; split
  · exact osTo_le _ _ _
  · exact Nat.zero_le _

theorem setsOff_le (x : Sgr) (p q : Nat → Bool) : (setsOff x p q).length ≤ x.codes.length := by
  unfold setsOff; split
  · exact osTo_le _ _ _
  · exact Nat.zero_le _

theorem osOn_le (x : Sgr) (sig : Int) (w : Nat) : (osOn x sig w).length ≤ x.codes.length := by
  unfold osOn; split
  · exact setsOn_le _ _ _
  · exact Nat.zero_le _

theorem osOff_le (x : Sgr) (sig : Int) (w : Nat) : (osOff x sig w).length ≤ x.codes.length := by
  unfold osOff; split
  · exact setsOff_le _ _ _
  · exact Nat.zero_le _

theorem selC_zero (x : Sgr) (Q : Nat → Bool) : selC x Q 0 = [] := by simp [selC, selTo]

theorem selC_yes {x : Sgr} {Q : Nat → Bool} {k : Nat} (h : Q k = true) : selC x Q k ++ [x.codes.getD k default] = selC x Q (k + 1) := selTo_yes (f := fun j => x.codes.getD j default) h

theorem selC_no {x : Sgr} {Q : Nat → Bool} {k : Nat} (h : Q k = false) : selC x Q k = selC x Q (k + 1) := selTo_no (f := fun j => x.codes.getD j default) h

theorem sets_is {x : Sgr} {p q : Nat → Bool} {k : Nat} {b : Bool} (hk : x.codes.length = k) (h : onoffB (x.sigs.length : Int) (Lib.compact ((selC x p k).mergeSort leS)) (Lib.compact ((selC x q k).mergeSort leS)) = b) : setsOk x p q = b := by subst hk; exact h

theorem setsOn_yes {x : Sgr} {p q : Nat → Bool} {k : Nat} (hk : x.codes.length = k) (h : onoffB (x.sigs.length : Int) (Lib.compact ((selC x p k).mergeSort leS)) (Lib.compact ((selC x q k).mergeSort leS)) = true) : setsOn x p q = Lib.compact ((selC x p k).mergeSort leS) := by
 rw [setsOn, sets_is hk h, if_pos rfl]; subst hk; rfl

theorem setsOff_yes {x : Sgr} {p q : Nat → Bool} {k : Nat} (hk : x.codes.length = k) (h : onoffB (x.sigs.length : Int) (Lib.compact ((selC x p k).mergeSort leS)) (Lib.compact ((selC x q k).mergeSort leS)) = true) : setsOff x p q = Lib.compact ((selC x q k).mergeSort leS) := by
 rw [setsOff, sets_is hk h, if_pos rfl]; subst hk; rfl

theorem setsOn_no {x : Sgr} {p q : Nat → Bool} (h : setsOk x p q = false) : setsOn x p q = [] := by rw [setsOn, h]; rfl

theorem setsOff_no {x : Sgr} {p q : Nat → Bool} (h : setsOk x p q = false) : setsOff x p q = [] := by rw [setsOff, h]; rfl

def wOf (f : UInt8) : Nat := if f = 48 then 1 else 2

theorem code_bit {x : Sgr} {m : Nat} {sig : Int} (hx : SgOk x) (hm : m < x.codes.length) (hs : 0 ≤ sig ∧ sig.toNat < x.sigs.length) : (x.codes.getD m default).getD sig.toNat 0 = 48 ∨ (x.codes.getD m default).getD sig.toNat 0 = 49 := by
 obtain ⟨h1, h2⟩ := codes_at hx.codes (m : Int) (by omega) (by omega)
 unfold codeN at h1
 have h3 := allB_true.1 (Bool.and_eq_true_iff.1 h1).1 sig.toNat (by omega)
 unfold codeCh at h3
 have h4 : codeAt x (m : Int) = x.codes.getD m default := rfl
 rw [h4] at h3
 simpa using h3

theorem mem_yes {x : Sgr} {m : Nat} {sig : Int} {f : UInt8} (hf : f = 48 ∨ f = 49) (hc : (x.codes.getD m default).getD sig.toNat 0 = 48 ∨ (x.codes.getD m default).getD sig.toNat 0 = 49) (h : (x.codes.getD m default).getD sig.toNat 0 = f) : onQ x sig (wOf f) m = excB x (m : Int) sig := by
  unfold onQ bitQ
  rw [h]
  rcases hf with rfl | rfl
  · show (excB x (m : Int) sig && !decide ((48 : UInt8) = 49)) = _
    rw [show decide ((48 : UInt8) = 49) = false from by decide, Bool.not_false, Bool.and_true]
  · show (excB x (m : Int) sig && decide ((49 : UInt8) = 49)) = _
    rw [show decide ((49 : UInt8) = 49) = true from by decide, Bool.and_true]

theorem mem_no {x : Sgr} {m : Nat} {sig : Int} {f : UInt8} (hf : f = 48 ∨ f = 49) (hc : (x.codes.getD m default).getD sig.toNat 0 = 48 ∨ (x.codes.getD m default).getD sig.toNat 0 = 49) (h : ¬ (x.codes.getD m default).getD sig.toNat 0 = f) : onQ x sig (wOf f) m = false := by
  unfold onQ bitQ
  rcases hf with rfl | rfl
  · rcases hc with e | e
    · exact absurd e h
    · rw [e]; show (excB x (m : Int) sig && !decide ((49 : UInt8) = 49)) = _
      rw [show decide ((49 : UInt8) = 49) = true from by decide, Bool.not_true, Bool.and_false]
  · rcases hc with e | e
    · rw [e]; show (excB x (m : Int) sig && decide ((48 : UInt8) = 49)) = _
      rw [show decide ((48 : UInt8) = 49) = false from by decide, Bool.and_false]
    · exact absurd e h

theorem mem_off {x : Sgr} {m : Nat} {sig : Int} {f : UInt8} (hf : f = 48 ∨ f = 49) (hc : (x.codes.getD m default).getD sig.toNat 0 = 48 ∨ (x.codes.getD m default).getD sig.toNat 0 = 49) : (!decide (decide ((x.codes.getD m default).getD sig.toNat 0 = f) = excB x (m : Int) sig)) = offQ x sig (wOf f) m := by
  unfold offQ bitQ
  rcases hf with rfl | rfl <;> rcases hc with e | e <;> rw [e] <;> cases excB x (m : Int) sig <;> rfl

theorem sp_impl_isOutput (x : Sgr) (sig : Int) (hb : x.bulk ≤ 1048576) : Sp Tryz.prog 139 [(.agg [(.slice false 2 (x.sigs.map Sgn.d)), (.slice false 1 (x.codes.map D.str)), (.slice false 4 (x.arcs.map Arc.d))]), (.int .i64 sig)] [.any, .any] (.bool (outSig x sig)) := by
 refine Sp_intro (lend := true) Tryz.func139 rfl rfl rfl (fun _ => rfl) (fun c hc hX => ?_)
 obtain ⟨hp0, hp1, hp2⟩ := Sgr.parts hb
 have hn0 := bulkF_len hp0
 have hn1 := bulk_len hp1
 have hx1 := bulk_mem hp1
 have hn2 := bulkF_len hp2
 refine Ts hc (Ch.s (.ptr 2000 0) (.box 2000 _ _ rfl (.aggD _)) (Ch.s (dB false) pa (Ch.nil (Ts hc (Ch.s (.agg (vX x)) (lA ag35 sz35 rfl rfl (lb rfl) rfl) ?_)))))
 refine Ch.s (dI sig) pm (Ch.s (dB (hasSigB x sig)) (.call 7000 206 _ _ _ en206 rfl (.inl rfl) (.cons lX (.cons (.d _) .nil)) rfl rfl (sp_impl_hasSignal x sig a46) (.skip _ _ (.skip _ _ .nil)) rfl) (Ch.s (dB (hasSigB x sig)) pm ?_))
 cases h1 : (hasSigB x sig) with
 | true =>
  try have hsg := has_sig h1
  refine Ch.s (.ptr 2000 0) (fP fld35_0 rfl) (Ch.s (.d (.slice false 2 (x.sigs.map Sgn.d))) (lP ag32 rfl rfl rfl) (Ch.s (dI sig) pm (Ch.s (.d (.ref (.agg [(.str ((x.sigs.getD ((sig).toNat) default).name)), (.int .i64 ((x.sigs.getD ((sig).toNat) default).kind))]))) (.pure (.idx _ _ _ 154 ((sig).toNat) rfl Tryz.underlying32 sz154 rfl rfl (by omega) get_mapA)) (Ch.s (.d (.ref (.int .i64 ((x.sigs.getD ((sig).toNat) default).kind)))) (.pure (.fldRef _ _ _ rfl fld154_1 rfl rfl rfl)) (Ch.s (dI ((x.sigs.getD ((sig).toNat) default).kind)) (rF ag3 rfl rfl) (Ch.s (dB (!(decide (((x.sigs.getD ((sig).toNat) default).kind) = 1)))) (iX rfl rfl rfl) (Ch.s (dB (!(decide (((x.sigs.getD ((sig).toNat) default).kind) = 1)))) (pT rfl) ?_)))))))
  refine Ch.s (dB (!(decide (((x.sigs.getD ((sig).toNat) default).kind) = 1)))) pa (Ch.nil (T_ret ?_))
  exact eR [(dB (!(decide (((x.sigs.getD ((sig).toNat) default).kind) = 1))))] [] [] (.cons (.tmp 4 rfl) .nil) eB (Exp.of (congrArg D.bool a53) (.d _))
 | false =>
  try have hsg := has_sig h1
  refine Ck (Ck (Ck (Ck (Ck (Ck (Ck (Ch.s (dB false) (pF rfl) ?_)))))))
  refine Ch.s (dB false) pa (Ch.nil (T_ret ?_))
  exact eR [(dB false)] [] [] (.cons (.tmp 4 rfl) .nil) eB (Exp.of (congrArg D.bool a53) (.d _))

theorem sp_spec_l15Asked (x : Sgr) (sig : Int) (hb : x.bulk ≤ 1048576) : Sp Tryz.prog 134 [(.agg [(.slice false 2 (x.sigs.map Sgn.d)), (.slice false 1 (x.codes.map D.str)), (.slice false 4 (x.arcs.map Arc.d))]), (.int .i64 sig)] [.any, .any] (.bool (outSig x sig)) := by
 refine Sp_intro (lend := true) Tryz.func134 rfl rfl rfl (fun _ => rfl) (fun c hc hX => ?_)
 obtain ⟨hp0, hp1, hp2⟩ := Sgr.parts hb
 have hn0 := bulkF_len hp0
 have hn1 := bulk_len hp1
 have hx1 := bulk_mem hp1
 have hn2 := bulkF_len hp2
 refine Ts hc (Ch.s (.ptr 2000 0) (.box 2000 _ _ rfl (.aggD _)) (Ch.s (dB false) pa (Ch.nil (Ts hc (Ch.s (.agg (vX x)) (lA ag35 sz35 rfl rfl (lb rfl) rfl) ?_)))))
 refine Ch.s (dB (sgB x)) (.call 6000 93 _ _ _ en93 rfl (.inl rfl) (.cons lX .nil) rfl rfl (sp_spec_l5Good x a46) (.skip _ _ .nil) rfl) (Ch.s (dB (sgB x)) pm ?_)
 cases h1 : (sgB x) with
 | true =>
  refine Ch.s (dI sig) pm (Ch.s (.ptr 2000 0) (fP fld35_0 rfl) (Ch.s (.d (.slice false 2 (x.sigs.map Sgn.d))) (lP ag32 rfl rfl rfl) (Ch.s (dI (x.sigs.length : Int)) (.pure (.len _ _ 154 rfl Tryz.underlying32 (.sh _ _) (by simp))) (Ch.s (dI ((x.sigs.length : Int) - 1)) (iX rfl rfl intV_subA) (Ch.s (dB (withinB sig 0 ((x.sigs.length : Int) - 1))) (.call 13000 89 _ _ _ en89 rfl (.inl rfl) (.cons (.d _) (.cons (.d _) (.cons (.d _) .nil))) rfl rfl (sp_spec_l1In sig 0 ((x.sigs.length : Int) - 1)) (.skip _ _ (.skip _ _ (.skip _ _ .nil))) rfl) (Ch.s (dB (withinB sig 0 ((x.sigs.length : Int) - 1))) (pT rfl) (Ch.s (dB (withinB sig 0 ((x.sigs.length : Int) - 1))) pm ?_)))))))
  cases h2 : (withinB sig 0 ((x.sigs.length : Int) - 1)) with
  | true =>
   try have hsg := has_sig (sig_both h1 h2)
   refine Ch.s (.ptr 2000 0) (fP fld35_0 rfl) (Ch.s (.d (.slice false 2 (x.sigs.map Sgn.d))) (lP ag32 rfl rfl rfl) (Ch.s (dI sig) pm (Ch.s (.d (.ref (.agg [(.str ((x.sigs.getD ((sig).toNat) default).name)), (.int .i64 ((x.sigs.getD ((sig).toNat) default).kind))]))) (.pure (.idx _ _ _ 154 ((sig).toNat) rfl Tryz.underlying32 sz154 rfl rfl (by omega) get_mapA)) (Ch.s (.d (.ref (.int .i64 ((x.sigs.getD ((sig).toNat) default).kind)))) (.pure (.fldRef _ _ _ rfl fld154_1 rfl rfl rfl)) (Ch.s (dI ((x.sigs.getD ((sig).toNat) default).kind)) (rF ag3 rfl rfl) (Ch.s (dB (!(decide (((x.sigs.getD ((sig).toNat) default).kind) = 1)))) (iX rfl rfl rfl) (Ch.s (dB (!(decide (((x.sigs.getD ((sig).toNat) default).kind) = 1)))) (pT rfl) ?_)))))))
   refine Ch.s (dB (!(decide (((x.sigs.getD ((sig).toNat) default).kind) = 1)))) pa (Ch.nil (T_ret ?_))
   exact eR [(dB (!(decide (((x.sigs.getD ((sig).toNat) default).kind) = 1))))] [] [] (.cons (.tmp 4 rfl) .nil) eB (Exp.of (congrArg D.bool a53) (.d _))
  | false =>
   try have hsg := has_sig (sig_both h1 h2)
   refine Ck (Ck (Ck (Ck (Ck (Ck (Ck (Ch.s (dB false) (pF rfl) ?_)))))))
   refine Ch.s (dB false) pa (Ch.nil (T_ret ?_))
   exact eR [(dB false)] [] [] (.cons (.tmp 4 rfl) .nil) eB (Exp.of (congrArg D.bool a53) (.d _))
 | false =>
  refine Ck (Ck (Ck (Ck (Ck (Ck (Ch.s (dB false) (pF rfl) (Ch.s (dB false) pm ?_)))))))
  refine Ck (Ck (Ck (Ck (Ck (Ck (Ck (Ch.s (dB false) (pF rfl) ?_)))))))
  refine Ch.s (dB false) pa (Ch.nil (T_ret ?_))
  exact eR [(dB false)] [] [] (.cons (.tmp 4 rfl) .nil) eB (Exp.of (congrArg D.bool a53) (.d _))

theorem sp_impl_setsOf (x : Sgr) (f1 f2 : FuncId) (caps1 caps2 : List D) (p q : Nat → Bool) (hf1 : Enters Tryz.prog f1) (hf2 : Enters Tryz.prog f2) (hp : ∀ k : Nat, k < x.codes.length → Sp Tryz.prog f1 (.int .i64 (k : Int) :: caps1) (.any :: anys caps1) (.bool (p k))) (hq : ∀ k : Nat, k < x.codes.length → Sp Tryz.prog f2 (.int .i64 (k : Int) :: caps2) (.any :: anys caps2) (.bool (q k))) (hb : x.bulk ≤ 1048576) (hx : SgOk x) : Sp Tryz.prog 143 [(.agg [(.slice false 2 (x.sigs.map Sgn.d)), (.slice false 1 (x.codes.map D.str)), (.slice false 4 (x.arcs.map Arc.d))]), (.fn f1 caps1), (.fn f2 caps2)] [.any, .any, .any] (.tup [(.agg [(.slice true 1 ((setsOn x p q).map D.str)), (.slice true 1 ((setsOff x p q).map D.str))]), (.bool (setsOk x p q))]) := by
 refine Sp_intro (lend := true) Tryz.func143 rfl rfl rfl (fun _ => rfl) (fun c hc hX => ?_)
 obtain ⟨hp0, hp1, hp2⟩ := Sgr.parts hb
 have hn0 := bulkF_len hp0
 have hn1 := bulk_len hp1
 have hx1 := bulk_mem hp1
 have hn2 := bulkF_len hp2; have hxl := hx.len; have hxf := hx.few; have hop := osTo_le x p x.codes.length; have hoq := osTo_le x q x.codes.length; have hsp := selC_le x p x.codes.length; have hsq := selC_le x q x.codes.length
 refine Ts hc (Ch.s (.ptr 3000 0) (.box 3000 _ _ rfl (.aggD _)) (Ch.s (.ptr 6000 0) (.alloc 6000 _ rfl zer29) (Ch.s (dB false) pa (Ch.nil (Tq (Tz hc ?_))))))
 refine Ch.s (.agg [(.c (.slice none 0 0)), (.c (.slice none 0 0))]) (.build _ _ rfl stru29 .nil rfl) (Ch.s (.ptr 8000 0) (.alloc 8000 _ rfl zer29) (Ch.s .junk (.storePtr _ _ _ rfl rfl rfl (.agg _ rfl) sz29 (lb rfl)) (Ch.nil (Tq (Ts hc (Ch.s (.ptr 3000 1) (fP fld35_1 rfl) ?_))))))
 refine Ch.s (.d (.slice false 1 (x.codes.map D.str))) (lP ag23 rfl rfl rfl) (Ch.s (dI (x.codes.length : Int)) (.pure (.len _ _ 9 rfl Tryz.underlying23 (.sh _ _) (by simp))) (Ch.s (dI 0) pm (Ch.nil (Tb ?_))))
 refine T_loop (ι := Nat) (fun k => { n := 64, sl := [(1, (.d (.fn f1 caps1))), (2, (.d (.fn f2 caps2))), (3, (.ptr 3000 0)), (6, (.ptr 6000 0)), (8, (.ptr 8000 0)), (13, (.d (.slice false 1 (x.codes.map D.str)))), (14, (dI (x.codes.length : Int))), (15, (dI (k : Int)))], hp := [(3000, (some (.box (vX x)))), (6000, (some (.box [(.c (.slice none 0 0)), (.c (.slice none 0 0))]))), (7700, (some (.row 1 ((selC x p k).map D.str)))), (7701, (some (.row 1 ((selC x q k).map D.str)))), (8000, (some (.box [(.row 7700), (.row 7701)])))], pin := [] }) (fun k => k ≤ x.codes.length) (fun k => x.codes.length - k) ⟨0, (by omega), (Wk.trans (Wk.nilcell 8000 0 990000 1 rfl rfl rfl) (Wk.trans (Wk.nilcell 8000 1 990001 1 rfl rfl rfl) (Wk.ren [(7700, 990000), (7701, 990001)] rfl rfl rfl rfl (ar (ar (ar (ar (ar (ar (ar (ai (vI a126) trivial)))))))) (ar (ar (ai (oR a70) (ai (oR a70) (ai (oB (Eq.trans (b := [(.row 990000), (.row 990001)]) rfl (by rfl))) trivial))))))))⟩ (fun k hp0 => ?_)
 have hpk := selC_le x p k; have hqk := selC_le x q k; have hpo : (Lib.compact ((selC x p k).mergeSort leS)).length ≤ k := osTo_le x p k; have hqo : (Lib.compact ((selC x q k).mergeSort leS)).length ≤ k := osTo_le x q k; have hpx : ∀ u ∈ Lib.compact ((selC x p k).mergeSort leS), u.length ≤ 1048576 := fun u hu => hx1 u (osTo_in (Q := p) hp0 u hu); have hqx : ∀ u ∈ Lib.compact ((selC x q k).mergeSort leS), u.length ≤ 1048576 := fun u hu => hx1 u (osTo_in (Q := q) hp0 u hu)
 refine Ts hc (Ch.s (dB (decide ((k : Int) < (x.codes.length : Int)))) (iX rfl rfl rfl) (Ch.nil (Tq ?_)))
 refine T_condD (p := ((k : Int) < (x.codes.length : Int))) rfl (fun h1 => ?_) (fun h1 => ?_)
 ·
  refine Tk (Tq (Tb (Ts hc (Ch.s (dI (k : Int)) pm (Ch.s (.d (.ref (.str (x.codes.getD k default)))) (.pure (.idx _ _ _ 9 (k) rfl Tryz.underlying23 sz9 rfl rfl rfl get_mapA)) (Ch.s (dS (x.codes.getD k default)) (rF ag9 rfl rfl) ?_))))))
  refine Ch.s (dI (k : Int)) pa (Ch.s (dS (x.codes.getD k default)) pa (Ch.nil (Tq (Ts hc (Ch.s (.d (.fn f1 caps1)) pm (Ch.s (dI (k : Int)) pm ?_))))))
  refine Ch.step (v := (dB (p k))) rfl (.callS 22000 f1 _ #[.tmp 21] _ hf1 rfl (.inr ⟨caps1, rfl, rfl⟩) (.cons (.d _) (exps_ds caps1)) rfl (hp _ (by omega)) (.skip _ _ (back_anys caps1)) rfl) rfl rfl ?_
  refine Ch.nil ?_
  refine T_cond (b := (p k)) rfl (fun h2 => ?_) (fun h2 => ?_)
  ·
   refine Tz hc (Ch.s (.ptr 8000 0) (fP fld29_0 rfl) (Ch.s (.row 7700) (lP ag23 rfl rfl rfl) (Ch.s (dS (x.codes.getD k default)) pm (Ch.s (.row 26000) (.slice 26000 _ 9 _ rfl sty23 (xs := [.tmp 25]) rfl rfl (.cons (.d _) .nil) rfl rfl (by decide)) ?_))))
   refine Ch.step (v := (.row 27000)) rfl (.append 27000 _ _ _ 9 rfl sty23 (by decide) (.rowK rfl) (.inr ⟨_, rfl, rfl⟩) (.row rfl rfl) rfl a69) rfl rfl ?_
   refine Ch.s (.ptr 8000 0) (fP fld29_0 rfl) (Ch.s .junk (.storePtr _ _ _ rfl rfl rfl (.one _ rfl) sz23 (lb rfl)) (Ch.nil (Ts hc (Ch.s (.d (.fn f2 caps2)) pm (Ch.s (dI (k : Int)) pm ?_)))))
   refine Ch.step (v := (dB (q k))) rfl (.callS 31000 f2 _ #[.tmp 30] _ hf2 rfl (.inr ⟨caps2, rfl, rfl⟩) (.cons (.d _) (exps_ds caps2)) rfl (hq _ (by omega)) (.skip _ _ (back_anys caps2)) rfl) rfl rfl ?_
   refine Ch.nil ?_
   refine T_cond (b := (q k)) rfl (fun h3 => ?_) (fun h3 => ?_)
   ·
    refine Tz hc (Ch.s (.ptr 8000 1) (fP fld29_1 rfl) (Ch.s (.row 7701) (lP ag23 rfl rfl rfl) (Ch.s (dS (x.codes.getD k default)) pm (Ch.s (.row 35000) (.slice 35000 _ 9 _ rfl sty23 (xs := [.tmp 34]) rfl rfl (.cons (.d _) .nil) rfl rfl (by decide)) ?_))))
    refine Ch.step (v := (.row 36000)) rfl (.append 36000 _ _ _ 9 rfl sty23 (by decide) (.rowK rfl) (.inr ⟨_, rfl, rfl⟩) (.row rfl rfl) rfl a69) rfl rfl ?_
    refine Ch.s (.ptr 8000 1) (fP fld29_1 rfl) (Ch.s .junk (.storePtr _ _ _ rfl rfl rfl (.one _ rfl) sz23 (lb rfl)) (Ch.nil (Tz hc (Ch.s (dI ((k : Int) + 1)) (iX rfl rfl intV_addA) (Ch.s (dI ((k : Int) + 1)) pm (Ch.nil ?_))))))
    exact nx (k + 1) (by omega) (Wk.ren [(7700, 27000), (7701, 36000)] rfl rfl rfl rfl (ar (ar (ar (ar (ar (ar (ar (ai (vI a126) trivial)))))))) (ar (ar (ai (oR a70) (ai (oR a70) (ai (oB (Eq.trans (b := [(.row 27000), (.row 36000)]) rfl (by rfl))) trivial))))))
   ·
    refine Tk (Tz hc (Ch.s (dI ((k : Int) + 1)) (iX rfl rfl intV_addA) (Ch.s (dI ((k : Int) + 1)) pm (Ch.nil ?_))))
    exact nx (k + 1) (by omega) (Wk.ren [(7700, 27000)] rfl rfl rfl rfl (ar (ar (ar (ar (ar (ar (ar (ai (vI a126) trivial)))))))) (ar (ar (ai (oR a70) (ai (oR a70) (ai (oB (Eq.trans (b := [(.row 27000), (.row 7701)]) rfl (by rfl))) trivial))))))
  ·
   refine Tk (Ts hc (Ch.s (.d (.fn f2 caps2)) pm (Ch.s (dI (k : Int)) pm ?_)))
   refine Ch.step (v := (dB (q k))) rfl (.callS 31000 f2 _ #[.tmp 30] _ hf2 rfl (.inr ⟨caps2, rfl, rfl⟩) (.cons (.d _) (exps_ds caps2)) rfl (hq _ (by omega)) (.skip _ _ (back_anys caps2)) rfl) rfl rfl ?_
   refine Ch.nil ?_
   refine T_cond (b := (q k)) rfl (fun h4 => ?_) (fun h4 => ?_)
   ·
    refine Tz hc (Ch.s (.ptr 8000 1) (fP fld29_1 rfl) (Ch.s (.row 7701) (lP ag23 rfl rfl rfl) (Ch.s (dS (x.codes.getD k default)) pm (Ch.s (.row 35000) (.slice 35000 _ 9 _ rfl sty23 (xs := [.tmp 34]) rfl rfl (.cons (.d _) .nil) rfl rfl (by decide)) ?_))))
    refine Ch.step (v := (.row 36000)) rfl (.append 36000 _ _ _ 9 rfl sty23 (by decide) (.rowK rfl) (.inr ⟨_, rfl, rfl⟩) (.row rfl rfl) rfl a69) rfl rfl ?_
    refine Ch.s (.ptr 8000 1) (fP fld29_1 rfl) (Ch.s .junk (.storePtr _ _ _ rfl rfl rfl (.one _ rfl) sz23 (lb rfl)) (Ch.nil (Tz hc (Ch.s (dI ((k : Int) + 1)) (iX rfl rfl intV_addA) (Ch.s (dI ((k : Int) + 1)) pm (Ch.nil ?_))))))
    exact nx (k + 1) (by omega) (Wk.ren [(7701, 36000)] rfl rfl rfl rfl (ar (ar (ar (ar (ar (ar (ar (ai (vI a126) trivial)))))))) (ar (ar (ai (oR a70) (ai (oR a70) (ai (oB (Eq.trans (b := [(.row 7700), (.row 36000)]) rfl (by rfl))) trivial))))))
   ·
    refine Tk (Tz hc (Ch.s (dI ((k : Int) + 1)) (iX rfl rfl intV_addA) (Ch.s (dI ((k : Int) + 1)) pm (Ch.nil ?_))))
    exact nx (k + 1) (by omega) (Wk.of rfl rfl (ar (ar (ar (ar (ar (ar (ar (ai (vI a126) trivial)))))))) (ar (ar (ai (oR a70) (ai (oR a70) (ar trivial))))))
 ·
  refine T_exit (Ts hc (Ch.s (.ptr 8000 0) (fP fld29_0 rfl) (Ch.s (.row 7700) (lP ag23 rfl rfl rfl) ?_)))
  refine Ch.step (v := (.tup [])) rfl (.call 41000 124 _ _ _ en124 rfl (.inl rfl) (.cons (.row rfl) .nil) rfl (sol rfl (solids_c (solid_row (fun _ => rfl) _) rfl)) (sp_Sort_str (selC x p k) a46) (.row _ _ _ .nil) rfl) rfl rfl ?_
  refine Ch.nil (Ts hc (Ch.s (.ptr 8000 1) (fP fld29_1 rfl) (Ch.s (.row 7701) (lP ag23 rfl rfl rfl) ?_)))
  refine Ch.step (v := (.tup [])) rfl (.call 44000 124 _ _ _ en124 rfl (.inl rfl) (.cons (.row rfl) .nil) rfl (sol rfl (solids_c (solid_row (fun _ => rfl) _) rfl)) (sp_Sort_str (selC x q k) a46) (.row _ _ _ .nil) rfl) rfl rfl ?_
  refine Ch.nil (Tq ?_)
  refine T_regionD hc (by kernel_rfl) ?_
  refine ChD.s (.ptr 8000 0) [] (fP fld29_0 rfl) (ChD.s (.row 7700) [8000] (lP ag23 rfl rfl rfl) (ChD.s (.row 47000) [7700] (.call 47000 209 _ _ _ en209 rfl (.inl rfl) (.cons (.row rfl) .nil) rfl (sol (solid_row (fun _ => rfl) _) rfl) (sp_Compact_str ((selC x p k).mergeSort leS) a83) (.skip _ _ .nil) rfl) (ChD.s (.ptr 8000 1) [] (fP fld29_1 rfl) (ChD.s (.row 7701) [8000] (lP ag23 rfl rfl rfl) (ChD.s (.row 50000) [7701] (.call 50000 209 _ _ _ en209 rfl (.inl rfl) (.cons (.row rfl) .nil) rfl (sol (solid_row (fun _ => rfl) _) rfl) (sp_Compact_str ((selC x q k).mergeSort leS) a83) (.skip _ _ .nil) rfl) (ChD.s (.ptr 8000 0) [] (fP fld29_0 rfl) (ChD.s .junk [7700, 7701, 8000, 47000] (.storePtr _ _ _ rfl rfl rfl (.one _ rfl) sz23 (lb rfl)) ?_)))))))
  refine ChD.s (.ptr 8000 1) [] (fP fld29_1 rfl) (ChD.s .junk [7701, 8000, 47000, 50000] (.storePtr _ _ _ rfl rfl rfl (.one _ rfl) sz23 (lb rfl)) ?_)
  refine ChD.nil (And.intro ?_ (by kernel_rfl))
  refine Tq (Ts hc (Ch.s (.ptr 3000 0) (fP fld35_0 rfl) (Ch.s (.d (.slice false 2 (x.sigs.map Sgn.d))) (lP ag32 rfl rfl rfl) (Ch.s (dI (x.sigs.length : Int)) (.pure (.len _ _ 154 rfl Tryz.underlying32 (.sh _ _) (by simp))) (Ch.s (.ptr 8000 0) (fP fld29_0 rfl) (Ch.s (.row 47000) (lP ag23 rfl rfl rfl) ?_))))))
  refine Ch.s (.ptr 8000 1) (fP fld29_1 rfl) (Ch.s (.row 50000) (lP ag23 rfl rfl rfl) (Ch.s (dB (onoffB (x.sigs.length : Int) (Lib.compact ((selC x p k).mergeSort leS)) (Lib.compact ((selC x q k).mergeSort leS)))) (.call 60000 152 _ _ _ en152 rfl (.inl rfl) (.cons (.d _) (.cons (.lend (.row rfl (frozs_map (fun _ => rfl) _))) (.cons (.lend (.row rfl (frozs_map (fun _ => rfl) _))) .nil))) rfl rfl (sp_impl_IsValidOnOff (x.sigs.length : Int) (Lib.compact ((selC x p k).mergeSort leS)) (Lib.compact ((selC x q k).mergeSort leS)) a26 a26 a26 a26) (.skip _ _ (.skip _ _ (.skip _ _ .nil))) rfl) (Ch.s (dB (!(onoffB (x.sigs.length : Int) (Lib.compact ((selC x p k).mergeSort leS)) (Lib.compact ((selC x q k).mergeSort leS))))) (nT rfl) (Ch.nil ?_))))
  refine T_condN (b := (onoffB (x.sigs.length : Int) (Lib.compact ((selC x p k).mergeSort leS)) (Lib.compact ((selC x q k).mergeSort leS)))) rfl (fun h5 => ?_) (fun h5 => ?_)
  ·
   refine Ts hc (Ch.s (.agg [(.c (.slice none 0 0)), (.c (.slice none 0 0))]) (.build _ _ rfl stru29 .nil rfl) (Ch.s .junk (.storePtr _ _ _ rfl rfl rfl (.agg _ rfl) sz29 (lb rfl)) (Ch.s (dB false) pa (Ch.nil (T_ret ?_)))))
   exact eR [(.agg [(.c (.slice none 0 0)), (.c (.slice none 0 0))]), (dB false)] [] [] (.cons (.cellA _ _ rfl rfl ag29 sz29) (.cons (.tmp 7 rfl) .nil)) eC (.tup (.cons (.agg (.cons (Exp.of (congrArg (D.slice true 1) (by have hke : x.codes.length = k := (by omega); first | (rw [setsOn_yes hke (by assumption)]; done) | (rw [setsOff_yes hke (by assumption)]; done) | (rw [setsOn_no (sets_is hke (by assumption))]; rfl) | (rw [setsOff_no (sets_is hke (by assumption))]; rfl) | (rw [sets_is hke (by assumption)]; done) | (exact (sets_is hke (by assumption)).symm))) (.nil true 1)) (.cons (Exp.of (congrArg (D.slice true 1) (by have hke : x.codes.length = k := (by omega); first | (rw [setsOn_yes hke (by assumption)]; done) | (rw [setsOff_yes hke (by assumption)]; done) | (rw [setsOn_no (sets_is hke (by assumption))]; rfl) | (rw [setsOff_no (sets_is hke (by assumption))]; rfl) | (rw [sets_is hke (by assumption)]; done) | (exact (sets_is hke (by assumption)).symm))) (.nil true 1)) .nil)) rfl) (.cons (Exp.of (congrArg D.bool (by have hke : x.codes.length = k := (by omega); first | (rw [setsOn_yes hke (by assumption)]; done) | (rw [setsOff_yes hke (by assumption)]; done) | (rw [setsOn_no (sets_is hke (by assumption))]; rfl) | (rw [setsOff_no (sets_is hke (by assumption))]; rfl) | (rw [sets_is hke (by assumption)]; done) | (exact (sets_is hke (by assumption)).symm))) (.d _)) .nil)))
  ·
   refine Tk (Ts hc (Ch.s (.agg [(.row 47000), (.row 50000)]) (lA ag29 sz29 rfl rfl (lb rfl) rfl) (Ch.s .junk (.storePtr _ _ _ rfl rfl rfl (.agg _ rfl) sz29 (lb rfl)) (Ch.s (dB true) pa (Ch.nil (T_ret ?_))))))
   exact eR [(.agg [(.row 47000), (.row 50000)]), (dB true)] [] [47000, 50000] (.cons (.cellA _ _ rfl rfl ag29 sz29) (.cons (.tmp 7 rfl) .nil)) eC (.tup (.cons (.agg (.cons (Exp.of (congrArg (D.slice true 1) (by have hke : x.codes.length = k := (by omega); first | (rw [setsOn_yes hke (by assumption)]; done) | (rw [setsOff_yes hke (by assumption)]; done) | (rw [setsOn_no (sets_is hke (by assumption))]; rfl) | (rw [setsOff_no (sets_is hke (by assumption))]; rfl) | (rw [sets_is hke (by assumption)]; done) | (exact (sets_is hke (by assumption)).symm))) (.row rfl)) (.cons (Exp.of (congrArg (D.slice true 1) (by have hke : x.codes.length = k := (by omega); first | (rw [setsOn_yes hke (by assumption)]; done) | (rw [setsOff_yes hke (by assumption)]; done) | (rw [setsOn_no (sets_is hke (by assumption))]; rfl) | (rw [setsOff_no (sets_is hke (by assumption))]; rfl) | (rw [sets_is hke (by assumption)]; done) | (exact (sets_is hke (by assumption)).symm))) (.row rfl)) .nil)) rfl) (.cons (Exp.of (congrArg D.bool (by have hke : x.codes.length = k := (by omega); first | (rw [setsOn_yes hke (by assumption)]; done) | (rw [setsOff_yes hke (by assumption)]; done) | (rw [setsOn_no (sets_is hke (by assumption))]; rfl) | (rw [setsOff_no (sets_is hke (by assumption))]; rfl) | (rw [sets_is hke (by assumption)]; done) | (exact (sets_is hke (by assumption)).symm))) (.d _)) .nil)))

theorem sp_impl_memorySets_1 (m : Nat) (f : UInt8) (x : Sgr) (sig : Int) (hb : x.bulk ≤ 1048576) (hx : SgOk x) (hs : 0 ≤ sig ∧ sig.toNat < x.sigs.length) (hm : m < x.codes.length) (hf : f = 48 ∨ f = 49) : Sp Tryz.prog 140 [(.int .i64 (m : Int)), (.ref (.agg [(.slice false 2 (x.sigs.map Sgn.d)), (.slice false 1 (x.codes.map D.str)), (.slice false 4 (x.arcs.map Arc.d))])), (.ref (.int .i64 sig)), (.ref (.int .u8 (f.toNat : Int)))] [.any, .any, .any, .any] (.bool (onQ x sig (wOf f) m)) := by
 refine Sp_intro (lend := true) Tryz.func140 rfl rfl rfl (fun _ => rfl) (fun c hc hX => ?_)
 obtain ⟨hp0, hp1, hp2⟩ := Sgr.parts hb
 have hn0 := bulkF_len hp0
 have hn1 := bulk_len hp1
 have hx1 := bulk_mem hp1
 have hn2 := bulkF_len hp2; have hxl := hx.len; have hlk : (x.codes.getD m default).length = x.sigs.length := (codes_at hx.codes (m : Int) (by omega) (by omega)).2; have hcb := code_bit hx hm hs
 refine Ts hc (Ch.s (dB false) pa (Ch.nil (Tq ?_)))
 refine T_regionD hc (by kernel_rfl) ?_
 refine ChD.s (.d (.ref (.slice false 1 (x.codes.map D.str)))) [] (.pure (.fldRef _ _ _ rfl fld35_1 rfl rfl rfl)) (ChD.s (.d (.slice false 1 (x.codes.map D.str))) [] (rF ag23 rfl rfl) (ChD.s (dI (m : Int)) [] pm (ChD.s (.d (.ref (.str (x.codes.getD m default)))) [] (.pure (.idx _ _ _ 9 (m) rfl Tryz.underlying23 sz9 rfl rfl rfl get_mapA)) (ChD.s (dS (x.codes.getD m default)) [] (rF ag9 rfl rfl) (ChD.s (dI sig) [] (rF ag3 rfl rfl) (ChD.s (.d (.int .u8 (((x.codes.getD m default).getD ((sig).toNat) 0).toNat : Int))) [] (.pure (.idxStr _ _ _ ((sig).toNat) rfl Tryz.underlying9 rfl rfl (by omega) get_strA)) (ChD.s (.d (.int .u8 (f.toNat : Int))) [] (rF ag5 rfl rfl) ?_)))))))
 refine ChD.s (dB (decide ((((x.codes.getD m default).getD ((sig).toNat) 0) : UInt8) = f))) [] (iX rfl rfl (u8_eql (((x.codes.getD m default).getD ((sig).toNat) 0) : UInt8) f rfl rfl)) (ChD.s (dB (decide ((((x.codes.getD m default).getD ((sig).toNat) 0) : UInt8) = f))) [] pm ?_)
 cases h1 : (decide ((((x.codes.getD m default).getD ((sig).toNat) 0) : UInt8) = f)) with
 | true =>
  replace h1 := odt h1
  refine ChD.s (.d (.agg [(.slice false 2 (x.sigs.map Sgn.d)), (.slice false 1 (x.codes.map D.str)), (.slice false 4 (x.arcs.map Arc.d))])) [] (.pure (.loadRefA _ _ rfl ag35 sz35 rfl)) (ChD.s (dI (m : Int)) [] pm (ChD.s (dI sig) [] (rF ag3 rfl rfl) (ChD.s (dB (excB x (m : Int) sig)) [] (.call 19000 141 _ _ _ en141 rfl (.inl rfl) (.cons (.d _) (.cons (.d _) (.cons (.d _) .nil))) rfl rfl (sp_impl_isExcited x (m : Int) sig a46) (.skip _ _ (.skip _ _ (.skip _ _ .nil))) rfl) (ChD.s (dB (excB x (m : Int) sig)) [] (pT rfl) (ChD.s (dB (excB x (m : Int) sig)) [] pa ?_)))))
  refine ChD.nil (And.intro ?_ (by kernel_rfl))
  refine T_ret ?_
  exact eR [(dB (excB x (m : Int) sig))] [] [] (.cons (.tmp 5 rfl) .nil) (.cons (.any _) eC) (Exp.of (congrArg D.bool a47) (.d _))
 | false =>
  replace h1 := odf h1
  refine ChD.skip rfl rfl (ChD.skip rfl rfl (ChD.skip rfl rfl (ChD.skip rfl rfl (ChD.s (dB false) [] (pF rfl) (ChD.s (dB false) [] pa ?_)))))
  refine ChD.nil (And.intro ?_ (by kernel_rfl))
  refine T_ret ?_
  exact eR [(dB false)] [] [] (.cons (.tmp 5 rfl) .nil) (.cons (.any _) eC) (Exp.of (congrArg D.bool a47) (.d _))

theorem sp_impl_memorySets_2 (m : Nat) (f : UInt8) (x : Sgr) (sig : Int) (hb : x.bulk ≤ 1048576) (hx : SgOk x) (hs : 0 ≤ sig ∧ sig.toNat < x.sigs.length) (hm : m < x.codes.length) (hf : f = 48 ∨ f = 49) : Sp Tryz.prog 142 [(.int .i64 (m : Int)), (.ref (.agg [(.slice false 2 (x.sigs.map Sgn.d)), (.slice false 1 (x.codes.map D.str)), (.slice false 4 (x.arcs.map Arc.d))])), (.ref (.int .i64 sig)), (.ref (.int .u8 (f.toNat : Int)))] [.any, .any, .any, .any] (.bool (offQ x sig (wOf f) m)) := by
 refine Sp_intro (lend := true) Tryz.func142 rfl rfl rfl (fun _ => rfl) (fun c hc hX => ?_)
 obtain ⟨hp0, hp1, hp2⟩ := Sgr.parts hb
 have hn0 := bulkF_len hp0
 have hn1 := bulk_len hp1
 have hx1 := bulk_mem hp1
 have hn2 := bulkF_len hp2; have hxl := hx.len; have hlk : (x.codes.getD m default).length = x.sigs.length := (codes_at hx.codes (m : Int) (by omega) (by omega)).2; have hcb := code_bit hx hm hs
 refine Ts hc (Ch.s (dB false) pa (Ch.nil (Tq ?_)))
 refine T_regionD hc (by kernel_rfl) ?_
 refine ChD.s (.d (.ref (.slice false 1 (x.codes.map D.str)))) [] (.pure (.fldRef _ _ _ rfl fld35_1 rfl rfl rfl)) (ChD.s (.d (.slice false 1 (x.codes.map D.str))) [] (rF ag23 rfl rfl) (ChD.s (dI (m : Int)) [] pm (ChD.s (.d (.ref (.str (x.codes.getD m default)))) [] (.pure (.idx _ _ _ 9 (m) rfl Tryz.underlying23 sz9 rfl rfl rfl get_mapA)) (ChD.s (dS (x.codes.getD m default)) [] (rF ag9 rfl rfl) (ChD.s (dI sig) [] (rF ag3 rfl rfl) (ChD.s (.d (.int .u8 (((x.codes.getD m default).getD ((sig).toNat) 0).toNat : Int))) [] (.pure (.idxStr _ _ _ ((sig).toNat) rfl Tryz.underlying9 rfl rfl (by omega) get_strA)) (ChD.s (.d (.int .u8 (f.toNat : Int))) [] (rF ag5 rfl rfl) ?_)))))))
 refine ChD.s (dB (decide ((((x.codes.getD m default).getD ((sig).toNat) 0) : UInt8) = f))) [] (iX rfl rfl (u8_eql (((x.codes.getD m default).getD ((sig).toNat) 0) : UInt8) f rfl rfl)) (ChD.s (.d (.agg [(.slice false 2 (x.sigs.map Sgn.d)), (.slice false 1 (x.codes.map D.str)), (.slice false 4 (x.arcs.map Arc.d))])) [] (.pure (.loadRefA _ _ rfl ag35 sz35 rfl)) (ChD.s (dI (m : Int)) [] pm (ChD.s (dI sig) [] (rF ag3 rfl rfl) (ChD.s (dB (excB x (m : Int) sig)) [] (.call 18000 141 _ _ _ en141 rfl (.inl rfl) (.cons (.d _) (.cons (.d _) (.cons (.d _) .nil))) rfl rfl (sp_impl_isExcited x (m : Int) sig a46) (.skip _ _ (.skip _ _ (.skip _ _ .nil))) rfl) (ChD.s (dB (!(decide ((decide ((((x.codes.getD m default).getD ((sig).toNat) 0) : UInt8) = f)) = (excB x (m : Int) sig))))) [] (.pure (.neB _ _ _ _ rfl Tryz.underlying4 rfl rfl)) (ChD.s (dB (!(decide ((decide ((((x.codes.getD m default).getD ((sig).toNat) 0) : UInt8) = f)) = (excB x (m : Int) sig))))) [] pa ?_))))))
 refine ChD.nil (And.intro ?_ (by kernel_rfl))
 refine T_ret ?_
 exact eR [(dB (!(decide ((decide ((((x.codes.getD m default).getD ((sig).toNat) 0) : UInt8) = f)) = (excB x (m : Int) sig)))))] [] [] (.cons (.tmp 5 rfl) .nil) (.cons (.any _) eC) (Exp.of (congrArg D.bool a47) (.d _))

theorem sp_impl_memorySets (x : Sgr) (sig : Int) (f : UInt8) (hb : x.bulk ≤ 1048576) (hf : f = 48 ∨ f = 49) : Sp Tryz.prog 73 [(.agg [(.slice false 2 (x.sigs.map Sgn.d)), (.slice false 1 (x.codes.map D.str)), (.slice false 4 (x.arcs.map Arc.d))]), (.int .i64 sig), (.int .u8 (f.toNat : Int))] [.any, .any, .any] (.tup [(.agg [(.slice true 1 ((osOn x sig (wOf f)).map D.str)), (.slice true 1 ((osOff x sig (wOf f)).map D.str))]), (.bool (osOk x sig (wOf f)))]) := by
 refine Sp_intro (lend := true) Tryz.func73 rfl rfl rfl (fun _ => rfl) (fun c hc hX => ?_)
 obtain ⟨hp0, hp1, hp2⟩ := Sgr.parts hb
 have hn0 := bulkF_len hp0
 have hn1 := bulk_len hp1
 have hx1 := bulk_mem hp1
 have hn2 := bulkF_len hp2
 refine Ts hc (Ch.s (.ptr 3000 0) (.box 3000 _ _ rfl (.aggD _)) (Ch.s (.ptr 4000 0) (.box 4000 _ _ rfl (.one _ rfl)) (Ch.s (.ptr 5000 0) (.box 5000 _ _ rfl (.one _ rfl)) (Ch.s (.ptr 6000 0) (.alloc 6000 _ rfl zer29) (Ch.s (dB false) pa (Ch.nil ?_))))))
 refine Tq (Ts hc (Ch.s (.agg (vX x)) (lA ag35 sz35 rfl rfl (lb rfl) rfl) (Ch.s (dI sig) (lP ag3 rfl rfl rfl) (Ch.s (dB (outSig x sig)) (.call 12000 139 _ _ _ en139 rfl (.inl rfl) (.cons lX (.cons (.d _) .nil)) rfl rfl (sp_impl_isOutput x sig a46) (.skip _ _ (.skip _ _ .nil)) rfl) (Ch.s (dB (!(outSig x sig))) (nT rfl) (Ch.nil ?_))))))
 refine T_condN (b := (outSig x sig)) rfl (fun h1 => ?_) (fun h1 => ?_)
 ·
  try have hsr := outSig_has h1
  try have hx := sg_has hsr.1
  try have hsx := hsr.2
  refine Ts hc (Ch.s (.agg [(.c (.slice none 0 0)), (.c (.slice none 0 0))]) (.build _ _ rfl stru29 .nil rfl) (Ch.s .junk (.storePtr _ _ _ rfl rfl rfl (.agg _ rfl) sz29 (lb rfl)) (Ch.s (dB false) pa (Ch.nil (T_ret ?_)))))
  exact eR [(.agg [(.c (.slice none 0 0)), (.c (.slice none 0 0))]), (dB false)] [] [] (.cons (.cellA _ _ rfl rfl ag29 sz29) (.cons (.tmp 7 rfl) .nil)) eC (.tup (.cons (.agg (.cons (Exp.of (congrArg (D.slice true 1) a45) (.nil true 1)) (.cons (Exp.of (congrArg (D.slice true 1) a45) (.nil true 1)) .nil)) rfl) (.cons (Exp.of (congrArg D.bool a45) (.d _)) .nil)))
 ·
  try have hsr := outSig_has h1
  try have hx := sg_has hsr.1
  try have hsx := hsr.2
  refine Tk (Ts hc (Ch.s (.fn 140 [(.ptr 3000 0), (.ptr 4000 0), (.ptr 5000 0)]) (.pure (.func _ _ rfl rfl)) (Ch.s (.fn 140 [(.ptr 3000 0), (.ptr 4000 0), (.ptr 5000 0)]) pa (Ch.nil (Tq (Tz hc ?_))))))
  refine Ch.s (.fn 142 [(.ptr 3000 0), (.ptr 4000 0), (.ptr 5000 0)]) (.pure (.func _ _ rfl rfl)) (Ch.s (.fn 142 [(.ptr 3000 0), (.ptr 4000 0), (.ptr 5000 0)]) pa (Ch.nil (Ts hc (Ch.s (.agg (vX x)) (lA ag35 sz35 rfl rfl (lb rfl) rfl) (Ch.s (.fn 140 [(.ptr 3000 0), (.ptr 4000 0), (.ptr 5000 0)]) pm (Ch.s (.fn 142 [(.ptr 3000 0), (.ptr 4000 0), (.ptr 5000 0)]) pm ?_))))))
  refine Ch.step (v := (.tup [(.agg [(.row 20000), (.row 20001)]), (dB (setsOk x (onQ x sig (wOf f)) (offQ x sig (wOf f))))])) rfl (.call 20000 143 _ _ _ en143 rfl (.inl rfl) (.cons lX (.cons (.lend (.fn (.cons (.ptr rfl (.agg (.cons (.d _) (.cons (.d _) (.cons (.d _) .nil))) rfl)) (.cons (.ptr rfl (.one (.d _) rfl)) (.cons (.ptr rfl (.one (.d _) rfl)) .nil))))) (.cons (.lend (.fn (.cons (.ptr rfl (.agg (.cons (.d _) (.cons (.d _) (.cons (.d _) .nil))) rfl)) (.cons (.ptr rfl (.one (.d _) rfl)) (.cons (.ptr rfl (.one (.d _) rfl)) .nil))))) .nil))) rfl (sol a68 rfl) (sp_impl_setsOf x 140 142 [(.ref (.agg [(.slice false 2 (x.sigs.map Sgn.d)), (.slice false 1 (x.codes.map D.str)), (.slice false 4 (x.arcs.map Arc.d))])), (.ref (.int .i64 sig)), (.ref (.int .u8 (f.toNat : Int)))] [(.ref (.agg [(.slice false 2 (x.sigs.map Sgn.d)), (.slice false 1 (x.codes.map D.str)), (.slice false 4 (x.arcs.map Arc.d))])), (.ref (.int .i64 sig)), (.ref (.int .u8 (f.toNat : Int)))] (onQ x sig (wOf f)) (offQ x sig (wOf f)) en140 en142 (fun m hm => sp_impl_memorySets_1 m f x sig a46 (by assumption) (by omega) hm (by assumption)) (fun m hm => sp_impl_memorySets_2 m f x sig a46 (by assumption) (by omega) hm (by assumption)) a46 (by assumption)) (.skip _ _ (.skip _ _ (.skip _ _ .nil))) rfl) rfl rfl ?_
  refine Ch.s (.agg [(.row 20000), (.row 20001)]) (xT rfl rfl) (Ch.s (dB (setsOk x (onQ x sig (wOf f)) (offQ x sig (wOf f)))) (xT rfl rfl) (Ch.s .junk (.storePtr _ _ _ rfl rfl rfl (.agg _ rfl) sz29 (lb rfl)) (Ch.s (dB (setsOk x (onQ x sig (wOf f)) (offQ x sig (wOf f)))) pa (Ch.nil (T_ret ?_)))))
  exact eR [(.agg [(.row 20000), (.row 20001)]), (dB (setsOk x (onQ x sig (wOf f)) (offQ x sig (wOf f))))] [] [20000, 20001] (.cons (.cellA _ _ rfl rfl ag29 sz29) (.cons (.tmp 7 rfl) .nil)) eC (.tup (.cons (.agg (.cons (Exp.of (congrArg (D.slice true 1) a45) (.row rfl)) (.cons (Exp.of (congrArg (D.slice true 1) a45) (.row rfl)) .nil)) rfl) (.cons (Exp.of (congrArg D.bool a45) (.d _)) .nil)))

theorem sp_impl_SetFunctionSets (x : Sgr) (sig : Int) (hb : x.bulk ≤ 1048576) : Sp Tryz.prog 103 [(.agg [(.slice false 2 (x.sigs.map Sgn.d)), (.slice false 1 (x.codes.map D.str)), (.slice false 4 (x.arcs.map Arc.d))]), (.int .i64 sig)] [.any, .any] (.tup [(.agg [(.slice true 1 ((osOn x sig 1).map D.str)), (.slice true 1 ((osOff x sig 1).map D.str))]), (.bool (osOk x sig 1))]) := by
 refine Sp_intro (lend := true) Tryz.func103 rfl rfl rfl (fun _ => rfl) (fun c hc hX => ?_)
 obtain ⟨hp0, hp1, hp2⟩ := Sgr.parts hb
 have hn0 := bulkF_len hp0
 have hn1 := bulk_len hp1
 have hx1 := bulk_mem hp1
 have hn2 := bulkF_len hp2
 refine Ts hc (Ch.s (.ptr 2000 0) (.box 2000 _ _ rfl (.aggD _)) (Ch.s (.ptr 4000 0) (.alloc 4000 _ rfl zer29) (Ch.s (dB false) pa (Ch.nil (Tq (Tz hc ?_))))))
 refine Ch.s (.agg (vX x)) (lA ag35 sz35 rfl rfl (lb rfl) rfl) (Ch.s (dI sig) pm ?_)
 refine Ch.step (v := (.tup [(.agg [(.row 8000), (.row 8001)]), (dB (osOk x sig 1))])) rfl (.call 8000 73 _ _ _ en73 rfl (.inl rfl) (.cons lX (.cons (.d _) (.cons (.d _) .nil))) rfl (sol a68 rfl) (sp_impl_memorySets x sig 48 a46 (by decide)) (.skip _ _ (.skip _ _ (.skip _ _ .nil))) rfl) rfl rfl ?_
 refine Ch.s (.agg [(.row 8000), (.row 8001)]) (xT rfl rfl) (Ch.s (dB (osOk x sig 1)) (xT rfl rfl) (Ch.s .junk (.storePtr _ _ _ rfl rfl rfl (.agg _ rfl) sz29 (lb rfl)) (Ch.s (dB (osOk x sig 1)) pa (Ch.nil (T_ret ?_)))))
 exact eR [(.agg [(.row 8000), (.row 8001)]), (dB (osOk x sig 1))] [] [8000, 8001] (.cons (.cellA _ _ rfl rfl ag29 sz29) (.cons (.tmp 5 rfl) .nil)) eB (.tup (.cons (.agg (.cons (.row rfl) (.cons (.row rfl) .nil)) rfl) (.cons (.d _) .nil)))

theorem sp_impl_ResetFunctionSets (x : Sgr) (sig : Int) (hb : x.bulk ≤ 1048576) : Sp Tryz.prog 19 [(.agg [(.slice false 2 (x.sigs.map Sgn.d)), (.slice false 1 (x.codes.map D.str)), (.slice false 4 (x.arcs.map Arc.d))]), (.int .i64 sig)] [.any, .any] (.tup [(.agg [(.slice true 1 ((osOn x sig 2).map D.str)), (.slice true 1 ((osOff x sig 2).map D.str))]), (.bool (osOk x sig 2))]) := by
 refine Sp_intro (lend := true) Tryz.func19 rfl rfl rfl (fun _ => rfl) (fun c hc hX => ?_)
 obtain ⟨hp0, hp1, hp2⟩ := Sgr.parts hb
 have hn0 := bulkF_len hp0
 have hn1 := bulk_len hp1
 have hx1 := bulk_mem hp1
 have hn2 := bulkF_len hp2
 refine Ts hc (Ch.s (.ptr 2000 0) (.box 2000 _ _ rfl (.aggD _)) (Ch.s (.ptr 4000 0) (.alloc 4000 _ rfl zer29) (Ch.s (dB false) pa (Ch.nil (Tq (Tz hc ?_))))))
 refine Ch.s (.agg (vX x)) (lA ag35 sz35 rfl rfl (lb rfl) rfl) (Ch.s (dI sig) pm ?_)
 refine Ch.step (v := (.tup [(.agg [(.row 8000), (.row 8001)]), (dB (osOk x sig 2))])) rfl (.call 8000 73 _ _ _ en73 rfl (.inl rfl) (.cons lX (.cons (.d _) (.cons (.d _) .nil))) rfl (sol a68 rfl) (sp_impl_memorySets x sig 49 a46 (by decide)) (.skip _ _ (.skip _ _ (.skip _ _ .nil))) rfl) rfl rfl ?_
 refine Ch.s (.agg [(.row 8000), (.row 8001)]) (xT rfl rfl) (Ch.s (dB (osOk x sig 2)) (xT rfl rfl) (Ch.s .junk (.storePtr _ _ _ rfl rfl rfl (.agg _ rfl) sz29 (lb rfl)) (Ch.s (dB (osOk x sig 2)) pa (Ch.nil (T_ret ?_)))))
 exact eR [(.agg [(.row 8000), (.row 8001)]), (dB (osOk x sig 2))] [] [8000, 8001] (.cons (.cellA _ _ rfl rfl ag29 sz29) (.cons (.tmp 5 rfl) .nil)) eB (.tup (.cons (.agg (.cons (.row rfl) (.cons (.row rfl) .nil)) rfl) (.cons (.d _) .nil)))

theorem sp_spec_l14Put (xs : List (List UInt8)) (u : List UInt8) (hn : xs.length ≤ 1000000) : Sp Tryz.prog 250 [(.slice false 1 (xs.map D.str)), (.str u)] [.any, .any] (.slice true 1 ((put14 xs u).map D.str)) := by
 refine Sp_intro (lend := true) Tryz.func250 rfl rfl rfl (fun _ => rfl) (fun c hc hX => ?_)
 refine Ts hc (Ch.s (.c (.slice none 0 0)) pa (Ch.nil (Ts hc (Ch.s (dI 0) pa (Ch.nil ?_)))))
 refine Tq (Tb ?_)
 refine T_loop (ι := Nat) (fun k => { n := 31, sl := [(0, (.d (.slice false 1 (xs.map D.str)))), (1, (dS u)), (5, (dI (k : Int)))], hp := [], pin := [] }) (fun k => k ≤ xs.length ∧ ∀ j, j < k → Op.bytesLess (xs.getD j default) u = true) (fun k => xs.length - k) ⟨0, ⟨by omega, fun j hj => by omega⟩, (Wk.of rfl rfl (ar (ar (ai (vI a126) trivial))) trivial)⟩ (fun k hp0 => ?_)
 refine Tq (Ts hc (Ch.s (dI (k : Int)) pm (Ch.s (.d (.slice false 1 (xs.map D.str))) pm (Ch.s (dI (xs.length : Int)) (.pure (.len _ _ 9 rfl Tryz.underlying23 (.sh _ _) (by simp))) (Ch.s (dB (decide ((k : Int) < (xs.length : Int)))) (iX rfl rfl rfl) (Ch.s (dB (decide ((k : Int) < (xs.length : Int)))) pm ?_))))))
 cases h1 : (decide ((k : Int) < (xs.length : Int))) with
 | true =>
  replace h1 := odt h1
  refine Ch.s (.d (.slice false 1 (xs.map D.str))) pm (Ch.s (dI (k : Int)) pm (Ch.s (.d (.ref (.str (xs.getD k default)))) (.pure (.idx _ _ _ 9 (k) rfl Tryz.underlying23 sz9 rfl rfl rfl get_mapA)) (Ch.s (dS (xs.getD k default)) (rF ag9 rfl rfl) (Ch.s (dS u) pm (Ch.s (dB (Op.bytesLess (xs.getD k default) u)) (.pure (.str _ _ _ _ _ rfl rfl rfl rfl)) (Ch.s (dB (Op.bytesLess (xs.getD k default) u)) (pT rfl) (Ch.nil ?_)))))))
  refine T_cond (b := (Op.bytesLess (xs.getD k default) u)) rfl (fun h2 => ?_) (fun h2 => ?_)
  ·
   refine Tk (Tb (Tz hc (Ch.s (dI (k : Int)) pm (Ch.s (dI ((k : Int) + 1)) (iX rfl rfl intV_addA) (Ch.s (dI ((k : Int) + 1)) pa (Ch.nil ?_))))))
   exact nx (k + 1) ⟨by omega, upto_succ hp0.2 (by assumption)⟩ (Wk.of rfl rfl (ar (ar (ai (vI a126) trivial))) trivial)
  ·
   refine T_exit (Tq ?_)
   refine T_regionD hc (by kernel_rfl) ?_
   refine ChD.s (.d (.slice false 1 (xs.map D.str))) [] pm (ChD.s (dI (k : Int)) [] pm (ChD.s (.d (.slice false 1 ((xs.take k).map D.str))) [] (.pure (.sliceSh _ _ _ _ 9 (0) (k) rfl Tryz.underlying23 sz9 rfl (bndN rfl) (bndS rfl rfl) (by simp <;> omega) (by simp <;> omega) a87)) (ChD.s (.row 23000) [] (.call 23000 183 _ _ _ en183 rfl (.inl rfl) (.cons (.d _) .nil) rfl (sol (solid_row (fun _ => rfl) _) rfl) (sp_spec_l1OwnS (xs.take k) a26) (.skip _ _ .nil) rfl) (ChD.s (dS u) [] pm (ChD.s (.row 25000) [] (.slice 25000 _ 9 _ rfl sty23 (xs := [.tmp 24]) rfl rfl (.cons (.d _) .nil) rfl rfl (by decide)) (ChD.s (.row 26000) [23000, 25000] (.append 26000 _ _ _ 9 rfl sty23 (by decide) (.rowK rfl) (.inr ⟨_, rfl, rfl⟩) (.row rfl rfl) rfl a69) (ChD.s (.d (.slice false 1 (xs.map D.str))) [] pm ?_)))))))
   refine ChD.s (dI (k : Int)) [] pm (ChD.s (.d (.slice false 1 ((xs.drop k).map D.str))) [] (.pure (.sliceSh _ _ _ _ 9 (k) ((xs.map D.str).length) rfl Tryz.underlying23 sz9 rfl (bndS rfl rfl) (bndN rfl) (by simp <;> omega) (by simp <;> omega) a87)) (ChD.s (.row 30000) [26000] (.append 30000 _ _ _ 9 rfl sty23 (by decide) (.rowK rfl) (.inr ⟨_, rfl, rfl⟩) (.sh _ _) rfl a69) (ChD.s (.row 30000) [] pa ?_)))
   refine ChD.nil (And.intro ?_ (by kernel_rfl))
   refine T_ret ?_
   exact eR [(.row 30000)] [] [30000] (.cons (.tmp 4 rfl) .nil) eB (Exp.of (congrArg (D.slice true 1) a59) (.row rfl))
 | false =>
  replace h1 := odf h1
  refine Ck (Ck (Ck (Ck (Ck (Ck (Ch.s (dB false) (pF rfl) (Ch.nil ?_)))))))
  refine T_cond (b := false) rfl (fun h => nomatch h) (fun _ => ?_)
  refine T_exit (Tq ?_)
  refine T_regionD hc (by kernel_rfl) ?_
  refine ChD.s (.d (.slice false 1 (xs.map D.str))) [] pm (ChD.s (dI (k : Int)) [] pm (ChD.s (.d (.slice false 1 ((xs.take k).map D.str))) [] (.pure (.sliceSh _ _ _ _ 9 (0) (k) rfl Tryz.underlying23 sz9 rfl (bndN rfl) (bndS rfl rfl) (by simp <;> omega) (by simp <;> omega) a87)) (ChD.s (.row 23000) [] (.call 23000 183 _ _ _ en183 rfl (.inl rfl) (.cons (.d _) .nil) rfl (sol (solid_row (fun _ => rfl) _) rfl) (sp_spec_l1OwnS (xs.take k) a26) (.skip _ _ .nil) rfl) (ChD.s (dS u) [] pm (ChD.s (.row 25000) [] (.slice 25000 _ 9 _ rfl sty23 (xs := [.tmp 24]) rfl rfl (.cons (.d _) .nil) rfl rfl (by decide)) (ChD.s (.row 26000) [23000, 25000] (.append 26000 _ _ _ 9 rfl sty23 (by decide) (.rowK rfl) (.inr ⟨_, rfl, rfl⟩) (.row rfl rfl) rfl a69) (ChD.s (.d (.slice false 1 (xs.map D.str))) [] pm ?_)))))))
  refine ChD.s (dI (k : Int)) [] pm (ChD.s (.d (.slice false 1 ((xs.drop k).map D.str))) [] (.pure (.sliceSh _ _ _ _ 9 (k) ((xs.map D.str).length) rfl Tryz.underlying23 sz9 rfl (bndS rfl rfl) (bndN rfl) (by simp <;> omega) (by simp <;> omega) a87)) (ChD.s (.row 30000) [26000] (.append 30000 _ _ _ 9 rfl sty23 (by decide) (.rowK rfl) (.inr ⟨_, rfl, rfl⟩) (.sh _ _) rfl a69) (ChD.s (.row 30000) [] pa ?_)))
  refine ChD.nil (And.intro ?_ (by kernel_rfl))
  refine T_ret ?_
  exact eR [(.row 30000)] [] [30000] (.cons (.tmp 4 rfl) .nil) eB (Exp.of (congrArg (D.slice true 1) a59) (.row rfl))

theorem sp_spec_l15Put (xs : List (List UInt8)) (u : List UInt8) (hn : xs.length ≤ 1000000) : Sp Tryz.prog 204 [(.slice true 1 (xs.map D.str)), (.str u)] [.any, .any] (.slice true 1 ((put15 xs u).map D.str)) := by
 refine Sp_intro (lend := false) Tryz.func204 rfl rfl rfl (fun h => nomatch h) (fun c hc hX => ?_)
 refine Ts hc (Ch.s (.c (.slice none 0 0)) pa (Ch.nil (Tq (Ts hc (Ch.s (.row 1) pm ?_)))))
 refine Ch.s (dS u) pm (Ch.s (dB (hasS xs u)) (.call 7000 79 _ _ _ en79 rfl (.inl rfl) (.cons (.lend (.row rfl (frozs_map (fun _ => rfl) _))) (.cons (.d _) .nil)) rfl rfl (sp_spec_l1HasS xs u a26) (.skip _ _ (.skip _ _ .nil)) rfl) (Ch.nil ?_))
 refine T_cond (b := (hasS xs u)) rfl (fun h1 => ?_) (fun h1 => ?_)
 ·
  refine Ts hc (Ch.s (.row 1) pm (Ch.s (.row 1) pa (Ch.nil (T_ret ?_))))
  exact eR [(.row 1)] [] [1] (.cons (.tmp 4 rfl) .nil) eB (Exp.of (congrArg (D.slice true 1) a123) (.row rfl))
 ·
  refine Tk (Ts hc (Ch.s (.row 1) pm (Ch.s (dS u) pm ?_)))
  refine Ch.step (v := (.row 11000)) rfl (.call 11000 250 _ _ _ en250 rfl (.inl rfl) (.cons (.lend (.row rfl (frozs_map (fun _ => rfl) _))) (.cons (.d _) .nil)) rfl (sol (solid_row (fun _ => rfl) _) rfl) (sp_spec_l14Put xs u a46) (.skip _ _ (.skip _ _ .nil)) rfl) rfl rfl ?_
  refine Ch.s (.row 11000) pa (Ch.nil (T_ret ?_))
  exact eR [(.row 11000)] [] [11000] (.cons (.tmp 4 rfl) .nil) eB (Exp.of (congrArg (D.slice true 1) a123) (.row rfl))

set_option maxHeartbeats 2000000 in
theorem sp_spec_l15Sets (x : Sgr) (sig : Int) (w : List UInt8) (hb : x.bulk ≤ 1048576) (hx : SgOk x) (hs : 0 ≤ sig ∧ sig.toNat < x.sigs.length) : Sp Tryz.prog 135 [(.agg [(.slice false 2 (x.sigs.map Sgn.d)), (.slice false 1 (x.codes.map D.str)), (.slice false 4 (x.arcs.map Arc.d))]), (.int .i64 sig), (.str w)] [.any, .any, .any] (.agg [(.slice true 1 ((osL x (onQ x sig (wayN w))).map D.str)), (.slice true 1 ((osL x (offQ x sig (wayN w))).map D.str))]) := by
 refine Sp_intro (lend := true) Tryz.func135 rfl rfl rfl (fun _ => rfl) (fun c hc hX => ?_)
 obtain ⟨hp0, hp1, hp2⟩ := Sgr.parts hb
 have hn0 := bulkF_len hp0
 have hn1 := bulk_len hp1
 have hx1 := bulk_mem hp1
 have hn2 := bulkF_len hp2; have hxl := hx.len; have hxf := hx.few; have hck := codes_at hx.codes
 refine Ts hc (Ch.s (.ptr 3000 0) (.box 3000 _ _ rfl (.aggD _)) (Ch.s (.ptr 6000 0) (.alloc 6000 _ rfl zer29) (Ch.nil (Ts hc (Ch.s (.ptr 7000 0) (.alloc 7000 _ rfl zer29) ?_)))))
 refine Ch.nil (Tq (Ts hc (Ch.s (.ptr 3000 1) (fP fld35_1 rfl) (Ch.s (.d (.slice false 1 (x.codes.map D.str))) (lP ag23 rfl rfl rfl) (Ch.s (dI (x.codes.length : Int)) (.pure (.len _ _ 9 rfl Tryz.underlying23 (.sh _ _) (by simp))) (Ch.s (dI 0) pm ?_))))))
 refine Ch.nil (Tb ?_)
 refine T_loop (ι := Nat) (fun k => { n := 69, sl := [(1, (dI sig)), (2, (dS w)), (3, (.ptr 3000 0)), (6, (.ptr 6000 0)), (7, (.ptr 7000 0)), (15, (.d (.slice false 1 (x.codes.map D.str)))), (16, (dI (x.codes.length : Int))), (17, (dI (k : Int)))], hp := [(3000, (some (.box (vX x)))), (6000, (some (.box [(.c (.slice none 0 0)), (.c (.slice none 0 0))]))), (7000, (some (.box [(.row 7700), (.row 7701)]))), (7700, (some (.row 1 ((osTo x (onQ x sig (wayN w)) k).map D.str)))), (7701, (some (.row 1 ((osTo x (offQ x sig (wayN w)) k).map D.str))))], pin := [] }) (fun k => k ≤ x.codes.length) (fun k => x.codes.length - k) ⟨0, (by omega), (Wk.trans (Wk.nilcell 7000 0 980000 1 rfl rfl rfl) (Wk.trans (Wk.nilcell 7000 1 980001 1 rfl rfl rfl) (Wk.ren [(7700, 980000), (7701, 980001)] rfl rfl rfl rfl (ar (ar (ar (ar (ar (ar (ar (ai (vI a126) trivial)))))))) (ar (ar (ai (oB (Eq.trans (b := [(.row 980000), (.row 980001)]) rfl (by rfl))) (ai (oR a33) (ai (oR a33) trivial))))))))⟩ (fun k hp0 => ?_)
 have hpk := osTo_le x (onQ x sig (wayN w)) k; have hqk := osTo_le x (offQ x sig (wayN w)) k
 refine Ts hc (Ch.s (dB (decide ((k : Int) < (x.codes.length : Int)))) (iX rfl rfl rfl) (Ch.nil (Tq ?_)))
 refine T_condD (p := ((k : Int) < (x.codes.length : Int))) rfl (fun h1 => ?_) (fun h1 => ?_)
 ·
  try have hlk : (x.codes.getD k default).length = x.sigs.length := (hck (k : Int) (by omega) (by omega)).2
  refine Tk (Tq (Tb (Ts hc (Ch.s (dI (k : Int)) pm (Ch.s (.d (.ref (.str (x.codes.getD k default)))) (.pure (.idx _ _ _ 9 (k) rfl Tryz.underlying23 sz9 rfl rfl rfl get_mapA)) (Ch.s (dS (x.codes.getD k default)) (rF ag9 rfl rfl) ?_))))))
  refine Ch.s (dI (k : Int)) pa (Ch.s (dS (x.codes.getD k default)) pa (Ch.nil (Tq ?_)))
  refine T_regionD hc (by kernel_rfl) ?_
  refine ChD.s (dS (x.codes.getD k default)) [] pm (ChD.s (dI sig) [] pm (ChD.s (.d (.int .u8 (((x.codes.getD k default).getD ((sig).toNat) 0).toNat : Int))) [] (.pure (.idxStr _ _ _ ((sig).toNat) rfl Tryz.underlying9 rfl rfl (by omega) get_strA)) (ChD.s (dB (decide ((((x.codes.getD k default).getD ((sig).toNat) 0) : UInt8) = 49))) [] (iX rfl rfl (u8_eql (((x.codes.getD k default).getD ((sig).toNat) 0) : UInt8) 49 rfl rfl)) (ChD.s (.agg (vX x)) [3000] (lA ag35 sz35 rfl rfl (lb rfl) rfl) (ChD.s (dI (k : Int)) [] pm (ChD.s (dI sig) [] pm (ChD.s (dB (excB x (k : Int) sig)) [] (.call 29000 158 _ _ _ en158 rfl (.inl rfl) (.cons lX (.cons (.d _) (.cons (.d _) .nil))) rfl rfl (sp_spec_l5Excited x (k : Int) sig a46) (.skip _ _ (.skip _ _ (.skip _ _ .nil))) rfl) ?_)))))))
  refine ChD.s (dB (decide ((((x.codes.getD k default).getD ((sig).toNat) 0) : UInt8) = 49))) [] pa (ChD.s (dB (excB x (k : Int) sig)) [] pa ?_)
  refine ChD.nil (And.intro ?_ (by kernel_rfl))
  refine Ts hc (Ch.s (dB (excB x (k : Int) sig)) pm (Ch.s (dB (decide ((((x.codes.getD k default).getD ((sig).toNat) 0) : UInt8) = 49))) pm (Ch.s (dB (!(decide ((excB x (k : Int) sig) = (decide ((((x.codes.getD k default).getD ((sig).toNat) 0) : UInt8) = 49)))))) (.pure (.neB _ _ _ _ rfl Tryz.underlying4 rfl rfl)) (Ch.s (dB (excB x (k : Int) sig)) pm (Ch.s (dB (decide ((((x.codes.getD k default).getD ((sig).toNat) 0) : UInt8) = 49))) pm (Ch.s (dB (decide ((excB x (k : Int) sig) = (decide ((((x.codes.getD k default).getD ((sig).toNat) 0) : UInt8) = 49))))) (.pure (.eqB _ _ _ _ rfl Tryz.underlying4 rfl rfl)) ?_))))))
  refine Ch.s (dB (!(decide ((excB x (k : Int) sig) = (decide ((((x.codes.getD k default).getD ((sig).toNat) 0) : UInt8) = 49)))))) pa (Ch.s (dB (decide ((excB x (k : Int) sig) = (decide ((((x.codes.getD k default).getD ((sig).toNat) 0) : UInt8) = 49))))) pa (Ch.nil (Tq (Ts hc (Ch.s (dS w) pm (Ch.s (dB (decide (w = [117, 112]))) (.pure (.str _ _ _ _ _ rfl rfl rfl rfl)) ?_))))))
  refine Ch.nil ?_
  refine T_condD (p := (w = [117, 112])) rfl (fun h2 => ?_) (fun h2 => ?_)
  ·
   refine Tz hc (Ch.s (dB (excB x (k : Int) sig)) pm (Ch.s (dB (excB x (k : Int) sig)) pm ?_))
   cases h3 : (excB x (k : Int) sig) with
   | true =>
    refine Ch.s (dB (decide ((((x.codes.getD k default).getD ((sig).toNat) 0) : UInt8) = 49))) pm (Ch.s (dB (!(decide ((((x.codes.getD k default).getD ((sig).toNat) 0) : UInt8) = 49)))) (nT rfl) (Ch.s (dB (!(decide ((((x.codes.getD k default).getD ((sig).toNat) 0) : UInt8) = 49)))) (pT rfl) (Ch.s (dB true) pm (Ch.s (dB (decide ((((x.codes.getD k default).getD ((sig).toNat) 0) : UInt8) = 49))) pm (Ch.s (dB (decide (true = (decide ((((x.codes.getD k default).getD ((sig).toNat) 0) : UInt8) = 49))))) (.pure (.eqB _ _ _ _ rfl Tryz.underlying4 rfl rfl)) (Ch.s (dB (!(decide ((((x.codes.getD k default).getD ((sig).toNat) 0) : UInt8) = 49)))) pa (Ch.s (dB (decide (true = (decide ((((x.codes.getD k default).getD ((sig).toNat) 0) : UInt8) = 49))))) pa ?_)))))))
    refine Ch.nil (Tq (Ts hc (Ch.s (dS w) pm (Ch.s (dB (decide (w = [100, 111, 119, 110]))) (.pure (.str _ _ _ _ _ rfl rfl rfl rfl)) (Ch.nil ?_)))))
    refine T_condD (p := (w = [100, 111, 119, 110])) rfl (fun h4 => ?_) (fun h4 => ?_)
    ·
     refine Tz hc (Ch.s (dB true) pm (Ch.s (dB true) pm (Ch.s (dB (decide ((((x.codes.getD k default).getD ((sig).toNat) 0) : UInt8) = 49))) pm (Ch.s (dB (decide ((((x.codes.getD k default).getD ((sig).toNat) 0) : UInt8) = 49))) (pT rfl) (Ch.s (dB true) pm (Ch.s (dB (decide ((((x.codes.getD k default).getD ((sig).toNat) 0) : UInt8) = 49))) pm (Ch.s (dB (!(decide (true = (decide ((((x.codes.getD k default).getD ((sig).toNat) 0) : UInt8) = 49)))))) (.pure (.neB _ _ _ _ rfl Tryz.underlying4 rfl rfl)) ?_)))))))
     refine Ch.s (dB (decide ((((x.codes.getD k default).getD ((sig).toNat) 0) : UInt8) = 49))) pa (Ch.s (dB (!(decide (true = (decide ((((x.codes.getD k default).getD ((sig).toNat) 0) : UInt8) = 49)))))) pa (Ch.nil (Tq (Ts hc (Ch.s (dB (decide ((((x.codes.getD k default).getD ((sig).toNat) 0) : UInt8) = 49))) pm (Ch.nil ?_))))))
     refine T_condD (p := ((((x.codes.getD k default).getD ((sig).toNat) 0) : UInt8) = 49)) rfl (fun h5 => ?_) (fun h5 => ?_)
     ·
      refine Tz hc (Ch.s (.ptr 7000 0) (fP fld29_0 rfl) (Ch.s (.row 7700) (lP ag23 rfl rfl rfl) (Ch.s (dS (x.codes.getD k default)) pm ?_)))
      refine Ch.step (v := (.row 59000)) rfl (.call 59000 204 _ _ _ en204 rfl (.inl rfl) (.cons (.row rfl) (.cons (.d _) .nil)) rfl (sol (solid_row (fun _ => rfl) _) rfl) (sp_spec_l15Put (osTo x (onQ x sig (wayN w)) k) (x.codes.getD k default) a46) (.skip _ _ (.skip _ _ .nil)) rfl) rfl rfl ?_
      refine Ch.s (.ptr 7000 0) (fP fld29_0 rfl) (Ch.s .junk (.storePtr _ _ _ rfl rfl rfl (.one _ rfl) sz23 (lb rfl)) (Ch.nil (Ts hc (Ch.s (dB (!(decide (true = (decide ((((x.codes.getD k default).getD ((sig).toNat) 0) : UInt8) = 49)))))) pm (Ch.nil ?_)))))
      refine T_condN (b := (decide (true = (decide ((((x.codes.getD k default).getD ((sig).toNat) 0) : UInt8) = 49))))) rfl (fun h6 => ?_) (fun h6 => ?_)
      ·
       replace h6 := odf h6
       refine Tz hc (Ch.s (.ptr 7000 1) (fP fld29_1 rfl) (Ch.s (.row 7701) (lP ag23 rfl rfl rfl) (Ch.s (dS (x.codes.getD k default)) pm ?_)))
       refine Ch.step (v := (.row 65000)) rfl (.call 65000 204 _ _ _ en204 rfl (.inl rfl) (.cons (.row rfl) (.cons (.d _) .nil)) rfl (sol (solid_row (fun _ => rfl) _) rfl) (sp_spec_l15Put (osTo x (offQ x sig (wayN w)) k) (x.codes.getD k default) a46) (.skip _ _ (.skip _ _ .nil)) rfl) rfl rfl ?_
       refine Ch.s (.ptr 7000 1) (fP fld29_1 rfl) (Ch.s .junk (.storePtr _ _ _ rfl rfl rfl (.one _ rfl) sz23 (lb rfl)) (Ch.nil (Tz hc (Ch.s (dI ((k : Int) + 1)) (iX rfl rfl intV_addA) (Ch.s (dI ((k : Int) + 1)) pm (Ch.nil ?_))))))
       exact nx (k + 1) (by omega) (Wk.ren [(7700, 59000), (7701, 65000)] rfl rfl rfl rfl (ar (ar (ar (ar (ar (ar (ar (ai (vI a126) trivial)))))))) (ar (ar (ai (oB (Eq.trans (b := [(.row 59000), (.row 65000)]) rfl (by rfl))) (ai (oR a33) (ai (oR a33) trivial))))))
      ·
       replace h6 := odt h6
       refine Tk (Tz hc (Ch.s (dI ((k : Int) + 1)) (iX rfl rfl intV_addA) (Ch.s (dI ((k : Int) + 1)) pm (Ch.nil ?_))))
       exact nx (k + 1) (by omega) (Wk.ren [(7700, 59000)] rfl rfl rfl rfl (ar (ar (ar (ar (ar (ar (ar (ai (vI a126) trivial)))))))) (ar (ar (ai (oB (Eq.trans (b := [(.row 59000), (.row 7701)]) rfl (by rfl))) (ai (oR a33) (ai (oR a33) trivial))))))
     ·
      refine Tk (Ts hc (Ch.s (dB (!(decide (true = (decide ((((x.codes.getD k default).getD ((sig).toNat) 0) : UInt8) = 49)))))) pm (Ch.nil ?_)))
      refine T_condN (b := (decide (true = (decide ((((x.codes.getD k default).getD ((sig).toNat) 0) : UInt8) = 49))))) rfl (fun h7 => ?_) (fun h7 => ?_)
      ·
       replace h7 := odf h7
       refine Tz hc (Ch.s (.ptr 7000 1) (fP fld29_1 rfl) (Ch.s (.row 7701) (lP ag23 rfl rfl rfl) (Ch.s (dS (x.codes.getD k default)) pm ?_)))
       refine Ch.step (v := (.row 65000)) rfl (.call 65000 204 _ _ _ en204 rfl (.inl rfl) (.cons (.row rfl) (.cons (.d _) .nil)) rfl (sol (solid_row (fun _ => rfl) _) rfl) (sp_spec_l15Put (osTo x (offQ x sig (wayN w)) k) (x.codes.getD k default) a46) (.skip _ _ (.skip _ _ .nil)) rfl) rfl rfl ?_
       refine Ch.s (.ptr 7000 1) (fP fld29_1 rfl) (Ch.s .junk (.storePtr _ _ _ rfl rfl rfl (.one _ rfl) sz23 (lb rfl)) (Ch.nil (Tz hc (Ch.s (dI ((k : Int) + 1)) (iX rfl rfl intV_addA) (Ch.s (dI ((k : Int) + 1)) pm (Ch.nil ?_))))))
       exact nx (k + 1) (by omega) (Wk.ren [(7701, 65000)] rfl rfl rfl rfl (ar (ar (ar (ar (ar (ar (ar (ai (vI a126) trivial)))))))) (ar (ar (ai (oB (Eq.trans (b := [(.row 7700), (.row 65000)]) rfl (by rfl))) (ai (oR a33) (ai (oR a33) trivial))))))
      ·
       replace h7 := odt h7
       refine Tk (Tz hc (Ch.s (dI ((k : Int) + 1)) (iX rfl rfl intV_addA) (Ch.s (dI ((k : Int) + 1)) pm (Ch.nil ?_))))
       exact nx (k + 1) (by omega) (Wk.of rfl rfl (ar (ar (ar (ar (ar (ar (ar (ai (vI a126) trivial)))))))) (ar (ar (ar (ai (oR a33) (ai (oR a33) trivial))))))
    ·
     refine Tk (Tq (Ts hc (Ch.s (dB (!(decide ((((x.codes.getD k default).getD ((sig).toNat) 0) : UInt8) = 49)))) pm (Ch.nil ?_))))
     refine T_condN (b := (decide ((((x.codes.getD k default).getD ((sig).toNat) 0) : UInt8) = 49))) rfl (fun h8 => ?_) (fun h8 => ?_)
     ·
      replace h8 := odf h8
      refine Tz hc (Ch.s (.ptr 7000 0) (fP fld29_0 rfl) (Ch.s (.row 7700) (lP ag23 rfl rfl rfl) (Ch.s (dS (x.codes.getD k default)) pm ?_)))
      refine Ch.step (v := (.row 59000)) rfl (.call 59000 204 _ _ _ en204 rfl (.inl rfl) (.cons (.row rfl) (.cons (.d _) .nil)) rfl (sol (solid_row (fun _ => rfl) _) rfl) (sp_spec_l15Put (osTo x (onQ x sig (wayN w)) k) (x.codes.getD k default) a46) (.skip _ _ (.skip _ _ .nil)) rfl) rfl rfl ?_
      refine Ch.s (.ptr 7000 0) (fP fld29_0 rfl) (Ch.s .junk (.storePtr _ _ _ rfl rfl rfl (.one _ rfl) sz23 (lb rfl)) (Ch.nil (Ts hc (Ch.s (dB (decide (true = (decide ((((x.codes.getD k default).getD ((sig).toNat) 0) : UInt8) = 49))))) pm (Ch.nil ?_)))))
      refine T_condD (p := (true = (decide ((((x.codes.getD k default).getD ((sig).toNat) 0) : UInt8) = 49)))) rfl (fun h9 => ?_) (fun h9 => ?_)
      ·
       refine Tz hc (Ch.s (.ptr 7000 1) (fP fld29_1 rfl) (Ch.s (.row 7701) (lP ag23 rfl rfl rfl) (Ch.s (dS (x.codes.getD k default)) pm ?_)))
       refine Ch.step (v := (.row 65000)) rfl (.call 65000 204 _ _ _ en204 rfl (.inl rfl) (.cons (.row rfl) (.cons (.d _) .nil)) rfl (sol (solid_row (fun _ => rfl) _) rfl) (sp_spec_l15Put (osTo x (offQ x sig (wayN w)) k) (x.codes.getD k default) a46) (.skip _ _ (.skip _ _ .nil)) rfl) rfl rfl ?_
       refine Ch.s (.ptr 7000 1) (fP fld29_1 rfl) (Ch.s .junk (.storePtr _ _ _ rfl rfl rfl (.one _ rfl) sz23 (lb rfl)) (Ch.nil (Tz hc (Ch.s (dI ((k : Int) + 1)) (iX rfl rfl intV_addA) (Ch.s (dI ((k : Int) + 1)) pm (Ch.nil ?_))))))
       exact nx (k + 1) (by omega) (Wk.ren [(7700, 59000), (7701, 65000)] rfl rfl rfl rfl (ar (ar (ar (ar (ar (ar (ar (ai (vI a126) trivial)))))))) (ar (ar (ai (oB (Eq.trans (b := [(.row 59000), (.row 65000)]) rfl (by rfl))) (ai (oR a33) (ai (oR a33) trivial))))))
      ·
       refine Tk (Tz hc (Ch.s (dI ((k : Int) + 1)) (iX rfl rfl intV_addA) (Ch.s (dI ((k : Int) + 1)) pm (Ch.nil ?_))))
       exact nx (k + 1) (by omega) (Wk.ren [(7700, 59000)] rfl rfl rfl rfl (ar (ar (ar (ar (ar (ar (ar (ai (vI a126) trivial)))))))) (ar (ar (ai (oB (Eq.trans (b := [(.row 59000), (.row 7701)]) rfl (by rfl))) (ai (oR a33) (ai (oR a33) trivial))))))
     ·
      replace h8 := odt h8
      refine Tk (Ts hc (Ch.s (dB (decide (true = (decide ((((x.codes.getD k default).getD ((sig).toNat) 0) : UInt8) = 49))))) pm (Ch.nil ?_)))
      refine T_condD (p := (true = (decide ((((x.codes.getD k default).getD ((sig).toNat) 0) : UInt8) = 49)))) rfl (fun h10 => ?_) (fun h10 => ?_)
      ·
       refine Tz hc (Ch.s (.ptr 7000 1) (fP fld29_1 rfl) (Ch.s (.row 7701) (lP ag23 rfl rfl rfl) (Ch.s (dS (x.codes.getD k default)) pm ?_)))
       refine Ch.step (v := (.row 65000)) rfl (.call 65000 204 _ _ _ en204 rfl (.inl rfl) (.cons (.row rfl) (.cons (.d _) .nil)) rfl (sol (solid_row (fun _ => rfl) _) rfl) (sp_spec_l15Put (osTo x (offQ x sig (wayN w)) k) (x.codes.getD k default) a46) (.skip _ _ (.skip _ _ .nil)) rfl) rfl rfl ?_
       refine Ch.s (.ptr 7000 1) (fP fld29_1 rfl) (Ch.s .junk (.storePtr _ _ _ rfl rfl rfl (.one _ rfl) sz23 (lb rfl)) (Ch.nil (Tz hc (Ch.s (dI ((k : Int) + 1)) (iX rfl rfl intV_addA) (Ch.s (dI ((k : Int) + 1)) pm (Ch.nil ?_))))))
       exact nx (k + 1) (by omega) (Wk.ren [(7701, 65000)] rfl rfl rfl rfl (ar (ar (ar (ar (ar (ar (ar (ai (vI a126) trivial)))))))) (ar (ar (ai (oB (Eq.trans (b := [(.row 7700), (.row 65000)]) rfl (by rfl))) (ai (oR a33) (ai (oR a33) trivial))))))
      ·
       refine Tk (Tz hc (Ch.s (dI ((k : Int) + 1)) (iX rfl rfl intV_addA) (Ch.s (dI ((k : Int) + 1)) pm (Ch.nil ?_))))
       exact nx (k + 1) (by omega) (Wk.of rfl rfl (ar (ar (ar (ar (ar (ar (ar (ai (vI a126) trivial)))))))) (ar (ar (ar (ai (oR a33) (ai (oR a33) trivial))))))
   | false =>
    refine Ck (Ck (Ch.s (dB false) (pF rfl) (Ch.s (dB false) pm (Ch.s (dB (decide ((((x.codes.getD k default).getD ((sig).toNat) 0) : UInt8) = 49))) pm (Ch.s (dB (decide (false = (decide ((((x.codes.getD k default).getD ((sig).toNat) 0) : UInt8) = 49))))) (.pure (.eqB _ _ _ _ rfl Tryz.underlying4 rfl rfl)) (Ch.s (dB false) pa (Ch.s (dB (decide (false = (decide ((((x.codes.getD k default).getD ((sig).toNat) 0) : UInt8) = 49))))) pa ?_)))))))
    refine Ch.nil (Tq (Ts hc (Ch.s (dS w) pm (Ch.s (dB (decide (w = [100, 111, 119, 110]))) (.pure (.str _ _ _ _ _ rfl rfl rfl rfl)) (Ch.nil ?_)))))
    refine T_condD (p := (w = [100, 111, 119, 110])) rfl (fun h11 => ?_) (fun h11 => ?_)
    ·
     refine Tz hc (Ch.s (dB false) pm (Ch.s (dB false) pm (Ck (Ch.s (dB false) (pF rfl) (Ch.s (dB false) pm (Ch.s (dB (decide ((((x.codes.getD k default).getD ((sig).toNat) 0) : UInt8) = 49))) pm (Ch.s (dB (!(decide (false = (decide ((((x.codes.getD k default).getD ((sig).toNat) 0) : UInt8) = 49)))))) (.pure (.neB _ _ _ _ rfl Tryz.underlying4 rfl rfl)) ?_)))))))
     refine Ch.s (dB false) pa (Ch.s (dB (!(decide (false = (decide ((((x.codes.getD k default).getD ((sig).toNat) 0) : UInt8) = 49)))))) pa (Ch.nil (Tq (Ts hc (Ch.s (dB false) pm (Ch.nil ?_))))))
     refine T_cond (b := false) rfl (fun h => nomatch h) (fun _ => ?_)
     refine Tk (Ts hc (Ch.s (dB (!(decide (false = (decide ((((x.codes.getD k default).getD ((sig).toNat) 0) : UInt8) = 49)))))) pm (Ch.nil ?_)))
     refine T_condN (b := (decide (false = (decide ((((x.codes.getD k default).getD ((sig).toNat) 0) : UInt8) = 49))))) rfl (fun h12 => ?_) (fun h12 => ?_)
     ·
      replace h12 := odf h12
      refine Tz hc (Ch.s (.ptr 7000 1) (fP fld29_1 rfl) (Ch.s (.row 7701) (lP ag23 rfl rfl rfl) (Ch.s (dS (x.codes.getD k default)) pm ?_)))
      refine Ch.step (v := (.row 65000)) rfl (.call 65000 204 _ _ _ en204 rfl (.inl rfl) (.cons (.row rfl) (.cons (.d _) .nil)) rfl (sol (solid_row (fun _ => rfl) _) rfl) (sp_spec_l15Put (osTo x (offQ x sig (wayN w)) k) (x.codes.getD k default) a46) (.skip _ _ (.skip _ _ .nil)) rfl) rfl rfl ?_
      refine Ch.s (.ptr 7000 1) (fP fld29_1 rfl) (Ch.s .junk (.storePtr _ _ _ rfl rfl rfl (.one _ rfl) sz23 (lb rfl)) (Ch.nil (Tz hc (Ch.s (dI ((k : Int) + 1)) (iX rfl rfl intV_addA) (Ch.s (dI ((k : Int) + 1)) pm (Ch.nil ?_))))))
      exact nx (k + 1) (by omega) (Wk.ren [(7701, 65000)] rfl rfl rfl rfl (ar (ar (ar (ar (ar (ar (ar (ai (vI a126) trivial)))))))) (ar (ar (ai (oB (Eq.trans (b := [(.row 7700), (.row 65000)]) rfl (by rfl))) (ai (oR a33) (ai (oR a33) trivial))))))
     ·
      replace h12 := odt h12
      refine Tk (Tz hc (Ch.s (dI ((k : Int) + 1)) (iX rfl rfl intV_addA) (Ch.s (dI ((k : Int) + 1)) pm (Ch.nil ?_))))
      exact nx (k + 1) (by omega) (Wk.of rfl rfl (ar (ar (ar (ar (ar (ar (ar (ai (vI a126) trivial)))))))) (ar (ar (ar (ai (oR a33) (ai (oR a33) trivial))))))
    ·
     refine Tk (Tq (Ts hc (Ch.s (dB false) pm (Ch.nil ?_))))
     refine T_cond (b := false) rfl (fun h => nomatch h) (fun _ => ?_)
     refine Tk (Ts hc (Ch.s (dB (decide (false = (decide ((((x.codes.getD k default).getD ((sig).toNat) 0) : UInt8) = 49))))) pm (Ch.nil ?_)))
     refine T_condD (p := (false = (decide ((((x.codes.getD k default).getD ((sig).toNat) 0) : UInt8) = 49)))) rfl (fun h13 => ?_) (fun h13 => ?_)
     ·
      refine Tz hc (Ch.s (.ptr 7000 1) (fP fld29_1 rfl) (Ch.s (.row 7701) (lP ag23 rfl rfl rfl) (Ch.s (dS (x.codes.getD k default)) pm ?_)))
      refine Ch.step (v := (.row 65000)) rfl (.call 65000 204 _ _ _ en204 rfl (.inl rfl) (.cons (.row rfl) (.cons (.d _) .nil)) rfl (sol (solid_row (fun _ => rfl) _) rfl) (sp_spec_l15Put (osTo x (offQ x sig (wayN w)) k) (x.codes.getD k default) a46) (.skip _ _ (.skip _ _ .nil)) rfl) rfl rfl ?_
      refine Ch.s (.ptr 7000 1) (fP fld29_1 rfl) (Ch.s .junk (.storePtr _ _ _ rfl rfl rfl (.one _ rfl) sz23 (lb rfl)) (Ch.nil (Tz hc (Ch.s (dI ((k : Int) + 1)) (iX rfl rfl intV_addA) (Ch.s (dI ((k : Int) + 1)) pm (Ch.nil ?_))))))
      exact nx (k + 1) (by omega) (Wk.ren [(7701, 65000)] rfl rfl rfl rfl (ar (ar (ar (ar (ar (ar (ar (ai (vI a126) trivial)))))))) (ar (ar (ai (oB (Eq.trans (b := [(.row 7700), (.row 65000)]) rfl (by rfl))) (ai (oR a33) (ai (oR a33) trivial))))))
     ·
      refine Tk (Tz hc (Ch.s (dI ((k : Int) + 1)) (iX rfl rfl intV_addA) (Ch.s (dI ((k : Int) + 1)) pm (Ch.nil ?_))))
      exact nx (k + 1) (by omega) (Wk.of rfl rfl (ar (ar (ar (ar (ar (ar (ar (ai (vI a126) trivial)))))))) (ar (ar (ar (ai (oR a33) (ai (oR a33) trivial))))))
  ·
   refine Tk (Tq (Ts hc (Ch.s (dS w) pm (Ch.s (dB (decide (w = [100, 111, 119, 110]))) (.pure (.str _ _ _ _ _ rfl rfl rfl rfl)) (Ch.nil ?_)))))
   refine T_condD (p := (w = [100, 111, 119, 110])) rfl (fun h14 => ?_) (fun h14 => ?_)
   ·
    refine Tz hc (Ch.s (dB (excB x (k : Int) sig)) pm (Ch.s (dB (excB x (k : Int) sig)) pm ?_))
    cases h15 : (excB x (k : Int) sig) with
    | true =>
     refine Ch.s (dB (decide ((((x.codes.getD k default).getD ((sig).toNat) 0) : UInt8) = 49))) pm (Ch.s (dB (decide ((((x.codes.getD k default).getD ((sig).toNat) 0) : UInt8) = 49))) (pT rfl) (Ch.s (dB true) pm (Ch.s (dB (decide ((((x.codes.getD k default).getD ((sig).toNat) 0) : UInt8) = 49))) pm (Ch.s (dB (!(decide (true = (decide ((((x.codes.getD k default).getD ((sig).toNat) 0) : UInt8) = 49)))))) (.pure (.neB _ _ _ _ rfl Tryz.underlying4 rfl rfl)) (Ch.s (dB (decide ((((x.codes.getD k default).getD ((sig).toNat) 0) : UInt8) = 49))) pa (Ch.s (dB (!(decide (true = (decide ((((x.codes.getD k default).getD ((sig).toNat) 0) : UInt8) = 49)))))) pa (Ch.nil ?_)))))))
     refine Tq (Ts hc (Ch.s (dB (decide ((((x.codes.getD k default).getD ((sig).toNat) 0) : UInt8) = 49))) pm (Ch.nil ?_)))
     refine T_condD (p := ((((x.codes.getD k default).getD ((sig).toNat) 0) : UInt8) = 49)) rfl (fun h16 => ?_) (fun h16 => ?_)
     ·
      refine Tz hc (Ch.s (.ptr 7000 0) (fP fld29_0 rfl) (Ch.s (.row 7700) (lP ag23 rfl rfl rfl) (Ch.s (dS (x.codes.getD k default)) pm ?_)))
      refine Ch.step (v := (.row 59000)) rfl (.call 59000 204 _ _ _ en204 rfl (.inl rfl) (.cons (.row rfl) (.cons (.d _) .nil)) rfl (sol (solid_row (fun _ => rfl) _) rfl) (sp_spec_l15Put (osTo x (onQ x sig (wayN w)) k) (x.codes.getD k default) a46) (.skip _ _ (.skip _ _ .nil)) rfl) rfl rfl ?_
      refine Ch.s (.ptr 7000 0) (fP fld29_0 rfl) (Ch.s .junk (.storePtr _ _ _ rfl rfl rfl (.one _ rfl) sz23 (lb rfl)) (Ch.nil (Ts hc (Ch.s (dB (!(decide (true = (decide ((((x.codes.getD k default).getD ((sig).toNat) 0) : UInt8) = 49)))))) pm (Ch.nil ?_)))))
      refine T_condN (b := (decide (true = (decide ((((x.codes.getD k default).getD ((sig).toNat) 0) : UInt8) = 49))))) rfl (fun h17 => ?_) (fun h17 => ?_)
      ·
       replace h17 := odf h17
       refine Tz hc (Ch.s (.ptr 7000 1) (fP fld29_1 rfl) (Ch.s (.row 7701) (lP ag23 rfl rfl rfl) (Ch.s (dS (x.codes.getD k default)) pm ?_)))
       refine Ch.step (v := (.row 65000)) rfl (.call 65000 204 _ _ _ en204 rfl (.inl rfl) (.cons (.row rfl) (.cons (.d _) .nil)) rfl (sol (solid_row (fun _ => rfl) _) rfl) (sp_spec_l15Put (osTo x (offQ x sig (wayN w)) k) (x.codes.getD k default) a46) (.skip _ _ (.skip _ _ .nil)) rfl) rfl rfl ?_
       refine Ch.s (.ptr 7000 1) (fP fld29_1 rfl) (Ch.s .junk (.storePtr _ _ _ rfl rfl rfl (.one _ rfl) sz23 (lb rfl)) (Ch.nil (Tz hc (Ch.s (dI ((k : Int) + 1)) (iX rfl rfl intV_addA) (Ch.s (dI ((k : Int) + 1)) pm (Ch.nil ?_))))))
       exact nx (k + 1) (by omega) (Wk.ren [(7700, 59000), (7701, 65000)] rfl rfl rfl rfl (ar (ar (ar (ar (ar (ar (ar (ai (vI a126) trivial)))))))) (ar (ar (ai (oB (Eq.trans (b := [(.row 59000), (.row 65000)]) rfl (by rfl))) (ai (oR a33) (ai (oR a33) trivial))))))
      ·
       replace h17 := odt h17
       refine Tk (Tz hc (Ch.s (dI ((k : Int) + 1)) (iX rfl rfl intV_addA) (Ch.s (dI ((k : Int) + 1)) pm (Ch.nil ?_))))
       exact nx (k + 1) (by omega) (Wk.ren [(7700, 59000)] rfl rfl rfl rfl (ar (ar (ar (ar (ar (ar (ar (ai (vI a126) trivial)))))))) (ar (ar (ai (oB (Eq.trans (b := [(.row 59000), (.row 7701)]) rfl (by rfl))) (ai (oR a33) (ai (oR a33) trivial))))))
     ·
      refine Tk (Ts hc (Ch.s (dB (!(decide (true = (decide ((((x.codes.getD k default).getD ((sig).toNat) 0) : UInt8) = 49)))))) pm (Ch.nil ?_)))
      refine T_condN (b := (decide (true = (decide ((((x.codes.getD k default).getD ((sig).toNat) 0) : UInt8) = 49))))) rfl (fun h18 => ?_) (fun h18 => ?_)
      ·
       replace h18 := odf h18
       refine Tz hc (Ch.s (.ptr 7000 1) (fP fld29_1 rfl) (Ch.s (.row 7701) (lP ag23 rfl rfl rfl) (Ch.s (dS (x.codes.getD k default)) pm ?_)))
       refine Ch.step (v := (.row 65000)) rfl (.call 65000 204 _ _ _ en204 rfl (.inl rfl) (.cons (.row rfl) (.cons (.d _) .nil)) rfl (sol (solid_row (fun _ => rfl) _) rfl) (sp_spec_l15Put (osTo x (offQ x sig (wayN w)) k) (x.codes.getD k default) a46) (.skip _ _ (.skip _ _ .nil)) rfl) rfl rfl ?_
       refine Ch.s (.ptr 7000 1) (fP fld29_1 rfl) (Ch.s .junk (.storePtr _ _ _ rfl rfl rfl (.one _ rfl) sz23 (lb rfl)) (Ch.nil (Tz hc (Ch.s (dI ((k : Int) + 1)) (iX rfl rfl intV_addA) (Ch.s (dI ((k : Int) + 1)) pm (Ch.nil ?_))))))
       exact nx (k + 1) (by omega) (Wk.ren [(7701, 65000)] rfl rfl rfl rfl (ar (ar (ar (ar (ar (ar (ar (ai (vI a126) trivial)))))))) (ar (ar (ai (oB (Eq.trans (b := [(.row 7700), (.row 65000)]) rfl (by rfl))) (ai (oR a33) (ai (oR a33) trivial))))))
      ·
       replace h18 := odt h18
       refine Tk (Tz hc (Ch.s (dI ((k : Int) + 1)) (iX rfl rfl intV_addA) (Ch.s (dI ((k : Int) + 1)) pm (Ch.nil ?_))))
       exact nx (k + 1) (by omega) (Wk.of rfl rfl (ar (ar (ar (ar (ar (ar (ar (ai (vI a126) trivial)))))))) (ar (ar (ar (ai (oR a33) (ai (oR a33) trivial))))))
    | false =>
     refine Ck (Ch.s (dB false) (pF rfl) (Ch.s (dB false) pm (Ch.s (dB (decide ((((x.codes.getD k default).getD ((sig).toNat) 0) : UInt8) = 49))) pm (Ch.s (dB (!(decide (false = (decide ((((x.codes.getD k default).getD ((sig).toNat) 0) : UInt8) = 49)))))) (.pure (.neB _ _ _ _ rfl Tryz.underlying4 rfl rfl)) (Ch.s (dB false) pa (Ch.s (dB (!(decide (false = (decide ((((x.codes.getD k default).getD ((sig).toNat) 0) : UInt8) = 49)))))) pa (Ch.nil ?_)))))))
     refine Tq (Ts hc (Ch.s (dB false) pm (Ch.nil ?_)))
     refine T_cond (b := false) rfl (fun h => nomatch h) (fun _ => ?_)
     refine Tk (Ts hc (Ch.s (dB (!(decide (false = (decide ((((x.codes.getD k default).getD ((sig).toNat) 0) : UInt8) = 49)))))) pm (Ch.nil ?_)))
     refine T_condN (b := (decide (false = (decide ((((x.codes.getD k default).getD ((sig).toNat) 0) : UInt8) = 49))))) rfl (fun h19 => ?_) (fun h19 => ?_)
     ·
      replace h19 := odf h19
      refine Tz hc (Ch.s (.ptr 7000 1) (fP fld29_1 rfl) (Ch.s (.row 7701) (lP ag23 rfl rfl rfl) (Ch.s (dS (x.codes.getD k default)) pm ?_)))
      refine Ch.step (v := (.row 65000)) rfl (.call 65000 204 _ _ _ en204 rfl (.inl rfl) (.cons (.row rfl) (.cons (.d _) .nil)) rfl (sol (solid_row (fun _ => rfl) _) rfl) (sp_spec_l15Put (osTo x (offQ x sig (wayN w)) k) (x.codes.getD k default) a46) (.skip _ _ (.skip _ _ .nil)) rfl) rfl rfl ?_
      refine Ch.s (.ptr 7000 1) (fP fld29_1 rfl) (Ch.s .junk (.storePtr _ _ _ rfl rfl rfl (.one _ rfl) sz23 (lb rfl)) (Ch.nil (Tz hc (Ch.s (dI ((k : Int) + 1)) (iX rfl rfl intV_addA) (Ch.s (dI ((k : Int) + 1)) pm (Ch.nil ?_))))))
      exact nx (k + 1) (by omega) (Wk.ren [(7701, 65000)] rfl rfl rfl rfl (ar (ar (ar (ar (ar (ar (ar (ai (vI a126) trivial)))))))) (ar (ar (ai (oB (Eq.trans (b := [(.row 7700), (.row 65000)]) rfl (by rfl))) (ai (oR a33) (ai (oR a33) trivial))))))
     ·
      replace h19 := odt h19
      refine Tk (Tz hc (Ch.s (dI ((k : Int) + 1)) (iX rfl rfl intV_addA) (Ch.s (dI ((k : Int) + 1)) pm (Ch.nil ?_))))
      exact nx (k + 1) (by omega) (Wk.of rfl rfl (ar (ar (ar (ar (ar (ar (ar (ai (vI a126) trivial)))))))) (ar (ar (ar (ai (oR a33) (ai (oR a33) trivial))))))
   ·
    refine Tk (Tq (Ts hc (Ch.s (dB (!(decide ((excB x (k : Int) sig) = (decide ((((x.codes.getD k default).getD ((sig).toNat) 0) : UInt8) = 49)))))) pm (Ch.nil ?_))))
    refine T_condN (b := (decide ((excB x (k : Int) sig) = (decide ((((x.codes.getD k default).getD ((sig).toNat) 0) : UInt8) = 49))))) rfl (fun h20 => ?_) (fun h20 => ?_)
    ·
     replace h20 := odf h20
     refine Tz hc (Ch.s (.ptr 7000 0) (fP fld29_0 rfl) (Ch.s (.row 7700) (lP ag23 rfl rfl rfl) (Ch.s (dS (x.codes.getD k default)) pm ?_)))
     refine Ch.step (v := (.row 59000)) rfl (.call 59000 204 _ _ _ en204 rfl (.inl rfl) (.cons (.row rfl) (.cons (.d _) .nil)) rfl (sol (solid_row (fun _ => rfl) _) rfl) (sp_spec_l15Put (osTo x (onQ x sig (wayN w)) k) (x.codes.getD k default) a46) (.skip _ _ (.skip _ _ .nil)) rfl) rfl rfl ?_
     refine Ch.s (.ptr 7000 0) (fP fld29_0 rfl) (Ch.s .junk (.storePtr _ _ _ rfl rfl rfl (.one _ rfl) sz23 (lb rfl)) (Ch.nil (Ts hc (Ch.s (dB (decide ((excB x (k : Int) sig) = (decide ((((x.codes.getD k default).getD ((sig).toNat) 0) : UInt8) = 49))))) pm (Ch.nil ?_)))))
     refine T_condD (p := ((excB x (k : Int) sig) = (decide ((((x.codes.getD k default).getD ((sig).toNat) 0) : UInt8) = 49)))) rfl (fun h21 => ?_) (fun h21 => ?_)
     ·
      refine Tz hc (Ch.s (.ptr 7000 1) (fP fld29_1 rfl) (Ch.s (.row 7701) (lP ag23 rfl rfl rfl) (Ch.s (dS (x.codes.getD k default)) pm ?_)))
      refine Ch.step (v := (.row 65000)) rfl (.call 65000 204 _ _ _ en204 rfl (.inl rfl) (.cons (.row rfl) (.cons (.d _) .nil)) rfl (sol (solid_row (fun _ => rfl) _) rfl) (sp_spec_l15Put (osTo x (offQ x sig (wayN w)) k) (x.codes.getD k default) a46) (.skip _ _ (.skip _ _ .nil)) rfl) rfl rfl ?_
      refine Ch.s (.ptr 7000 1) (fP fld29_1 rfl) (Ch.s .junk (.storePtr _ _ _ rfl rfl rfl (.one _ rfl) sz23 (lb rfl)) (Ch.nil (Tz hc (Ch.s (dI ((k : Int) + 1)) (iX rfl rfl intV_addA) (Ch.s (dI ((k : Int) + 1)) pm (Ch.nil ?_))))))
      exact nx (k + 1) (by omega) (Wk.ren [(7700, 59000), (7701, 65000)] rfl rfl rfl rfl (ar (ar (ar (ar (ar (ar (ar (ai (vI a126) trivial)))))))) (ar (ar (ai (oB (Eq.trans (b := [(.row 59000), (.row 65000)]) rfl (by rfl))) (ai (oR a33) (ai (oR a33) trivial))))))
     ·
      refine Tk (Tz hc (Ch.s (dI ((k : Int) + 1)) (iX rfl rfl intV_addA) (Ch.s (dI ((k : Int) + 1)) pm (Ch.nil ?_))))
      exact nx (k + 1) (by omega) (Wk.ren [(7700, 59000)] rfl rfl rfl rfl (ar (ar (ar (ar (ar (ar (ar (ai (vI a126) trivial)))))))) (ar (ar (ai (oB (Eq.trans (b := [(.row 59000), (.row 7701)]) rfl (by rfl))) (ai (oR a33) (ai (oR a33) trivial))))))
    ·
     replace h20 := odt h20
     refine Tk (Ts hc (Ch.s (dB (decide ((excB x (k : Int) sig) = (decide ((((x.codes.getD k default).getD ((sig).toNat) 0) : UInt8) = 49))))) pm (Ch.nil ?_)))
     refine T_condD (p := ((excB x (k : Int) sig) = (decide ((((x.codes.getD k default).getD ((sig).toNat) 0) : UInt8) = 49)))) rfl (fun h22 => ?_) (fun h22 => ?_)
     ·
      refine Tz hc (Ch.s (.ptr 7000 1) (fP fld29_1 rfl) (Ch.s (.row 7701) (lP ag23 rfl rfl rfl) (Ch.s (dS (x.codes.getD k default)) pm ?_)))
      refine Ch.step (v := (.row 65000)) rfl (.call 65000 204 _ _ _ en204 rfl (.inl rfl) (.cons (.row rfl) (.cons (.d _) .nil)) rfl (sol (solid_row (fun _ => rfl) _) rfl) (sp_spec_l15Put (osTo x (offQ x sig (wayN w)) k) (x.codes.getD k default) a46) (.skip _ _ (.skip _ _ .nil)) rfl) rfl rfl ?_
      refine Ch.s (.ptr 7000 1) (fP fld29_1 rfl) (Ch.s .junk (.storePtr _ _ _ rfl rfl rfl (.one _ rfl) sz23 (lb rfl)) (Ch.nil (Tz hc (Ch.s (dI ((k : Int) + 1)) (iX rfl rfl intV_addA) (Ch.s (dI ((k : Int) + 1)) pm (Ch.nil ?_))))))
      exact nx (k + 1) (by omega) (Wk.ren [(7701, 65000)] rfl rfl rfl rfl (ar (ar (ar (ar (ar (ar (ar (ai (vI a126) trivial)))))))) (ar (ar (ai (oB (Eq.trans (b := [(.row 7700), (.row 65000)]) rfl (by rfl))) (ai (oR a33) (ai (oR a33) trivial))))))
     ·
      refine Tk (Tz hc (Ch.s (dI ((k : Int) + 1)) (iX rfl rfl intV_addA) (Ch.s (dI ((k : Int) + 1)) pm (Ch.nil ?_))))
      exact nx (k + 1) (by omega) (Wk.of rfl rfl (ar (ar (ar (ar (ar (ar (ar (ai (vI a126) trivial)))))))) (ar (ar (ar (ai (oR a33) (ai (oR a33) trivial))))))
 ·
  try have hlk : (x.codes.getD k default).length = x.sigs.length := (hck (k : Int) (by omega) (by omega)).2
  refine T_exit (Ts hc (Ch.s (.agg [(.row 7700), (.row 7701)]) (lA ag29 sz29 rfl rfl (lb rfl) rfl) (Ch.s .junk (.storePtr _ _ _ rfl rfl rfl (.agg _ rfl) sz29 (lb rfl)) (Ch.nil (T_ret ?_)))))
  exact eR [(.agg [(.row 7700), (.row 7701)])] [] [7700, 7701] (.cons (.cellA _ _ rfl rfl ag29 sz29) .nil) eC (.agg (.cons (Exp.of (congrArg (D.slice true 1) (by rw [osL, show x.codes.length = k by omega])) (.row rfl)) (.cons (Exp.of (congrArg (D.slice true 1) (by rw [osL, show x.codes.length = k by omega])) (.row rfl)) .nil)) rfl)

theorem sp_spec_l15Told (x : Sgr) (sig : Int) (w : List UInt8) (hb : x.bulk ≤ 1048576) : Sp Tryz.prog 69 [(.agg [(.slice false 2 (x.sigs.map Sgn.d)), (.slice false 1 (x.codes.map D.str)), (.slice false 4 (x.arcs.map Arc.d))]), (.int .i64 sig), (.str w)] [.any, .any, .any] (.tup [(.agg [(.slice true 1 ((osOn x sig (wayN w)).map D.str)), (.slice true 1 ((osOff x sig (wayN w)).map D.str))]), (.bool (osOk x sig (wayN w)))]) := by
 refine Sp_intro (lend := true) Tryz.func69 rfl rfl rfl (fun _ => rfl) (fun c hc hX => ?_)
 obtain ⟨hp0, hp1, hp2⟩ := Sgr.parts hb
 have hn0 := bulkF_len hp0
 have hn1 := bulk_len hp1
 have hx1 := bulk_mem hp1
 have hn2 := bulkF_len hp2
 refine Ts hc (Ch.s (.ptr 3000 0) (.box 3000 _ _ rfl (.aggD _)) (Ch.s (.ptr 6000 0) (.alloc 6000 _ rfl zer29) (Ch.s (dB false) pa (Ch.nil (Tq (Tq ?_))))))
 refine Tz hc (Ch.s (.agg (vX x)) (lA ag35 sz35 rfl rfl (lb rfl) rfl) (Ch.s (dI sig) pm (Ch.s (dB (outSig x sig)) (.call 11000 134 _ _ _ en134 rfl (.inl rfl) (.cons lX (.cons (.d _) .nil)) rfl rfl (sp_spec_l15Asked x sig a46) (.skip _ _ (.skip _ _ .nil)) rfl) (Ch.s (dB (!(outSig x sig))) (nT rfl) (Ch.nil ?_)))))
 refine T_condN (b := (outSig x sig)) rfl (fun h1 => ?_) (fun h1 => ?_)
 ·
  try have hsr := outSig_has h1
  try have hx := sg_has hsr.1
  try have hsx := hsr.2
  try have hxl := hx.len
  try have hop : (osL x (onQ x sig (wayN w))).length ≤ x.codes.length := osTo_le x (onQ x sig (wayN w)) x.codes.length
  try have hoq : (osL x (offQ x sig (wayN w))).length ≤ x.codes.length := osTo_le x (offQ x sig (wayN w)) x.codes.length
  try have hpx : ∀ u ∈ osL x (onQ x sig (wayN w)), u.length ≤ 1048576 := fun u hu => hx1 u (osTo_in (Nat.le_refl _) u hu)
  try have hqx : ∀ u ∈ osL x (offQ x sig (wayN w)), u.length ≤ 1048576 := fun u hu => hx1 u (osTo_in (Nat.le_refl _) u hu)
  refine Ts hc (Ch.s (.agg [(.c (.slice none 0 0)), (.c (.slice none 0 0))]) (.build _ _ rfl stru29 .nil rfl) (Ch.s .junk (.storePtr _ _ _ rfl rfl rfl (.agg _ rfl) sz29 (lb rfl)) (Ch.s (dB false) pa (Ch.nil (T_ret ?_)))))
  exact eR [(.agg [(.c (.slice none 0 0)), (.c (.slice none 0 0))]), (dB false)] [] [] (.cons (.cellA _ _ rfl rfl ag29 sz29) (.cons (.tmp 7 rfl) .nil)) eC (.tup (.cons (.agg (.cons (Exp.of (congrArg (D.slice true 1) a11) (.nil true 1)) (.cons (Exp.of (congrArg (D.slice true 1) a11) (.nil true 1)) .nil)) rfl) (.cons (Exp.of (congrArg D.bool a11) (.d _)) .nil)))
 ·
  try have hsr := outSig_has h1
  try have hx := sg_has hsr.1
  try have hsx := hsr.2
  try have hxl := hx.len
  try have hop : (osL x (onQ x sig (wayN w))).length ≤ x.codes.length := osTo_le x (onQ x sig (wayN w)) x.codes.length
  try have hoq : (osL x (offQ x sig (wayN w))).length ≤ x.codes.length := osTo_le x (offQ x sig (wayN w)) x.codes.length
  try have hpx : ∀ u ∈ osL x (onQ x sig (wayN w)), u.length ≤ 1048576 := fun u hu => hx1 u (osTo_in (Nat.le_refl _) u hu)
  try have hqx : ∀ u ∈ osL x (offQ x sig (wayN w)), u.length ≤ 1048576 := fun u hu => hx1 u (osTo_in (Nat.le_refl _) u hu)
  refine Tk (Ts hc (Ch.s (.agg (vX x)) (lA ag35 sz35 rfl rfl (lb rfl) rfl) (Ch.s (dI sig) pm (Ch.s (dS w) pm ?_))))
  refine Ch.step (v := (.agg [(.row 17000), (.row 17001)])) rfl (.call 17000 135 _ _ _ en135 rfl (.inl rfl) (.cons lX (.cons (.d _) (.cons (.d _) .nil))) rfl (sol (by rw [D.solid]; exact solids_c (solid_row (fun _ => rfl) _) (solids_c (solid_row (fun _ => rfl) _) rfl)) rfl) (sp_spec_l15Sets x sig w a46 (by assumption) (by omega)) (.skip _ _ (.skip _ _ (.skip _ _ .nil))) rfl) rfl rfl ?_
  refine Ch.s (.ptr 8000 0) (.alloc 8000 _ rfl zer29) (Ch.s .junk (.storePtr _ _ _ rfl rfl rfl (.agg _ rfl) sz29 (lb rfl)) (Ch.nil (Tq (Ts hc (Ch.s (.ptr 3000 0) (fP fld35_0 rfl) (Ch.s (.d (.slice false 2 (x.sigs.map Sgn.d))) (lP ag32 rfl rfl rfl) ?_))))))
  refine Ch.s (dI (x.sigs.length : Int)) (.pure (.len _ _ 154 rfl Tryz.underlying32 (.sh _ _) (by simp))) (Ch.s (.ptr 8000 0) (fP fld29_0 rfl) (Ch.s (.row 17000) (lP ag23 rfl rfl rfl) (Ch.s (.ptr 8000 1) (fP fld29_1 rfl) (Ch.s (.row 17001) (lP ag23 rfl rfl rfl) (Ch.s (dB (onoffB (x.sigs.length : Int) (osL x (onQ x sig (wayN w))) (osL x (offQ x sig (wayN w))))) (.call 25000 136 _ _ _ en136 rfl (.inl rfl) (.cons (.d _) (.cons (.lend (.row rfl (frozs_map (fun _ => rfl) _))) (.cons (.lend (.row rfl (frozs_map (fun _ => rfl) _))) .nil))) rfl rfl (sp_spec_l14Sets (x.sigs.length : Int) (osL x (onQ x sig (wayN w))) (osL x (offQ x sig (wayN w))) a26 a26 a26 a26) (.skip _ _ (.skip _ _ (.skip _ _ .nil))) rfl) (Ch.s (dB (!(onoffB (x.sigs.length : Int) (osL x (onQ x sig (wayN w))) (osL x (offQ x sig (wayN w)))))) (nT rfl) (Ch.nil ?_)))))))
  refine T_condN (b := (onoffB (x.sigs.length : Int) (osL x (onQ x sig (wayN w))) (osL x (offQ x sig (wayN w))))) rfl (fun h2 => ?_) (fun h2 => ?_)
  ·
   refine Ts hc (Ch.s (.agg [(.c (.slice none 0 0)), (.c (.slice none 0 0))]) (.build _ _ rfl stru29 .nil rfl) (Ch.s .junk (.storePtr _ _ _ rfl rfl rfl (.agg _ rfl) sz29 (lb rfl)) (Ch.s (dB false) pa (Ch.nil (T_ret ?_)))))
   exact eR [(.agg [(.c (.slice none 0 0)), (.c (.slice none 0 0))]), (dB false)] [] [] (.cons (.cellA _ _ rfl rfl ag29 sz29) (.cons (.tmp 7 rfl) .nil)) eC (.tup (.cons (.agg (.cons (Exp.of (congrArg (D.slice true 1) a11) (.nil true 1)) (.cons (Exp.of (congrArg (D.slice true 1) a11) (.nil true 1)) .nil)) rfl) (.cons (Exp.of (congrArg D.bool a11) (.d _)) .nil)))
  ·
   refine Tk (Ts hc (Ch.s (.agg [(.row 17000), (.row 17001)]) (lA ag29 sz29 rfl rfl (lb rfl) rfl) (Ch.s .junk (.storePtr _ _ _ rfl rfl rfl (.agg _ rfl) sz29 (lb rfl)) (Ch.s (dB true) pa (Ch.nil (T_ret ?_))))))
   exact eR [(.agg [(.row 17000), (.row 17001)]), (dB true)] [] [17000, 17001] (.cons (.cellA _ _ rfl rfl ag29 sz29) (.cons (.tmp 7 rfl) .nil)) eC (.tup (.cons (.agg (.cons (Exp.of (congrArg (D.slice true 1) a11) (.row rfl)) (.cons (Exp.of (congrArg (D.slice true 1) a11) (.row rfl)) .nil)) rfl) (.cons (Exp.of (congrArg D.bool a11) (.d _)) .nil)))

theorem sp_spec_NextStateSets (x : Sgr) (sig : Int) (hb : x.bulk ≤ 1048576) : Sp Tryz.prog 78 [(.agg [(.slice false 2 (x.sigs.map Sgn.d)), (.slice false 1 (x.codes.map D.str)), (.slice false 4 (x.arcs.map Arc.d))]), (.int .i64 sig)] [.any, .any] (.tup [(.agg [(.slice true 1 ((osOn x sig 0).map D.str)), (.slice true 1 ((osOff x sig 0).map D.str))]), (.bool (osOk x sig 0))]) := by
 refine Sp_intro (lend := true) Tryz.func78 rfl rfl rfl (fun _ => rfl) (fun c hc hX => ?_)
 obtain ⟨hp0, hp1, hp2⟩ := Sgr.parts hb
 have hn0 := bulkF_len hp0
 have hn1 := bulk_len hp1
 have hx1 := bulk_mem hp1
 have hn2 := bulkF_len hp2
 refine Ts hc (Ch.s (.ptr 2000 0) (.box 2000 _ _ rfl (.aggD _)) (Ch.s (.ptr 4000 0) (.alloc 4000 _ rfl zer29) (Ch.s (dB false) pa (Ch.nil (Tq (Tz hc ?_))))))
 refine Ch.s (.agg (vX x)) (lA ag35 sz35 rfl rfl (lb rfl) rfl) (Ch.s (dI sig) pm ?_)
 refine Ch.step (v := (.tup [(.agg [(.row 8000), (.row 8001)]), (dB (osOk x sig (wayN ([110, 101, 120, 116]))))])) rfl (.call 8000 69 _ _ _ en69 rfl (.inl rfl) (.cons lX (.cons (.d _) (.cons (.d _) .nil))) rfl (sol a68 rfl) (sp_spec_l15Told x sig ([110, 101, 120, 116]) a46) (.skip _ _ (.skip _ _ (.skip _ _ .nil))) rfl) rfl rfl ?_
 refine Ch.s (.agg [(.row 8000), (.row 8001)]) (xT rfl rfl) (Ch.s (dB (osOk x sig (wayN ([110, 101, 120, 116])))) (xT rfl rfl) (Ch.s .junk (.storePtr _ _ _ rfl rfl rfl (.agg _ rfl) sz29 (lb rfl)) (Ch.s (dB (osOk x sig (wayN ([110, 101, 120, 116])))) pa (Ch.nil (T_ret ?_)))))
 exact eR [(.agg [(.row 8000), (.row 8001)]), (dB (osOk x sig (wayN ([110, 101, 120, 116]))))] [] [8000, 8001] (.cons (.cellA _ _ rfl rfl ag29 sz29) (.cons (.tmp 5 rfl) .nil)) eB (.tup (.cons (.agg (.cons (Exp.of (congrArg (D.slice true 1) (by rfl)) (.row rfl)) (.cons (Exp.of (congrArg (D.slice true 1) (by rfl)) (.row rfl)) .nil)) rfl) (.cons (Exp.of (congrArg D.bool (by rfl)) (.d _)) .nil)))

theorem sp_spec_SetFunctionSets (x : Sgr) (sig : Int) (hb : x.bulk ≤ 1048576) : Sp Tryz.prog 170 [(.agg [(.slice false 2 (x.sigs.map Sgn.d)), (.slice false 1 (x.codes.map D.str)), (.slice false 4 (x.arcs.map Arc.d))]), (.int .i64 sig)] [.any, .any] (.tup [(.agg [(.slice true 1 ((osOn x sig 1).map D.str)), (.slice true 1 ((osOff x sig 1).map D.str))]), (.bool (osOk x sig 1))]) := by
 refine Sp_intro (lend := true) Tryz.func170 rfl rfl rfl (fun _ => rfl) (fun c hc hX => ?_)
 obtain ⟨hp0, hp1, hp2⟩ := Sgr.parts hb
 have hn0 := bulkF_len hp0
 have hn1 := bulk_len hp1
 have hx1 := bulk_mem hp1
 have hn2 := bulkF_len hp2
 refine Ts hc (Ch.s (.ptr 2000 0) (.box 2000 _ _ rfl (.aggD _)) (Ch.s (.ptr 4000 0) (.alloc 4000 _ rfl zer29) (Ch.s (dB false) pa (Ch.nil (Tq (Tz hc ?_))))))
 refine Ch.s (.agg (vX x)) (lA ag35 sz35 rfl rfl (lb rfl) rfl) (Ch.s (dI sig) pm ?_)
 refine Ch.step (v := (.tup [(.agg [(.row 8000), (.row 8001)]), (dB (osOk x sig (wayN ([117, 112]))))])) rfl (.call 8000 69 _ _ _ en69 rfl (.inl rfl) (.cons lX (.cons (.d _) (.cons (.d _) .nil))) rfl (sol a68 rfl) (sp_spec_l15Told x sig ([117, 112]) a46) (.skip _ _ (.skip _ _ (.skip _ _ .nil))) rfl) rfl rfl ?_
 refine Ch.s (.agg [(.row 8000), (.row 8001)]) (xT rfl rfl) (Ch.s (dB (osOk x sig (wayN ([117, 112])))) (xT rfl rfl) (Ch.s .junk (.storePtr _ _ _ rfl rfl rfl (.agg _ rfl) sz29 (lb rfl)) (Ch.s (dB (osOk x sig (wayN ([117, 112])))) pa (Ch.nil (T_ret ?_)))))
 exact eR [(.agg [(.row 8000), (.row 8001)]), (dB (osOk x sig (wayN ([117, 112]))))] [] [8000, 8001] (.cons (.cellA _ _ rfl rfl ag29 sz29) (.cons (.tmp 5 rfl) .nil)) eB (.tup (.cons (.agg (.cons (Exp.of (congrArg (D.slice true 1) (by rfl)) (.row rfl)) (.cons (Exp.of (congrArg (D.slice true 1) (by rfl)) (.row rfl)) .nil)) rfl) (.cons (Exp.of (congrArg D.bool (by rfl)) (.d _)) .nil)))

theorem sp_spec_ResetFunctionSets (x : Sgr) (sig : Int) (hb : x.bulk ≤ 1048576) : Sp Tryz.prog 17 [(.agg [(.slice false 2 (x.sigs.map Sgn.d)), (.slice false 1 (x.codes.map D.str)), (.slice false 4 (x.arcs.map Arc.d))]), (.int .i64 sig)] [.any, .any] (.tup [(.agg [(.slice true 1 ((osOn x sig 2).map D.str)), (.slice true 1 ((osOff x sig 2).map D.str))]), (.bool (osOk x sig 2))]) := by
 refine Sp_intro (lend := true) Tryz.func17 rfl rfl rfl (fun _ => rfl) (fun c hc hX => ?_)
 obtain ⟨hp0, hp1, hp2⟩ := Sgr.parts hb
 have hn0 := bulkF_len hp0
 have hn1 := bulk_len hp1
 have hx1 := bulk_mem hp1
 have hn2 := bulkF_len hp2
 refine Ts hc (Ch.s (.ptr 2000 0) (.box 2000 _ _ rfl (.aggD _)) (Ch.s (.ptr 4000 0) (.alloc 4000 _ rfl zer29) (Ch.s (dB false) pa (Ch.nil (Tq (Tz hc ?_))))))
 refine Ch.s (.agg (vX x)) (lA ag35 sz35 rfl rfl (lb rfl) rfl) (Ch.s (dI sig) pm ?_)
 refine Ch.step (v := (.tup [(.agg [(.row 8000), (.row 8001)]), (dB (osOk x sig (wayN ([100, 111, 119, 110]))))])) rfl (.call 8000 69 _ _ _ en69 rfl (.inl rfl) (.cons lX (.cons (.d _) (.cons (.d _) .nil))) rfl (sol a68 rfl) (sp_spec_l15Told x sig ([100, 111, 119, 110]) a46) (.skip _ _ (.skip _ _ (.skip _ _ .nil))) rfl) rfl rfl ?_
 refine Ch.s (.agg [(.row 8000), (.row 8001)]) (xT rfl rfl) (Ch.s (dB (osOk x sig (wayN ([100, 111, 119, 110])))) (xT rfl rfl) (Ch.s .junk (.storePtr _ _ _ rfl rfl rfl (.agg _ rfl) sz29 (lb rfl)) (Ch.s (dB (osOk x sig (wayN ([100, 111, 119, 110])))) pa (Ch.nil (T_ret ?_)))))
 exact eR [(.agg [(.row 8000), (.row 8001)]), (dB (osOk x sig (wayN ([100, 111, 119, 110]))))] [] [8000, 8001] (.cons (.cellA _ _ rfl rfl ag29 sz29) (.cons (.tmp 5 rfl) .nil)) eB (.tup (.cons (.agg (.cons (Exp.of (congrArg (D.slice true 1) (by rfl)) (.row rfl)) (.cons (Exp.of (congrArg (D.slice true 1) (by rfl)) (.row rfl)) .nil)) rfl) (.cons (Exp.of (congrArg D.bool (by rfl)) (.d _)) .nil)))

theorem sp_heldq (xs : List (List UInt8)) (k : Nat) (hn : xs.length ≤ 1048576) (hk : k ≤ 3145728) (hq : heldR xs k = ((k + xs.length : Nat) : Int)) : Sp Tryz.prog 31 [.slice false 1 (xs.map D.str), .int .i64 (k : Int)] [.any, .any] (.int .i64 ((k + xs.length : Nat) : Int)) := by
 have h := sp_laws_heldStringS xs k hn hk
 rw [hq] at h
 exact h

theorem heldq_marks (k n : Nat) : heldR (marks k n) k = ((k + (marks k n).length : Nat) : Int) := by
 have h := held_marks k n
 rw [marks_length]
 omega

theorem en203 : Enters Tryz.prog 203 := ⟨_, Tryz.func203, by kernel_rfl, rfl⟩

theorem sty175 : SlotTy Tryz.prog 175 216 3 24 := slotTy_mk (by kernel_rfl)

theorem en297 : Enters Tryz.prog 297 := ⟨_, Tryz.func297, by kernel_rfl, rfl⟩

theorem en298 : Enters Tryz.prog 298 := ⟨_, Tryz.func298, by kernel_rfl, rfl⟩

theorem stru216 : StructIs Tryz.prog 216 [.int .i64 0, .int .i64 0, .int .i64 0] [(0, 1), (1, 1), (2, 1)] := structIs_mk (by kernel_rfl) Tryz.underlying216 (by kernel_rfl)

theorem en221 : Enters Tryz.prog 221 := ⟨_, Tryz.func221, by kernel_rfl, rfl⟩

theorem en131 : Enters Tryz.prog 131 := ⟨_, Tryz.func131, by kernel_rfl, rfl⟩

theorem en281 : Enters Tryz.prog 281 := ⟨_, Tryz.func281, by kernel_rfl, rfl⟩

theorem en282 : Enters Tryz.prog 282 := ⟨_, Tryz.func282, by kernel_rfl, rfl⟩

theorem en283 : Enters Tryz.prog 283 := ⟨_, Tryz.func283, by kernel_rfl, rfl⟩

theorem en284 : Enters Tryz.prog 284 := ⟨_, Tryz.func284, by kernel_rfl, rfl⟩

theorem en166 : Enters Tryz.prog 166 := ⟨_, Tryz.func166, by kernel_rfl, rfl⟩

theorem en167 : Enters Tryz.prog 167 := ⟨_, Tryz.func167, by kernel_rfl, rfl⟩

theorem en168 : Enters Tryz.prog 168 := ⟨_, Tryz.func168, by kernel_rfl, rfl⟩

theorem en169 : Enters Tryz.prog 169 := ⟨_, Tryz.func169, by kernel_rfl, rfl⟩

theorem en258 : Enters Tryz.prog 258 := ⟨_, Tryz.func258, by kernel_rfl, rfl⟩

theorem en222 : Enters Tryz.prog 222 := ⟨_, Tryz.func222, by kernel_rfl, rfl⟩

theorem en171 : Enters Tryz.prog 171 := ⟨_, Tryz.func171, by kernel_rfl, rfl⟩

def inputB (x : Sgr) (sig : Int) : Bool := decide (0 ≤ sig) && decide ((x.sigs.getD sig.toNat default).kind = 1)

theorem inputB_lt {x : Sgr} {sig : Int} (h : ¬ 0 ≤ sig) : inputB x sig = false := by rw [inputB, decide_eq_false h]; rfl

theorem inputB_no {x : Sgr} {sig : Int} (h : ¬ (x.sigs.getD sig.toNat default).kind = 1) : inputB x sig = false := by rw [inputB, decide_eq_false h, Bool.and_false]

theorem inputB_yes {x : Sgr} {sig : Int} (h0 : 0 ≤ sig) (h : (x.sigs.getD sig.toNat default).kind = 1) : inputB x sig = true := by rw [inputB, decide_eq_true h0, decide_eq_true h]; rfl

theorem prTo_leA (P : Nat → Nat → Bool) {n : Nat} (hn : n ≤ 4000) : ∀ k, (prTo P n k).length ≤ k * 4000
 | 0 => Nat.le_refl 0
 | k + 1 => by
  have h1 := prTo_leA P hn k
  have h2 := prIn_le P k n
  have e : (prTo P n (k + 1)).length = (prTo P n k).length + (prIn P k n).length := by
   unfold prTo
   rw [List.range_succ, List.flatMap_append, List.length_append]; simp
  omega

theorem prM_leA (P : Nat → Nat → Bool) {n k m : Nat} (hn : n ≤ 4000) (hk : k ≤ 4000) (hm : m ≤ 4001) : (prM P n k m).length ≤ 17000000 := by
 have h1 := prTo_leA P hn k
 have h2 := prIn_le P k m
 rw [prM, List.length_append]
 omega

def hidB (x : Sgr) : Bool := x.arcs.any fun a => decide (a.sig = -1)

def twP (x : Sgr) (i k : Nat) : Bool := decide (0 ≤ (x.arcs.getD i default).sig ∧ (x.arcs.getD i default).src = (x.arcs.getD k default).src ∧ (x.arcs.getD i default).sig = (x.arcs.getD k default).sig ∧ ¬ (x.arcs.getD i default).dst = (x.arcs.getD k default).dst)

def twL (x : Sgr) : List (List Int) := prTo (twP x) x.arcs.length x.arcs.length

def pvQ (x : Sgr) (s n : Nat) : Bool := !decide ((x.arcs.getD n default).sig = (s : Int)) && (!excB x (x.arcs.getD n default).dst (s : Int) && !(inputB x (s : Int) && inputB x (x.arcs.getD n default).sig))

def pvP (x : Sgr) (k s n : Nat) : Bool := decide ((x.arcs.getD n default).src = (k : Int)) && pvQ x s n

def pvF (k s n : Nat) : Pvi := Pvi.mk (k : Int) (s : Int) (n : Int)

def pvI (x : Sgr) (k s m : Nat) : List Pvi := selTo m (pvP x k s) (pvF k s)

def pvS (x : Sgr) (k s : Nat) : List Pvi := if excB x (k : Int) (s : Int) then pvI x k s x.arcs.length else []

def pvK (x : Sgr) (k s : Nat) : List Pvi := (List.range s).flatMap (pvS x k)

def pvTo (x : Sgr) (k : Nat) : List Pvi := (List.range k).flatMap fun k => pvK x k x.sigs.length

def pvA (x : Sgr) (k s : Nat) : List Pvi := pvTo x k ++ pvK x k s

def pvC (x : Sgr) (k s m : Nat) : List Pvi := pvA x k s ++ pvI x k s m

def pvN (x : Sgr) (k s : Nat) (T : List Int) (m : Nat) : List Pvi := ((T.take m).filter fun i => pvQ x s i.toNat).map fun i => pvF k s i.toNat

def pvB (x : Sgr) (k s : Nat) (T : List Int) (m : Nat) : List Pvi := pvA x k s ++ pvN x k s T m

def pvL (x : Sgr) : List Pvi := pvTo x x.codes.length

theorem pvI_le (x : Sgr) (k s m : Nat) : (pvI x k s m).length ≤ m := selTo_le _ _ _

theorem pvK_le {x : Sgr} (hx : x.arcs.length ≤ 4000) (k : Nat) : ∀ s, (pvK x k s).length ≤ s * 4000
  | 0 => Nat.le_refl 0
  | s + 1 => by
    have h1 := pvK_le hx k s
    have e : (pvK x k (s + 1)).length = (pvK x k s).length + (pvS x k s).length := by
      unfold pvK; rw [List.range_succ, List.flatMap_append, List.length_append]; simp
    have h2 : (pvS x k s).length ≤ 4000 := by
      unfold pvS; split
      · exact Nat.le_trans (pvI_le _ _ _ _) hx
      · exact Nat.zero_le _
    omega

theorem pvTo_next (x : Sgr) (k : Nat) : pvTo x k ++ pvK x k x.sigs.length = pvTo x (k + 1) := by
 unfold pvTo; rw [List.range_succ, List.flatMap_append]; simp

theorem pvTo_le {x : Sgr} (hx : x.arcs.length ≤ 4000) (h8 : x.sigs.length ≤ 8) : ∀ k, (pvTo x k).length ≤ k * 32000
 | 0 => Nat.le_refl 0
 | k + 1 => by
  have h1 := pvTo_le hx h8 k
  have h2 := pvK_le hx k x.sigs.length
  rw [← pvTo_next, List.length_append]; omega

theorem pvA_le {x : Sgr} (hx : x.arcs.length ≤ 4000) (h8 : x.sigs.length ≤ 8) {k s : Nat} (hk : k ≤ 300) (hs : s ≤ 8) : (pvA x k s).length ≤ 10000000 := by
 have h1 := pvTo_le hx h8 k
 have h2 := pvK_le hx k s
 rw [pvA, List.length_append]; omega

theorem pvC_le {x : Sgr} (hx : x.arcs.length ≤ 4000) (h8 : x.sigs.length ≤ 8) {k s m : Nat} (hk : k ≤ 300) (hs : s ≤ 8) (hm : m ≤ 4000) : (pvC x k s m).length ≤ 11000000 := by
 have h1 := pvA_le hx h8 hk hs
 have h2 := pvI_le x k s m
 rw [pvC, List.length_append]; omega

theorem pvB_le {x : Sgr} (hx : x.arcs.length ≤ 4000) (h8 : x.sigs.length ≤ 8) {k s m : Nat} (hk : k ≤ 300) (hs : s ≤ 8) {T : List Int} (hm : T.length ≤ 4000) : (pvB x k s T m).length ≤ 11000000 := by
 have h1 := pvA_le hx h8 hk hs
 have h2 : (pvN x k s T m).length ≤ T.length := by
  unfold pvN
  rw [List.length_map]
  refine Nat.le_trans (List.length_filter_le _ _) ?_
  rw [List.length_take]; omega
 rw [pvB, List.length_append]; omega

theorem pvA_zero (x : Sgr) (k : Nat) : pvTo x k = pvA x k 0 := (List.append_nil _).symm

theorem pvA_end {x : Sgr} {k s : Nat} (h : s = x.sigs.length) : pvA x k s = pvTo x (k + 1) := by rw [h, ← pvTo_next]; rfl

theorem pvK_next (x : Sgr) (k s : Nat) : pvK x k s ++ pvS x k s = pvK x k (s + 1) := by
 unfold pvK; rw [List.range_succ, List.flatMap_append]; simp

theorem pvA_no {x : Sgr} {k s : Nat} (h : excB x (k : Int) (s : Int) = false) : pvA x k s = pvA x k (s + 1) := by
 rw [pvA, pvA, ← pvK_next, pvS, h]; simp

theorem pvA_yes {x : Sgr} {k s : Nat} (h : excB x (k : Int) (s : Int) = true) : pvC x k s x.arcs.length = pvA x k (s + 1) := by
 rw [pvC, pvA, pvA, ← pvK_next, pvS, h, if_pos rfl, List.append_assoc]

theorem pvC_zero (x : Sgr) (k s : Nat) : pvA x k s = pvC x k s 0 := (List.append_nil _).symm

theorem pvC_end {x : Sgr} {k s m : Nat} (h : excB x (k : Int) (s : Int) = true) (hm : m = x.arcs.length) : pvC x k s m = pvA x k (s + 1) := by rw [hm, pvA_yes h]

theorem pvC_yes {x : Sgr} {k s m : Nat} (h : pvP x k s m = true) : pvC x k s m ++ [Pvi.mk (k : Int) (s : Int) (m : Int)] = pvC x k s (m + 1) := by
 rw [pvC, pvC, List.append_assoc]
 congr 1
 exact selTo_yes (f := pvF k s) h

theorem pvC_no {x : Sgr} {k s m : Nat} (h : pvP x k s m = false) : pvC x k s m = pvC x k s (m + 1) := by
 rw [pvC, pvC]
 congr 1
 exact selTo_no h

theorem pvB_zero (x : Sgr) (k s : Nat) (T : List Int) : pvA x k s = pvB x k s T 0 := (List.append_nil _).symm

theorem pvB_yes {x : Sgr} {k s m : Nat} {T : List Int} (hm : m < T.length) (h0 : 0 ≤ T.getD m default) (h : pvQ x s (T.getD m default).toNat = true) : pvB x k s T m ++ [Pvi.mk (k : Int) (s : Int) (T.getD m default)] = pvB x k s T (m + 1) := by
 have hg : T.getD m default = T[m] := by simp [hm]
 rw [hg] at h h0 ⊢
 rw [pvB, pvB, List.append_assoc]
 congr 1
 unfold pvN
 rw [List.take_succ_eq_append_getElem hm, List.filter_append, List.map_append]
 congr 1
 rw [List.filter_cons, h]
 show _ = [pvF k s T[m].toNat]
 unfold pvF
 rw [show (T[m].toNat : Int) = T[m] by omega]

theorem pvB_no {x : Sgr} {k s m : Nat} {T : List Int} (hm : m < T.length) (h : pvQ x s (T.getD m default).toNat = false) : pvB x k s T m = pvB x k s T (m + 1) := by
 have hg : T.getD m default = T[m] := by simp [hm]
 rw [hg] at h
 rw [pvB, pvB]
 congr 1
 unfold pvN
 rw [List.take_succ_eq_append_getElem hm, List.filter_append, List.map_append, List.filter_cons, h]
 simp

theorem nx_eq {x : Sgr} (hen : ends x.codes.length x.arcs) {j : Nat} (hj : j < x.codes.length) : ∀ m, m ≤ x.arcs.length → (nxTo x m).getD j default = selTo m (fun i => decide ((x.arcs.getD i default).src = (j : Int))) (fun i => (i : Int))
  | 0, _ => by
    unfold nxTo selTo
    simp [hj]
  | m + 1, hm => by
    have he := hen _ (getD_mem (l := x.arcs) (j := m) (d := default) (by omega))
    rw [nxTo, getD_set, nxTo_len]
    by_cases h : (x.arcs.getD m default).src = (j : Int)
    · rw [if_pos ⟨by omega, he.1.2⟩, ← selTo_yes (f := fun i : Nat => (i : Int)) (decide_eq_true h), show (x.arcs.getD m default).src.toNat = j by omega, nx_eq hen hj m (by omega)]
    · rw [if_neg (fun e => h (by omega)), ← selTo_no (decide_eq_false h), nx_eq hen hj m (by omega)]

theorem pvN_end {x : Sgr} (hx : SgOk x) {k s m : Nat} (hk : k < x.codes.length) {T : List Int} (hT : T = (nxTo x x.arcs.length).getD k default) (hm : T.length ≤ m) : pvN x k s T m = pvI x k s x.arcs.length := by
 unfold pvN
 rw [List.take_of_length_le hm, hT, nx_eq hx.ends hk _ (Nat.le_refl _), selTo_filter, pvI]
 unfold selTo
 rw [List.map_map]
 rfl

theorem pvB_end {x : Sgr} (hx : SgOk x) {k s m : Nat} (hk : k < x.codes.length) (h : excB x (k : Int) (s : Int) = true) (hm : ((nxTo x x.arcs.length).getD k default).length ≤ m) : pvB x k s ((nxTo x x.arcs.length).getD k default) m = pvA x k (s + 1) := by
 rw [pvB, pvN_end hx hk rfl hm, ← pvA_yes h]; rfl

theorem two_nat {x : Sgr} (hx : SgOk x) {k s : Nat} (hk : k < x.codes.length) : decide (((two ((masksL x).getD k default) (2 * (s : Int)).toNat : Nat) : Int) = 0) = !excB x (k : Int) (s : Int) := two_exc (k := (k : Int)) (s := (s : Int)) hx (by omega) ⟨by omega, hk⟩

theorem two_n0 {x : Sgr} (hx : SgOk x) {k s : Nat} (hk : k < x.codes.length) (h : ((two ((masksL x).getD k default) (2 * (s : Int)).toNat : Nat) : Int) = 0) : excB x (k : Int) (s : Int) = false := by
  have := two_nat hx (s := s) hk
  rw [decide_eq_true h] at this
  cases he : excB x (k : Int) (s : Int)
  · rfl
  · rw [he] at this; cases this

theorem two_n1 {x : Sgr} (hx : SgOk x) {k s : Nat} (hk : k < x.codes.length) (h : ¬ ((two ((masksL x).getD k default) (2 * (s : Int)).toNat : Nat) : Int) = 0) : excB x (k : Int) (s : Int) = true := by
  have := two_nat hx (s := s) hk
  rw [decide_eq_false h] at this
  cases he : excB x (k : Int) (s : Int)
  · rw [he] at this; cases this
  · rfl

theorem two_i0 {x : Sgr} (hx : SgOk x) {k : Int} {s : Nat} (hk : 0 ≤ k ∧ k.toNat < x.codes.length) (h : ((two ((masksL x).getD k.toNat default) (2 * (s : Int)).toNat : Nat) : Int) = 0) : excB x k (s : Int) = false := by
 have := two_n0 hx (s := s) hk.2 h
 rwa [show (k.toNat : Int) = k by omega] at this

theorem two_i1 {x : Sgr} (hx : SgOk x) {k : Int} {s : Nat} (hk : 0 ≤ k ∧ k.toNat < x.codes.length) (h : ¬ ((two ((masksL x).getD k.toNat default) (2 * (s : Int)).toNat : Nat) : Int) = 0) : excB x k (s : Int) = true := by
 have := two_n1 hx (s := s) hk.2 h
 rwa [show (k.toNat : Int) = k by omega] at this

theorem pvQ_yes {x : Sgr} {s n : Nat} (h1 : ¬ (x.arcs.getD n default).sig = (s : Int)) (h2 : excB x (x.arcs.getD n default).dst (s : Int) = false) (h3 : inputB x (s : Int) = false ∨ inputB x (x.arcs.getD n default).sig = false) : pvQ x s n = true := by
  unfold pvQ
  rw [decide_eq_false h1, h2]
  rcases h3 with h3 | h3 <;> rw [h3] <;> simp

theorem pvQ_no1 {x : Sgr} {s n : Nat} (h1 : (x.arcs.getD n default).sig = (s : Int)) : pvQ x s n = false := by rw [pvQ, decide_eq_true h1]; rfl

theorem pvQ_no2 {x : Sgr} {s n : Nat} (h2 : excB x (x.arcs.getD n default).dst (s : Int) = true) : pvQ x s n = false := by rw [pvQ, h2]; simp

theorem pvQ_no3 {x : Sgr} {s n : Nat} (h3 : inputB x (s : Int) = true) (h4 : inputB x (x.arcs.getD n default).sig = true) : pvQ x s n = false := by rw [pvQ, h3, h4]; simp

theorem pvP_no {x : Sgr} {k s n : Nat} (h : ¬ (x.arcs.getD n default).src = (k : Int)) : pvP x k s n = false := by rw [pvP, decide_eq_false h]; rfl

theorem pvP_of {x : Sgr} {k s n : Nat} {b : Bool} (h : (x.arcs.getD n default).src = (k : Int)) (h2 : pvQ x s n = b) : pvP x k s n = b := by rw [pvP, decide_eq_true h, h2]; rfl

def unB (x : Sgr) (pr : List Int) : Bool := (outsL x.sigs).any fun s => !decide (excB x (pr.getD 0 default) s = excB x (pr.getD 1 default) s)

def unM (x : Sgr) (pr : List Int) (m : Nat) : Bool := ((outsL x.sigs).take m).any fun s => !decide (excB x (pr.getD 0 default) s = excB x (pr.getD 1 default) s)

theorem unM_succ {x : Sgr} {pr : List Int} {m : Nat} (hm : m < (outsL x.sigs).length) : unM x pr (m + 1) = (unM x pr m || !decide (excB x (pr.getD 0 default) ((outsL x.sigs).getD m default) = excB x (pr.getD 1 default) ((outsL x.sigs).getD m default))) := by
 have hg : (outsL x.sigs).getD m default = (outsL x.sigs)[m] := by simp [hm]
 unfold unM
 rw [hg, List.take_succ_eq_append_getElem hm, List.any_append]
 simp

theorem unM_all {x : Sgr} {pr : List Int} {m : Nat} (hm : (outsL x.sigs).length ≤ m) : unM x pr m = unB x pr := by rw [unM, List.take_of_length_le hm]; rfl

def prA (x : Sgr) : List (List Int) := prTo (eqP x) x.codes.length x.codes.length

def unK (x : Sgr) (k : Nat) : List (List Int) := ((prA x).take k).filter (unB x)

theorem unK_yes {x : Sgr} {k : Nat} (hk : k < (prA x).length) (h : unB x ((prA x).getD k default) = true) : unK x k ++ [(prA x).getD k default] = unK x (k + 1) := by
 have hg : (prA x).getD k default = (prA x)[k] := by simp [hk]
 rw [hg] at h ⊢
 rw [unK, unK, List.take_succ_eq_append_getElem hk, List.filter_append, List.filter_cons, h]; simp

theorem unK_no {x : Sgr} {k : Nat} (hk : k < (prA x).length) (h : unB x ((prA x).getD k default) = false) : unK x k = unK x (k + 1) := by
 have hg : (prA x).getD k default = (prA x)[k] := by simp [hk]
 rw [hg] at h
 rw [unK, unK, List.take_succ_eq_append_getElem hk, List.filter_append, List.filter_cons, h]; simp

theorem unK_le (x : Sgr) (k : Nat) : (unK x k).length ≤ k := by
 unfold unK
 refine Nat.le_trans (List.length_filter_le _ _) ?_
 rw [List.length_take]; omega

theorem unB_eq (x : Sgr) (u : List Int) : unB x u = (!(fun pr => !(outsL x.sigs).any (cfS x pr)) u) := by
  dsimp only
  rw [Bool.not_not]
  unfold unB
  congr 1
  funext s
  unfold cfS
  cases excB x (u.getD 0 default) s <;> cases excB x (u.getD 1 default) s <;> rfl

theorem unK_all {x : Sgr} {k : Nat} (hk : (prA x).length ≤ k) : unK x k = cfL x := by
 rw [unK, List.take_of_length_le hk, ← cf_filter]
 apply List.filter_congr
 intro u _
 exact unB_eq x u

def whyW (x : Sgr) : List UInt8 := if hidB x then [104, 105, 100, 100, 101, 110] else if 0 < (twL x).length then [116, 119, 111, 32, 119, 97, 121, 115] else if 0 < (pvL x).length then [98, 114, 101, 97, 107] else if 0 < (cfL x).length then [99, 111, 110, 102, 108, 105, 99, 116] else [109, 97, 100, 101]

def madeB (x : Sgr) : Bool := sgB x && decide (whyW x = [109, 97, 100, 101])

theorem why_hid {x : Sgr} (h : hidB x = true) : whyW x = [104, 105, 100, 100, 101, 110] := by rw [whyW, if_pos h]

theorem why_two {x : Sgr} (h : hidB x = false) (h1 : (0 : Int) < ((twL x).length : Int)) : whyW x = [116, 119, 111, 32, 119, 97, 121, 115] := by rw [whyW, if_neg (by rw [h]; decide), if_pos (by omega)]

theorem why_brk {x : Sgr} (h : hidB x = false) (h1 : ¬ (0 : Int) < ((twL x).length : Int)) (h2 : (0 : Int) < ((pvL x).length : Int)) : whyW x = [98, 114, 101, 97, 107] := by rw [whyW, if_neg (by rw [h]; decide), if_neg (by omega), if_pos (by omega)]

theorem why_cf {x : Sgr} (h : hidB x = false) (h1 : ¬ (0 : Int) < ((twL x).length : Int)) (h2 : ¬ (0 : Int) < ((pvL x).length : Int)) (h3 : (0 : Int) < ((cfL x).length : Int)) : whyW x = [99, 111, 110, 102, 108, 105, 99, 116] := by rw [whyW, if_neg (by rw [h]; decide), if_neg (by omega), if_neg (by omega), if_pos (by omega)]

theorem why_made {x : Sgr} (h : hidB x = false) (h1 : ¬ (0 : Int) < ((twL x).length : Int)) (h2 : ¬ (0 : Int) < ((pvL x).length : Int)) (h3 : ¬ (0 : Int) < ((cfL x).length : Int)) : whyW x = [109, 97, 100, 101] := by rw [whyW, if_neg (by rw [h]; decide), if_neg (by omega), if_neg (by omega), if_neg (by omega)]

theorem sp_impl_isInput (x : Sgr) (sig : Int) (hb : x.bulk ≤ 1048576) (hs : sig < x.sigs.length) : Sp Tryz.prog 298 [(.agg [(.slice false 2 (x.sigs.map Sgn.d)), (.slice false 1 (x.codes.map D.str)), (.slice false 4 (x.arcs.map Arc.d))]), (.int .i64 sig)] [.any, .any] (.bool (inputB x sig)) := by
 refine Sp_intro (lend := true) Tryz.func298 rfl rfl rfl (fun _ => rfl) (fun c hc hX => ?_)
 obtain ⟨hp0, hp1, hp2⟩ := Sgr.parts hb
 have hn0 := bulkF_len hp0
 have hn1 := bulk_len hp1
 have hx1 := bulk_mem hp1
 have hn2 := bulkF_len hp2
 refine Ts hc (Ch.s (.ptr 2000 0) (.box 2000 _ _ rfl (.aggD _)) (Ch.s (dB false) pa (Ch.nil (Ts hc (Ch.s (dI sig) pm ?_)))))
 refine Ch.s (dB (decide (0 ≤ sig))) (iX rfl rfl rfl) (Ch.s (dB (decide (0 ≤ sig))) pm ?_)
 cases h1 : (decide (0 ≤ sig)) with
 | true =>
  replace h1 := odt h1
  refine Ch.s (.ptr 2000 0) (fP fld35_0 rfl) (Ch.s (.d (.slice false 2 (x.sigs.map Sgn.d))) (lP ag32 rfl rfl rfl) (Ch.s (dI sig) pm (Ch.s (.d (.ref (.agg [(.str ((x.sigs.getD ((sig).toNat) default).name)), (.int .i64 ((x.sigs.getD ((sig).toNat) default).kind))]))) (.pure (.idx _ _ _ 154 ((sig).toNat) rfl Tryz.underlying32 sz154 rfl rfl (by omega) get_mapA)) (Ch.s (.d (.ref (.int .i64 ((x.sigs.getD ((sig).toNat) default).kind)))) (.pure (.fldRef _ _ _ rfl fld154_1 rfl rfl rfl)) (Ch.s (dI ((x.sigs.getD ((sig).toNat) default).kind)) (rF ag3 rfl rfl) (Ch.s (dB (decide (((x.sigs.getD ((sig).toNat) default).kind) = 1))) (iX rfl rfl rfl) (Ch.s (dB (decide (((x.sigs.getD ((sig).toNat) default).kind) = 1))) (pT rfl) ?_)))))))
  refine Ch.s (dB (decide (((x.sigs.getD ((sig).toNat) default).kind) = 1))) pa (Ch.nil (T_ret ?_))
  exact eR [(dB (decide (((x.sigs.getD ((sig).toNat) default).kind) = 1)))] [] [] (.cons (.tmp 4 rfl) .nil) eB (Exp.of (congrArg D.bool a95) (.d _))
 | false =>
  replace h1 := odf h1
  refine Ck (Ck (Ck (Ck (Ck (Ck (Ck (Ch.s (dB false) (pF rfl) ?_)))))))
  refine Ch.s (dB false) pa (Ch.nil (T_ret ?_))
  exact eR [(dB false)] [] [] (.cons (.tmp 4 rfl) .nil) eB (Exp.of (congrArg D.bool a95) (.d _))

set_option maxHeartbeats 1000000 in
theorem sp_impl_twoWays (x : Sgr) (hb : x.bulk ≤ 1048576) (hx : SgOk x) : Sp Tryz.prog 282 [(.agg [(.slice false 2 (x.sigs.map Sgn.d)), (.slice false 1 (x.codes.map D.str)), (.slice false 4 (x.arcs.map Arc.d))])] [.any] (.slice true 1 ((twL x).map intsU)) := by
 refine Sp_intro (lend := true) Tryz.func282 rfl rfl rfl (fun _ => rfl) (fun c hc hX => ?_)
 obtain ⟨hp0, hp1, hp2⟩ := Sgr.parts hb
 have hn0 := bulkF_len hp0
 have hn1 := bulk_len hp1
 have hx1 := bulk_mem hp1
 have hn2 := bulkF_len hp2; have hx8 := hx.eight; have hxl := hx.len; have hxf := hx.few; have hen := hx.ends
 refine Ts hc (Ch.s (.ptr 1000 0) (.box 1000 _ _ rfl (.aggD _)) (Ch.s (.c (.slice none 0 0)) pa (Ch.nil (Ts hc (Ch.s (.row 8000) (.slice 8000 _ 55 _ rfl sty49 (xs := []) rfl rfl .nil rfl rfl (by decide)) ?_)))))
 refine Ch.s (.row 8000) pa (Ch.nil (Tq (Ts hc (Ch.s (.ptr 1000 2) (fP fld35_2 rfl) (Ch.s (.d (.slice false 4 (x.arcs.map Arc.d))) (lP ag33 rfl rfl rfl) (Ch.s (dI (x.arcs.length : Int)) (.pure (.len _ _ 125 rfl Tryz.underlying33 (.sh _ _) (by simp))) ?_))))))
 refine Ch.s (dI 0) pm (Ch.nil (Tb ?_))
 refine T_loop (ι := Nat) (fun k => { n := 63, sl := [(1, (.ptr 1000 0)), (3, (.row 3)), (10, (.d (.slice false 4 (x.arcs.map Arc.d)))), (11, (dI (x.arcs.length : Int))), (12, (dI (k : Int)))], hp := [(3, (some (.row 1 ((prTo (twP x) x.arcs.length k).map intsU)))), (1000, (some (.box (vX x))))], pin := [] }) (fun k => k ≤ x.arcs.length) (fun k => x.arcs.length - k) ⟨0, (by omega), (Wk.ren [(3, 8000)] rfl rfl rfl rfl (ar (ar (ar (ar (ai (vI a126) trivial))))) (ai (oR a121) (ar trivial)))⟩ (fun k hp0 => ?_)
 refine Ts hc (Ch.s (dB (decide ((k : Int) < (x.arcs.length : Int)))) (iX rfl rfl rfl) (Ch.nil (Tq ?_)))
 refine T_condD (p := ((k : Int) < (x.arcs.length : Int))) rfl (fun h1 => ?_) (fun h1 => ?_)
 ·
  try have hsk := (hx.sig _ (getD_mem (l := x.arcs) (j := k) (d := default) (by omega))).2
  refine Tk (Tq (Tb (Ts hc (Ch.s (dI (k : Int)) pm (Ch.s (.d (.ref (.agg [(.int .i64 ((x.arcs.getD k default).src)), (.int .i64 ((x.arcs.getD k default).sig)), (.bool ((x.arcs.getD k default).up)), (.int .i64 ((x.arcs.getD k default).dst))]))) (.pure (.idx _ _ _ 125 (k) rfl Tryz.underlying33 sz125 rfl rfl rfl get_mapA)) (Ch.s (.d (.agg [(.int .i64 ((x.arcs.getD k default).src)), (.int .i64 ((x.arcs.getD k default).sig)), (.bool ((x.arcs.getD k default).up)), (.int .i64 ((x.arcs.getD k default).dst))])) (.pure (.loadRefA _ _ rfl ag125 sz125 rfl)) ?_))))))
  refine Ch.s (.ptr 5000 0) (.alloc 5000 _ rfl zer125) (Ch.s (dI (k : Int)) pa (Ch.s .junk (.storePtr _ _ _ rfl rfl rfl (.aggD _) sz125 (lb rfl)) (Ch.nil (Ts hc (Ch.s (dI (k : Int)) pm (Ch.s (dI ((k : Int) + 1)) (iX rfl rfl intV_addA) ?_))))))
  refine Ch.s (dI ((k : Int) + 1)) pa (Ch.nil (Tb ?_))
  refine T_loop (ι := Nat) (fun m => { n := 63, sl := [(1, (.ptr 1000 0)), (3, (.row 3)), (4, (dI (k : Int))), (5, (.ptr 5000 0)), (6, (dI (m : Int))), (10, (.d (.slice false 4 (x.arcs.map Arc.d)))), (11, (dI (x.arcs.length : Int))), (12, (dI (k : Int)))], hp := [(3, (some (.row 1 ((prM (twP x) x.arcs.length k m).map intsU)))), (1000, (some (.box (vX x)))), (5000, (some (.box [(dI ((x.arcs.getD k default).src)), (dI ((x.arcs.getD k default).sig)), (dB ((x.arcs.getD k default).up)), (dI ((x.arcs.getD k default).dst))])))], pin := [] }) (fun m => k < m ∧ m ≤ x.arcs.length) (fun m => x.arcs.length - m) ⟨k + 1, ⟨by omega, by omega⟩, (Wk.of rfl rfl (ar (ar (ar (ar (ai (vI a126) (ar (ar (ar trivial)))))))) (ai (oR a42) (ar (ar trivial))))⟩ (fun m hp1 => ?_)
  have hq := prM_leA (twP x) (n := x.arcs.length) (k := k) (m := m) (by omega) (by omega) (by omega)
  refine Tq (Ts hc (Ch.s (dI (m : Int)) pm (Ch.s (.ptr 1000 2) (fP fld35_2 rfl) (Ch.s (.d (.slice false 4 (x.arcs.map Arc.d))) (lP ag33 rfl rfl rfl) (Ch.s (dI (x.arcs.length : Int)) (.pure (.len _ _ 125 rfl Tryz.underlying33 (.sh _ _) (by simp))) (Ch.s (dB (decide ((m : Int) < (x.arcs.length : Int)))) (iX rfl rfl rfl) ?_))))))
  refine Ch.nil ?_
  refine T_condD (p := ((m : Int) < (x.arcs.length : Int))) rfl (fun h2 => ?_) (fun h2 => ?_)
  ·
   refine Tk (Tq (Tb (Ts hc (Ch.s (.ptr 1000 2) (fP fld35_2 rfl) (Ch.s (.d (.slice false 4 (x.arcs.map Arc.d))) (lP ag33 rfl rfl rfl) (Ch.s (dI (m : Int)) pm ?_))))))
   refine Ch.s (.d (.ref (.agg [(.int .i64 ((x.arcs.getD m default).src)), (.int .i64 ((x.arcs.getD m default).sig)), (.bool ((x.arcs.getD m default).up)), (.int .i64 ((x.arcs.getD m default).dst))]))) (.pure (.idx _ _ _ 125 (m) rfl Tryz.underlying33 sz125 rfl rfl rfl get_mapA)) (Ch.s (.d (.agg [(.int .i64 ((x.arcs.getD m default).src)), (.int .i64 ((x.arcs.getD m default).sig)), (.bool ((x.arcs.getD m default).up)), (.int .i64 ((x.arcs.getD m default).dst))])) (.pure (.loadRefA _ _ rfl ag125 sz125 rfl)) (Ch.s (.ptr 7000 0) (.alloc 7000 _ rfl zer125) (Ch.s .junk (.storePtr _ _ _ rfl rfl rfl (.aggD _) sz125 (lb rfl)) (Ch.nil (Ts hc (Ch.s (.ptr 5000 1) (fP fld125_1 rfl) ?_))))))
   refine Ch.s (dI ((x.arcs.getD k default).sig)) (lP ag3 rfl rfl rfl) (Ch.s (dB (!(decide (((x.arcs.getD k default).sig) = (-1))))) (iX rfl rfl rfl) (Ch.s (dB (!(decide (((x.arcs.getD k default).sig) = (-1))))) pm ?_))
   cases h3 : (decide (((x.arcs.getD k default).sig) = (-1))) with
   | true =>
    replace h3 := odt h3
    refine Ck (Ck (Ck (Ck (Ck (Ch.s (dB false) (pF rfl) (Ch.s (dB false) pm (Ch.skip rfl rfl ?_)))))))
    refine Ck (Ck (Ck (Ck (Ch.s (dB false) (pF rfl) (Ch.s (dB false) pm (Ck (Ch.skip rfl rfl ?_)))))))
    refine Ck (Ck (Ck (Ch.s (dB false) (pF rfl) (Ch.nil ?_))))
    refine T_cond (b := false) rfl (fun h => nomatch h) (fun _ => ?_)
    refine Tk (Tz hc (Ch.s (dI (m : Int)) pm (Ch.s (dI ((m : Int) + 1)) (iX rfl rfl intV_addA) (Ch.s (dI ((m : Int) + 1)) pa (Ch.nil ?_)))))
    exact nx (m + 1) ⟨by omega, by omega⟩ (Wk.of rfl rfl (ar (ar (ar (ar (ai (vI a126) (ar (ar (ar trivial)))))))) (ai (oR a42) (ar (ar trivial))))
   | false =>
    replace h3 := odf h3
    refine Ch.s (.ptr 7000 0) (fP fld125_0 rfl) (Ch.s (dI ((x.arcs.getD m default).src)) (lP ag3 rfl rfl rfl) (Ch.s (.ptr 5000 0) (fP fld125_0 rfl) (Ch.s (dI ((x.arcs.getD k default).src)) (lP ag3 rfl rfl rfl) (Ch.s (dB (decide (((x.arcs.getD m default).src) = ((x.arcs.getD k default).src)))) (iX rfl rfl rfl) (Ch.s (dB (decide (((x.arcs.getD m default).src) = ((x.arcs.getD k default).src)))) (pT rfl) (Ch.s (dB (decide (((x.arcs.getD m default).src) = ((x.arcs.getD k default).src)))) pm ?_))))))
    cases h4 : (decide (((x.arcs.getD m default).src) = ((x.arcs.getD k default).src))) with
    | true =>
     replace h4 := odt h4
     refine Ch.s (.ptr 7000 1) (fP fld125_1 rfl) (Ch.s (dI ((x.arcs.getD m default).sig)) (lP ag3 rfl rfl rfl) (Ch.s (.ptr 5000 1) (fP fld125_1 rfl) (Ch.s (dI ((x.arcs.getD k default).sig)) (lP ag3 rfl rfl rfl) (Ch.s (dB (decide (((x.arcs.getD m default).sig) = ((x.arcs.getD k default).sig)))) (iX rfl rfl rfl) (Ch.s (dB (decide (((x.arcs.getD m default).sig) = ((x.arcs.getD k default).sig)))) (pT rfl) (Ch.s (dB (decide (((x.arcs.getD m default).sig) = ((x.arcs.getD k default).sig)))) pm ?_))))))
     cases h5 : (decide (((x.arcs.getD m default).sig) = ((x.arcs.getD k default).sig))) with
     | true =>
      replace h5 := odt h5
      refine Ch.s (.ptr 7000 3) (fP fld125_3 rfl) (Ch.s (dI ((x.arcs.getD m default).dst)) (lP ag3 rfl rfl rfl) (Ch.s (.ptr 5000 3) (fP fld125_3 rfl) (Ch.s (dI ((x.arcs.getD k default).dst)) (lP ag3 rfl rfl rfl) (Ch.s (dB (!(decide (((x.arcs.getD m default).dst) = ((x.arcs.getD k default).dst))))) (iX rfl rfl rfl) (Ch.s (dB (!(decide (((x.arcs.getD m default).dst) = ((x.arcs.getD k default).dst))))) (pT rfl) (Ch.nil ?_))))))
      refine T_condN (b := (decide (((x.arcs.getD m default).dst) = ((x.arcs.getD k default).dst)))) rfl (fun h6 => ?_) (fun h6 => ?_)
      ·
       replace h6 := odf h6
       refine Tz hc (Ch.s (.row 3) pm (Ch.s (dI (k : Int)) pm (Ch.s (dI (m : Int)) pm (Ch.s (.row 58000) (.slice 58000 _ 3 _ rfl sty55 (xs := [.tmp 56, .tmp 57]) rfl rfl (.cons (.d _) (.cons (.d _) .nil)) rfl rfl (by decide)) (Ch.s (.row 59000) (.slice 59000 _ 55 _ rfl sty49 (xs := [.tmp 58]) rfl rfl (.cons (.row rfl) .nil) rfl rfl (by decide)) ?_)))))
       refine Ch.step (v := (.row 60000)) rfl (.append 60000 _ _ _ 55 rfl sty49 (by decide) (.rowK rfl) (.inr ⟨_, rfl, rfl⟩) (.rowK rfl) rfl a69) rfl rfl ?_
       refine Ch.s (.row 60000) pa (Ch.nil (Tz hc (Ch.s (dI (m : Int)) pm (Ch.s (dI ((m : Int) + 1)) (iX rfl rfl intV_addA) (Ch.s (dI ((m : Int) + 1)) pa (Ch.nil ?_))))))
       exact nx (m + 1) ⟨by omega, by omega⟩ (Wk.ren [(3, 60000)] rfl rfl rfl rfl (ar (ar (ar (ar (ai (vI a126) (ar (ar (ar trivial)))))))) (ai (oR a42) (ar (ar trivial))))
      ·
       replace h6 := odt h6
       refine Tk (Tz hc (Ch.s (dI (m : Int)) pm (Ch.s (dI ((m : Int) + 1)) (iX rfl rfl intV_addA) (Ch.s (dI ((m : Int) + 1)) pa (Ch.nil ?_)))))
       exact nx (m + 1) ⟨by omega, by omega⟩ (Wk.of rfl rfl (ar (ar (ar (ar (ai (vI a126) (ar (ar (ar trivial)))))))) (ai (oR a42) (ar (ar trivial))))
     | false =>
      replace h5 := odf h5
      refine Ck (Ck (Ck (Ck (Ck (Ch.s (dB false) (pF rfl) (Ch.nil ?_))))))
      refine T_cond (b := false) rfl (fun h => nomatch h) (fun _ => ?_)
      refine Tk (Tz hc (Ch.s (dI (m : Int)) pm (Ch.s (dI ((m : Int) + 1)) (iX rfl rfl intV_addA) (Ch.s (dI ((m : Int) + 1)) pa (Ch.nil ?_)))))
      exact nx (m + 1) ⟨by omega, by omega⟩ (Wk.of rfl rfl (ar (ar (ar (ar (ai (vI a126) (ar (ar (ar trivial)))))))) (ai (oR a42) (ar (ar trivial))))
    | false =>
     replace h4 := odf h4
     refine Ck (Ck (Ck (Ck (Ck (Ch.s (dB false) (pF rfl) (Ch.s (dB false) pm (Ch.skip rfl rfl ?_)))))))
     refine Ck (Ck (Ck (Ck (Ch.s (dB false) (pF rfl) (Ch.nil ?_)))))
     refine T_cond (b := false) rfl (fun h => nomatch h) (fun _ => ?_)
     refine Tk (Tz hc (Ch.s (dI (m : Int)) pm (Ch.s (dI ((m : Int) + 1)) (iX rfl rfl intV_addA) (Ch.s (dI ((m : Int) + 1)) pa (Ch.nil ?_)))))
     exact nx (m + 1) ⟨by omega, by omega⟩ (Wk.of rfl rfl (ar (ar (ar (ar (ai (vI a126) (ar (ar (ar trivial)))))))) (ai (oR a42) (ar (ar trivial))))
  ·
   refine T_exit (Tz hc (Ch.s (dI ((k : Int) + 1)) (iX rfl rfl intV_addA) (Ch.s (dI ((k : Int) + 1)) pm (Ch.nil ?_))))
   exact nx (k + 1) (by omega) (Wk.of rfl rfl (ar (ar (ar (ar (ai (vI a126) trivial))))) (ai (oR a121) (ar trivial)))
 ·
  try have hsk := (hx.sig _ (getD_mem (l := x.arcs) (j := k) (d := default) (by omega))).2
  refine T_exit (Ts hc (Ch.s (.row 3) pm (Ch.s (.row 3) pa (Ch.nil (T_ret ?_)))))
  exact eR [(.row 3)] [] [3] (.cons (.tmp 2 rfl) .nil) eA (Exp.of (congrArg (D.slice true 1) (by rw [twL, show x.arcs.length = k by omega])) (.row rfl))

set_option maxHeartbeats 1000000 in
theorem sp_spec_l6Ways (x : Sgr) (hb : x.bulk ≤ 1048576) (hx : SgOk x) : Sp Tryz.prog 167 [(.agg [(.slice false 2 (x.sigs.map Sgn.d)), (.slice false 1 (x.codes.map D.str)), (.slice false 4 (x.arcs.map Arc.d))])] [.any] (.slice true 1 ((twL x).map intsU)) := by
 refine Sp_intro (lend := true) Tryz.func167 rfl rfl rfl (fun _ => rfl) (fun c hc hX => ?_)
 obtain ⟨hp0, hp1, hp2⟩ := Sgr.parts hb
 have hn0 := bulkF_len hp0
 have hn1 := bulk_len hp1
 have hx1 := bulk_mem hp1
 have hn2 := bulkF_len hp2; have hx8 := hx.eight; have hxl := hx.len; have hxf := hx.few; have hen := hx.ends
 refine Ts hc (Ch.s (.ptr 1000 0) (.box 1000 _ _ rfl (.aggD _)) (Ch.s (.c (.slice none 0 0)) pa (Ch.nil (Ts hc (Ch.s (.c (.slice none 0 0)) pa ?_)))))
 refine Ch.nil (Tq (Ts hc (Ch.s (.ptr 1000 2) (fP fld35_2 rfl) (Ch.s (.d (.slice false 4 (x.arcs.map Arc.d))) (lP ag33 rfl rfl rfl) (Ch.s (dI (x.arcs.length : Int)) (.pure (.len _ _ 125 rfl Tryz.underlying33 (.sh _ _) (by simp))) (Ch.s (dI 0) pm ?_))))))
 refine Ch.nil (Tb ?_)
 refine T_loop (ι := Nat) (fun k => { n := 62, sl := [(1, (.ptr 1000 0)), (3, (.row 3)), (9, (.d (.slice false 4 (x.arcs.map Arc.d)))), (10, (dI (x.arcs.length : Int))), (11, (dI (k : Int)))], hp := [(3, (some (.row 1 ((prTo (twP x) x.arcs.length k).map intsU)))), (1000, (some (.box (vX x))))], pin := [] }) (fun k => k ≤ x.arcs.length) (fun k => x.arcs.length - k) ⟨0, (by omega), (Wk.trans (Wk.nilrow 3 900003 1 rfl rfl rfl) (Wk.ren [(3, 900003)] rfl rfl rfl rfl (ar (ar (ar (ar (ai (vI a126) trivial))))) (ai (oR a121) (ar trivial))))⟩ (fun k hp0 => ?_)
 refine Ts hc (Ch.s (dB (decide ((k : Int) < (x.arcs.length : Int)))) (iX rfl rfl rfl) (Ch.nil (Tq ?_)))
 refine T_condD (p := ((k : Int) < (x.arcs.length : Int))) rfl (fun h1 => ?_) (fun h1 => ?_)
 ·
  try have hsk := (hx.sig _ (getD_mem (l := x.arcs) (j := k) (d := default) (by omega))).2
  refine Tk (Tq (Tb (Ts hc (Ch.s (dI (k : Int)) pm (Ch.s (.d (.ref (.agg [(.int .i64 ((x.arcs.getD k default).src)), (.int .i64 ((x.arcs.getD k default).sig)), (.bool ((x.arcs.getD k default).up)), (.int .i64 ((x.arcs.getD k default).dst))]))) (.pure (.idx _ _ _ 125 (k) rfl Tryz.underlying33 sz125 rfl rfl rfl get_mapA)) (Ch.s (.d (.agg [(.int .i64 ((x.arcs.getD k default).src)), (.int .i64 ((x.arcs.getD k default).sig)), (.bool ((x.arcs.getD k default).up)), (.int .i64 ((x.arcs.getD k default).dst))])) (.pure (.loadRefA _ _ rfl ag125 sz125 rfl)) ?_))))))
  refine Ch.s (.ptr 5000 0) (.alloc 5000 _ rfl zer125) (Ch.s (dI (k : Int)) pa (Ch.s .junk (.storePtr _ _ _ rfl rfl rfl (.aggD _) sz125 (lb rfl)) (Ch.nil (Ts hc (Ch.s (dI (k : Int)) pm (Ch.s (dI ((k : Int) + 1)) (iX rfl rfl intV_addA) ?_))))))
  refine Ch.s (dI ((k : Int) + 1)) pa (Ch.nil (Tb ?_))
  refine T_loop (ι := Nat) (fun m => { n := 62, sl := [(1, (.ptr 1000 0)), (3, (.row 3)), (4, (dI (k : Int))), (5, (.ptr 5000 0)), (6, (dI (m : Int))), (9, (.d (.slice false 4 (x.arcs.map Arc.d)))), (10, (dI (x.arcs.length : Int))), (11, (dI (k : Int)))], hp := [(3, (some (.row 1 ((prM (twP x) x.arcs.length k m).map intsU)))), (1000, (some (.box (vX x)))), (5000, (some (.box [(dI ((x.arcs.getD k default).src)), (dI ((x.arcs.getD k default).sig)), (dB ((x.arcs.getD k default).up)), (dI ((x.arcs.getD k default).dst))])))], pin := [] }) (fun m => k < m ∧ m ≤ x.arcs.length) (fun m => x.arcs.length - m) ⟨k + 1, ⟨by omega, by omega⟩, (Wk.of rfl rfl (ar (ar (ar (ar (ai (vI a126) (ar (ar (ar trivial)))))))) (ai (oR a42) (ar (ar trivial))))⟩ (fun m hp1 => ?_)
  have hq := prM_leA (twP x) (n := x.arcs.length) (k := k) (m := m) (by omega) (by omega) (by omega)
  refine Tq (Ts hc (Ch.s (dI (m : Int)) pm (Ch.s (.ptr 1000 2) (fP fld35_2 rfl) (Ch.s (.d (.slice false 4 (x.arcs.map Arc.d))) (lP ag33 rfl rfl rfl) (Ch.s (dI (x.arcs.length : Int)) (.pure (.len _ _ 125 rfl Tryz.underlying33 (.sh _ _) (by simp))) (Ch.s (dB (decide ((m : Int) < (x.arcs.length : Int)))) (iX rfl rfl rfl) ?_))))))
  refine Ch.nil ?_
  refine T_condD (p := ((m : Int) < (x.arcs.length : Int))) rfl (fun h2 => ?_) (fun h2 => ?_)
  ·
   refine Tk (Tq (Tb (Ts hc (Ch.s (.ptr 1000 2) (fP fld35_2 rfl) (Ch.s (.d (.slice false 4 (x.arcs.map Arc.d))) (lP ag33 rfl rfl rfl) (Ch.s (dI (m : Int)) pm ?_))))))
   refine Ch.s (.d (.ref (.agg [(.int .i64 ((x.arcs.getD m default).src)), (.int .i64 ((x.arcs.getD m default).sig)), (.bool ((x.arcs.getD m default).up)), (.int .i64 ((x.arcs.getD m default).dst))]))) (.pure (.idx _ _ _ 125 (m) rfl Tryz.underlying33 sz125 rfl rfl rfl get_mapA)) (Ch.s (.d (.agg [(.int .i64 ((x.arcs.getD m default).src)), (.int .i64 ((x.arcs.getD m default).sig)), (.bool ((x.arcs.getD m default).up)), (.int .i64 ((x.arcs.getD m default).dst))])) (.pure (.loadRefA _ _ rfl ag125 sz125 rfl)) (Ch.s (.ptr 7000 0) (.alloc 7000 _ rfl zer125) (Ch.s .junk (.storePtr _ _ _ rfl rfl rfl (.aggD _) sz125 (lb rfl)) (Ch.nil (Ts hc (Ch.s (.ptr 5000 0) (fP fld125_0 rfl) ?_))))))
   refine Ch.s (dI ((x.arcs.getD k default).src)) (lP ag3 rfl rfl rfl) (Ch.s (.ptr 7000 0) (fP fld125_0 rfl) (Ch.s (dI ((x.arcs.getD m default).src)) (lP ag3 rfl rfl rfl) (Ch.s (dB (decide (((x.arcs.getD k default).src) = ((x.arcs.getD m default).src)))) (iX rfl rfl rfl) (Ch.s (dB (decide (((x.arcs.getD k default).src) = ((x.arcs.getD m default).src)))) pm ?_))))
   cases h3 : (decide (((x.arcs.getD k default).src) = ((x.arcs.getD m default).src))) with
   | true =>
    replace h3 := odt h3
    refine Ch.s (.ptr 5000 1) (fP fld125_1 rfl) (Ch.s (dI ((x.arcs.getD k default).sig)) (lP ag3 rfl rfl rfl) (Ch.s (.ptr 7000 1) (fP fld125_1 rfl) (Ch.s (dI ((x.arcs.getD m default).sig)) (lP ag3 rfl rfl rfl) (Ch.s (dB (decide (((x.arcs.getD k default).sig) = ((x.arcs.getD m default).sig)))) (iX rfl rfl rfl) (Ch.s (dB (decide (((x.arcs.getD k default).sig) = ((x.arcs.getD m default).sig)))) (pT rfl) (Ch.s (dB (decide (((x.arcs.getD k default).sig) = ((x.arcs.getD m default).sig)))) pm ?_))))))
    cases h4 : (decide (((x.arcs.getD k default).sig) = ((x.arcs.getD m default).sig))) with
    | true =>
     replace h4 := odt h4
     refine Ch.s (.ptr 5000 1) (fP fld125_1 rfl) (Ch.s (dI ((x.arcs.getD k default).sig)) (lP ag3 rfl rfl rfl) (Ch.s (dB (decide (0 ≤ ((x.arcs.getD k default).sig)))) (iX rfl rfl rfl) (Ch.s (dB (decide (0 ≤ ((x.arcs.getD k default).sig)))) (pT rfl) (Ch.s (dB (decide (0 ≤ ((x.arcs.getD k default).sig)))) pm ?_))))
     cases h5 : (decide (0 ≤ ((x.arcs.getD k default).sig))) with
     | true =>
      replace h5 := odt h5
      refine Ch.s (.ptr 5000 3) (fP fld125_3 rfl) (Ch.s (dI ((x.arcs.getD k default).dst)) (lP ag3 rfl rfl rfl) (Ch.s (.ptr 7000 3) (fP fld125_3 rfl) (Ch.s (dI ((x.arcs.getD m default).dst)) (lP ag3 rfl rfl rfl) (Ch.s (dB (!(decide (((x.arcs.getD k default).dst) = ((x.arcs.getD m default).dst))))) (iX rfl rfl rfl) (Ch.s (dB (!(decide (((x.arcs.getD k default).dst) = ((x.arcs.getD m default).dst))))) (pT rfl) (Ch.nil ?_))))))
      refine T_condN (b := (decide (((x.arcs.getD k default).dst) = ((x.arcs.getD m default).dst)))) rfl (fun h6 => ?_) (fun h6 => ?_)
      ·
       replace h6 := odf h6
       refine Tz hc (Ch.s (.row 3) pm (Ch.s (dI (k : Int)) pm (Ch.s (dI (m : Int)) pm (Ch.s (.row 57000) (.slice 57000 _ 3 _ rfl sty55 (xs := [.tmp 55, .tmp 56]) rfl rfl (.cons (.d _) (.cons (.d _) .nil)) rfl rfl (by decide)) (Ch.s (.row 58000) (.slice 58000 _ 55 _ rfl sty49 (xs := [.tmp 57]) rfl rfl (.cons (.row rfl) .nil) rfl rfl (by decide)) ?_)))))
       refine Ch.step (v := (.row 59000)) rfl (.append 59000 _ _ _ 55 rfl sty49 (by decide) (.rowK rfl) (.inr ⟨_, rfl, rfl⟩) (.rowK rfl) rfl a69) rfl rfl ?_
       refine Ch.s (.row 59000) pa (Ch.nil (Tz hc (Ch.s (dI (m : Int)) pm (Ch.s (dI ((m : Int) + 1)) (iX rfl rfl intV_addA) (Ch.s (dI ((m : Int) + 1)) pa (Ch.nil ?_))))))
       exact nx (m + 1) ⟨by omega, by omega⟩ (Wk.ren [(3, 59000)] rfl rfl rfl rfl (ar (ar (ar (ar (ai (vI a126) (ar (ar (ar trivial)))))))) (ai (oR a42) (ar (ar trivial))))
      ·
       replace h6 := odt h6
       refine Tk (Tz hc (Ch.s (dI (m : Int)) pm (Ch.s (dI ((m : Int) + 1)) (iX rfl rfl intV_addA) (Ch.s (dI ((m : Int) + 1)) pa (Ch.nil ?_)))))
       exact nx (m + 1) ⟨by omega, by omega⟩ (Wk.of rfl rfl (ar (ar (ar (ar (ai (vI a126) (ar (ar (ar trivial)))))))) (ai (oR a42) (ar (ar trivial))))
     | false =>
      replace h5 := odf h5
      refine Ck (Ck (Ck (Ck (Ck (Ch.s (dB false) (pF rfl) (Ch.nil ?_))))))
      refine T_cond (b := false) rfl (fun h => nomatch h) (fun _ => ?_)
      refine Tk (Tz hc (Ch.s (dI (m : Int)) pm (Ch.s (dI ((m : Int) + 1)) (iX rfl rfl intV_addA) (Ch.s (dI ((m : Int) + 1)) pa (Ch.nil ?_)))))
      exact nx (m + 1) ⟨by omega, by omega⟩ (Wk.of rfl rfl (ar (ar (ar (ar (ai (vI a126) (ar (ar (ar trivial)))))))) (ai (oR a42) (ar (ar trivial))))
    | false =>
     replace h4 := odf h4
     refine Ck (Ck (Ck (Ch.s (dB false) (pF rfl) (Ch.s (dB false) pm (Ck (Ck (Ch.skip rfl rfl ?_)))))))
     refine Ck (Ck (Ch.s (dB false) (pF rfl) (Ch.nil ?_)))
     refine T_cond (b := false) rfl (fun h => nomatch h) (fun _ => ?_)
     refine Tk (Tz hc (Ch.s (dI (m : Int)) pm (Ch.s (dI ((m : Int) + 1)) (iX rfl rfl intV_addA) (Ch.s (dI ((m : Int) + 1)) pa (Ch.nil ?_)))))
     exact nx (m + 1) ⟨by omega, by omega⟩ (Wk.of rfl rfl (ar (ar (ar (ar (ai (vI a126) (ar (ar (ar trivial)))))))) (ai (oR a42) (ar (ar trivial))))
   | false =>
    replace h3 := odf h3
    refine Ck (Ck (Ck (Ck (Ck (Ch.s (dB false) (pF rfl) (Ch.s (dB false) pm (Ch.skip rfl rfl ?_)))))))
    refine Ck (Ck (Ch.s (dB false) (pF rfl) (Ch.s (dB false) pm (Ck (Ck (Ck (Ch.skip rfl rfl ?_)))))))
    refine Ck (Ch.s (dB false) (pF rfl) (Ch.nil ?_))
    refine T_cond (b := false) rfl (fun h => nomatch h) (fun _ => ?_)
    refine Tk (Tz hc (Ch.s (dI (m : Int)) pm (Ch.s (dI ((m : Int) + 1)) (iX rfl rfl intV_addA) (Ch.s (dI ((m : Int) + 1)) pa (Ch.nil ?_)))))
    exact nx (m + 1) ⟨by omega, by omega⟩ (Wk.of rfl rfl (ar (ar (ar (ar (ai (vI a126) (ar (ar (ar trivial)))))))) (ai (oR a42) (ar (ar trivial))))
  ·
   refine T_exit (Tz hc (Ch.s (dI ((k : Int) + 1)) (iX rfl rfl intV_addA) (Ch.s (dI ((k : Int) + 1)) pm (Ch.nil ?_))))
   exact nx (k + 1) (by omega) (Wk.of rfl rfl (ar (ar (ar (ar (ai (vI a126) trivial))))) (ai (oR a121) (ar trivial)))
 ·
  try have hsk := (hx.sig _ (getD_mem (l := x.arcs) (j := k) (d := default) (by omega))).2
  refine T_exit (Ts hc (Ch.s (.row 3) pm (Ch.s (.row 3) pa (Ch.nil (T_ret ?_)))))
  exact eR [(.row 3)] [] [3] (.cons (.tmp 2 rfl) .nil) eA (Exp.of (congrArg (D.slice true 1) (by rw [twL, show x.arcs.length = k by omega])) (.row rfl))

theorem sp_spec_l6Own (x : Sgr) (sig : Int) (hb : x.bulk ≤ 1048576) (hs : sig < x.sigs.length) : Sp Tryz.prog 203 [(.agg [(.slice false 2 (x.sigs.map Sgn.d)), (.slice false 1 (x.codes.map D.str)), (.slice false 4 (x.arcs.map Arc.d))]), (.int .i64 sig)] [.any, .any] (.bool (!(inputB x sig))) := by
 refine Sp_intro (lend := true) Tryz.func203 rfl rfl rfl (fun _ => rfl) (fun c hc hX => ?_)
 obtain ⟨hp0, hp1, hp2⟩ := Sgr.parts hb
 have hn0 := bulkF_len hp0
 have hn1 := bulk_len hp1
 have hx1 := bulk_mem hp1
 have hn2 := bulkF_len hp2
 refine Ts hc (Ch.s (.ptr 2000 0) (.box 2000 _ _ rfl (.aggD _)) (Ch.s (dB false) pa (Ch.nil (Ts hc (Ch.s (dI sig) pm ?_)))))
 refine Ch.s (dB (decide (sig < 0))) (iX rfl rfl rfl) (Ch.s (dB (decide (sig < 0))) pm ?_)
 cases h1 : (decide (sig < 0)) with
 | true =>
  replace h1 := odt h1
  refine Ck (Ck (Ck (Ck (Ck (Ck (Ck (Ch.s (dB true) (pT rfl) ?_)))))))
  refine Ch.s (dB true) pa (Ch.nil (T_ret ?_))
  exact eR [(dB true)] [] [] (.cons (.tmp 4 rfl) .nil) eB (Exp.of (congrArg D.bool a55) (.d _))
 | false =>
  replace h1 := odf h1
  refine Ch.s (.ptr 2000 0) (fP fld35_0 rfl) (Ch.s (.d (.slice false 2 (x.sigs.map Sgn.d))) (lP ag32 rfl rfl rfl) (Ch.s (dI sig) pm (Ch.s (.d (.ref (.agg [(.str ((x.sigs.getD ((sig).toNat) default).name)), (.int .i64 ((x.sigs.getD ((sig).toNat) default).kind))]))) (.pure (.idx _ _ _ 154 ((sig).toNat) rfl Tryz.underlying32 sz154 rfl rfl (by omega) get_mapA)) (Ch.s (.d (.ref (.int .i64 ((x.sigs.getD ((sig).toNat) default).kind)))) (.pure (.fldRef _ _ _ rfl fld154_1 rfl rfl rfl)) (Ch.s (dI ((x.sigs.getD ((sig).toNat) default).kind)) (rF ag3 rfl rfl) (Ch.s (dB (!(decide (((x.sigs.getD ((sig).toNat) default).kind) = 1)))) (iX rfl rfl rfl) (Ch.s (dB (!(decide (((x.sigs.getD ((sig).toNat) default).kind) = 1)))) (pF rfl) ?_)))))))
  refine Ch.s (dB (!(decide (((x.sigs.getD ((sig).toNat) default).kind) = 1)))) pa (Ch.nil (T_ret ?_))
  exact eR [(dB (!(decide (((x.sigs.getD ((sig).toNat) default).kind) = 1))))] [] [] (.cons (.tmp 4 rfl) .nil) eB (Exp.of (congrArg D.bool a55) (.d _))

theorem out_in {x : Sgr} {k : Nat} (h : inputB x (k : Int) = false) : outP x.sigs k = true := by
 unfold inputB at h; rw [decide_eq_true (by omega : (0 : Int) ≤ (k : Int)), Bool.true_and] at h
 unfold outP; rw [show decide ((x.sigs.getD k default).kind = 1) = false from h]; rfl

theorem out_not {x : Sgr} {k : Nat} (h : inputB x (k : Int) = true) : outP x.sigs k = false := by
 unfold inputB at h; rw [decide_eq_true (by omega : (0 : Int) ≤ (k : Int)), Bool.true_and] at h
 unfold outP; rw [show decide ((x.sigs.getD k default).kind = 1) = true from h]; rfl

theorem sp_spec_l6Owned (x : Sgr) (hb : x.bulk ≤ 1048576) : Sp Tryz.prog 131 [(.agg [(.slice false 2 (x.sigs.map Sgn.d)), (.slice false 1 (x.codes.map D.str)), (.slice false 4 (x.arcs.map Arc.d))])] [.any] (.slice true 1 ((outsL x.sigs).map (fun n : Int => D.int .i64 n))) := by
 refine Sp_intro (lend := true) Tryz.func131 rfl rfl rfl (fun _ => rfl) (fun c hc hX => ?_)
 obtain ⟨hp0, hp1, hp2⟩ := Sgr.parts hb
 have hn0 := bulkF_len hp0
 have hn1 := bulk_len hp1
 have hx1 := bulk_mem hp1
 have hn2 := bulkF_len hp2
 refine Ts hc (Ch.s (.ptr 1000 0) (.box 1000 _ _ rfl (.aggD _)) (Ch.s (.c (.slice none 0 0)) pa (Ch.nil (Ts hc (Ch.s (.c (.slice none 0 0)) pa ?_)))))
 refine Ch.nil (Tq (Ts hc (Ch.s (.ptr 1000 0) (fP fld35_0 rfl) (Ch.s (.d (.slice false 2 (x.sigs.map Sgn.d))) (lP ag32 rfl rfl rfl) (Ch.s (dI (x.sigs.length : Int)) (.pure (.len _ _ 154 rfl Tryz.underlying32 (.sh _ _) (by simp))) (Ch.s (dI 0) pm ?_))))))
 refine Ch.nil (Tb ?_)
 refine T_loop (ι := Nat) (fun k => { n := 20, sl := [(1, (.ptr 1000 0)), (3, (.row 3)), (7, (dI (x.sigs.length : Int))), (8, (dI (k : Int)))], hp := [(3, (some (.row 1 ((outK x.sigs k).map (fun n : Int => D.int .i64 n))))), (1000, (some (.box (vX x))))], pin := [] }) (fun k => k ≤ x.sigs.length) (fun k => x.sigs.length - k) ⟨0, (by omega), (Wk.trans (Wk.nilrow 3 900003 1 rfl rfl rfl) (Wk.ren [(3, 900003)] rfl rfl rfl rfl (ar (ar (ar (ai (vI a126) trivial)))) (ai (oR a71) (ar trivial))))⟩ (fun k hp0 => ?_)
 have hq := outK_le x.sigs k
 refine Ts hc (Ch.s (dB (decide ((k : Int) < (x.sigs.length : Int)))) (iX rfl rfl rfl) (Ch.nil (Tq ?_)))
 refine T_condD (p := ((k : Int) < (x.sigs.length : Int))) rfl (fun h1 => ?_) (fun h1 => ?_)
 ·
  refine Tk (Tq (Tb (Ts hc (Ch.s (dI (k : Int)) pm (Ch.s (dI (k : Int)) pa (Ch.nil ?_))))))
  refine Ts hc (Ch.s (.agg (vX x)) (lA ag35 sz35 rfl rfl (lb rfl) rfl) (Ch.s (dI (k : Int)) pm (Ch.s (dB (!(inputB x (k : Int)))) (.call 13000 203 _ _ _ en203 rfl (.inl rfl) (.cons lX (.cons (.d _) .nil)) rfl rfl (sp_spec_l6Own x (k : Int) a46 a137) (.skip _ _ (.skip _ _ .nil)) rfl) (Ch.nil ?_))))
  refine T_condN (b := (inputB x (k : Int))) rfl (fun h2 => ?_) (fun h2 => ?_)
  ·
   refine Tz hc (Ch.s (.row 3) pm (Ch.s (dI (k : Int)) pm (Ch.s (.row 16000) (.slice 16000 _ 3 _ rfl sty55 (xs := [.tmp 15]) rfl rfl (.cons (.d _) .nil) rfl rfl (by decide)) ?_)))
   refine Ch.step (v := (.row 17000)) rfl (.append 17000 _ _ _ 3 rfl sty55 (by decide) (.rowK rfl) (.inr ⟨_, rfl, rfl⟩) (.row rfl rfl) rfl a69) rfl rfl ?_
   refine Ch.s (.row 17000) pa (Ch.nil (Tz hc (Ch.s (dI ((k : Int) + 1)) (iX rfl rfl intV_addA) (Ch.s (dI ((k : Int) + 1)) pm (Ch.nil ?_)))))
   exact nx (k + 1) (by omega) (Wk.ren [(3, 17000)] rfl rfl rfl rfl (ar (ar (ar (ai (vI a126) trivial)))) (ai (oR a71) (ar trivial)))
  ·
   refine Tk (Tz hc (Ch.s (dI ((k : Int) + 1)) (iX rfl rfl intV_addA) (Ch.s (dI ((k : Int) + 1)) pm (Ch.nil ?_))))
   exact nx (k + 1) (by omega) (Wk.of rfl rfl (ar (ar (ar (ai (vI a126) trivial)))) (ai (oR a71) (ar trivial)))
 ·
  refine T_exit (Ts hc (Ch.s (.row 3) pm (Ch.s (.row 3) pa (Ch.nil (T_ret ?_)))))
  exact eR [(.row 3)] [] [3] (.cons (.tmp 2 rfl) .nil) eA (Exp.of (congrArg (D.slice true 1) (by rw [outsL, show x.sigs.length = k by omega])) (.row rfl))

set_option maxHeartbeats 2000000 in
theorem sp_impl_violations (x : Sgr) (hb : x.bulk ≤ 1048576) (hx : SgOk x) : Sp Tryz.prog 283 [(.agg [(.slice false 2 (x.sigs.map Sgn.d)), (.slice false 1 (x.codes.map D.str)), (.slice false 4 (x.arcs.map Arc.d))])] [.any] (.slice true 3 ((pvL x).map Pvi.d)) := by
 refine Sp_intro (lend := true) Tryz.func283 rfl rfl rfl (fun _ => rfl) (fun c hc hX => ?_)
 obtain ⟨hp0, hp1, hp2⟩ := Sgr.parts hb
 have hn0 := bulkF_len hp0
 have hn1 := bulk_len hp1
 have hx1 := bulk_mem hp1
 have hn2 := bulkF_len hp2; have hx8 := hx.eight; have hxl := hx.len; have hxf := hx.few; have hen := hx.ends; have hml : (masksL x).length = x.codes.length := masksTo_len x _; have hnl := nxTo_len x x.arcs.length; have hm6 := fun j => masksTo_lt (x := x) (fun a ha => by have := hx.sig a ha; omega) x.arcs.length j
 refine Ts hc (Ch.s (.ptr 1000 0) (.box 1000 _ _ rfl (.aggD _)) (Ch.s (.c (.slice none 0 0)) pa (Ch.nil (Tq ?_))))
 refine T_regionD hc (by kernel_rfl) ?_
 refine ChD.s (.row 11000) [] (.slice 11000 _ 216 _ rfl sty175 (xs := []) rfl rfl .nil rfl rfl (by decide)) (ChD.s (.agg (vX x)) [1000] (lA ag35 sz35 rfl rfl (lb rfl) rfl) (ChD.s (.row 13000) [] (.call 13000 296 _ _ _ en296 rfl (.inl rfl) (.cons lX .nil) rfl (sol (solid_row (fun _ => rfl) _) rfl) (sp_impl_labelMasks x a46 (by assumption)) (.skip _ _ .nil) rfl) (ChD.s (.agg (vX x)) [1000] (lA ag35 sz35 rfl rfl (lb rfl) rfl) (ChD.s (.row 15000) [] (.call 15000 297 _ _ _ en297 rfl (.inl rfl) (.cons lX .nil) rfl (sol (solid_row intsU_sol _) rfl) (sp_impl_nextArcs x a46 (by assumption)) (.skip _ _ .nil) rfl) (ChD.s (.row 11000) [] pa (ChD.s (.row 13000) [] pa (ChD.s (.row 15000) [] pa ?_)))))))
 refine ChD.nil (And.intro ?_ (by kernel_rfl))
 refine Tq (Ts hc (Ch.s (.ptr 1000 1) (fP fld35_1 rfl) (Ch.s (.d (.slice false 1 (x.codes.map D.str))) (lP ag23 rfl rfl rfl) (Ch.s (dI (x.codes.length : Int)) (.pure (.len _ _ 9 rfl Tryz.underlying23 (.sh _ _) (by simp))) (Ch.s (dI 0) pm (Ch.nil ?_))))))
 refine Tb ?_
 refine T_loop (ι := Nat) (fun k => { n := 90, sl := [(1, (.ptr 1000 0)), (3, (.row 3)), (4, (.row 13000)), (5, (.row 15000)), (18, (dI (x.codes.length : Int))), (19, (dI (k : Int)))], hp := [(3, (some (.row 3 ((pvTo x k).map Pvi.d)))), (1000, (some (.box (vX x)))), (13000, (some (.row 1 ((masksL x).map (fun n : Nat => D.int .i64 (n : Int)))))), (15000, (some (.row 1 ((nxTo x x.arcs.length).map intsU))))], pin := [] }) (fun k => k ≤ x.codes.length) (fun k => x.codes.length - k) ⟨0, (by omega), (Wk.ren [(3, 11000)] rfl rfl rfl rfl (ar (ar (ar (ar (ar (ai (vI a126) trivial)))))) (ai (oR a113) (ar (ar (ar trivial)))))⟩ (fun k hp0 => ?_)
 refine Ts hc (Ch.s (dB (decide ((k : Int) < (x.codes.length : Int)))) (iX rfl rfl rfl) (Ch.nil (Tq ?_)))
 refine T_condD (p := ((k : Int) < (x.codes.length : Int))) rfl (fun h1 => ?_) (fun h1 => ?_)
 ·
  refine Tk (Tq (Tb (Ts hc (Ch.s (dI (k : Int)) pm (Ch.s (dI (k : Int)) pa (Ch.nil ?_))))))
  refine Ts hc (Ch.s (.ptr 1000 0) (fP fld35_0 rfl) (Ch.s (.d (.slice false 2 (x.sigs.map Sgn.d))) (lP ag32 rfl rfl rfl) (Ch.s (dI (x.sigs.length : Int)) (.pure (.len _ _ 154 rfl Tryz.underlying32 (.sh _ _) (by simp))) (Ch.s (dI 0) pm (Ch.nil (Tb ?_))))))
  refine T_loop (ι := Nat) (fun s => { n := 90, sl := [(1, (.ptr 1000 0)), (3, (.row 3)), (4, (.row 13000)), (5, (.row 15000)), (6, (dI (k : Int))), (18, (dI (x.codes.length : Int))), (19, (dI (k : Int))), (24, (dI (x.sigs.length : Int))), (25, (dI (s : Int)))], hp := [(3, (some (.row 3 ((pvA x k s).map Pvi.d)))), (1000, (some (.box (vX x)))), (13000, (some (.row 1 ((masksL x).map (fun n : Nat => D.int .i64 (n : Int)))))), (15000, (some (.row 1 ((nxTo x x.arcs.length).map intsU))))], pin := [] }) (fun s => s ≤ x.sigs.length) (fun s => x.sigs.length - s) ⟨0, (by omega), (Wk.of rfl rfl (ar (ar (ar (ar (ar (ar (ar (ar (ai (vI a126) trivial))))))))) (ai (oR a17) (ar (ar (ar trivial)))))⟩ (fun s hp1 => ?_)
  refine Ts hc (Ch.s (dB (decide ((s : Int) < (x.sigs.length : Int)))) (iX rfl rfl rfl) (Ch.nil (Tq ?_)))
  refine T_condD (p := ((s : Int) < (x.sigs.length : Int))) rfl (fun h2 => ?_) (fun h2 => ?_)
  ·
   try have hmk := hm6 k
   refine Tk (Tq (Tb (Ts hc (Ch.s (dI (s : Int)) pm (Ch.s (dI (s : Int)) pa (Ch.nil ?_))))))
   refine Tq (Ts hc (Ch.s (.row 13000) pm (Ch.s (dI (k : Int)) pm (Ch.s (.el 13000 1 k 0) (.pure (.idxRow _ _ _ 3 (k) rfl Tryz.underlying55 sz3 rfl rfl rfl rfl a96)) (Ch.s (dI (((masksL x).getD k default) : Int)) (.pure (.loadEl1 _ _ rfl ag3 rfl rfl get_mapA rfl rfl rfl)) (Ch.s (dI (s : Int)) pm ?_))))))
   refine Ch.s (dI (2 * (s : Int))) (iX rfl rfl (intV_mul a52 a52)) (Ch.s (dI ((((masksL x).getD k default) >>> (((2 * (s : Int))).toNat) : Nat) : Int)) (.pure (.shift _ _ _ _ _ rfl rfl rfl (i64_shr (m := ((masksL x).getD k default)) (n := ((2 * (s : Int))).toNat) (by omega) a52))) (Ch.s (dI ((two ((masksL x).getD k default) (((2 * (s : Int))).toNat) : Nat) : Int)) (iX rfl rfl (i64_and3 (((masksL x).getD k default) >>> (((2 * (s : Int))).toNat)))) (Ch.s (dB (decide (((two ((masksL x).getD k default) (((2 * (s : Int))).toNat) : Nat) : Int) = 0))) (iX rfl rfl rfl) (Ch.nil ?_))))
   refine T_condD (p := (((two ((masksL x).getD k default) (((2 * (s : Int))).toNat) : Nat) : Int) = 0)) rfl (fun h3 => ?_) (fun h3 => ?_)
   ·
    refine T_exit (Tz hc (Ch.s (dI ((s : Int) + 1)) (iX rfl rfl intV_addA) (Ch.s (dI ((s : Int) + 1)) pm (Ch.nil ?_))))
    exact nx (s + 1) (by omega) (Wk.of rfl rfl (ar (ar (ar (ar (ar (ar (ar (ar (ai (vI a126) trivial))))))))) (ai (oR a17) (ar (ar (ar trivial)))))
   ·
    refine Tk (Tq ?_)
    refine T_take 15000 k 7000002 7000003 rfl get_mapA rfl rfl (fun u1 => ?_)
    refine Tz hc (Ch.s (.row 15000) pm (Ch.s (dI (k : Int)) pm (Ch.s (.el 15000 1 k 0) (.pure (.idxRow _ _ _ 55 (k) rfl Tryz.underlying49 sz55 rfl rfl rfl rfl a96)) (Ch.s (.row 7000002) (.pure (.loadHole (n := 7000002) (m := 7000003) (u := u1) _ _ rfl ag55 rfl rfl (get_set a96) rfl rfl)) (Ch.s (dI (((nxTo x x.arcs.length).getD k default).length : Int)) (.pure (.len _ _ 3 rfl Tryz.underlying55 (.row rfl) (by simp))) (Ch.s (dI 0) pm (Ch.nil ?_)))))))
    refine Tb ?_
    refine T_loop (ι := Nat) (fun m => { n := 90, sl := [(1, (.ptr 1000 0)), (3, (.row 3)), (4, (.row 13000)), (5, (.row 15000)), (6, (dI (k : Int))), (7, (dI (s : Int))), (18, (dI (x.codes.length : Int))), (19, (dI (k : Int))), (24, (dI (x.sigs.length : Int))), (25, (dI (s : Int))), (40, (.row 7000002)), (41, (dI (((nxTo x x.arcs.length).getD k default).length : Int))), (42, (dI (m : Int)))], hp := [(3, (some (.row 3 ((pvB x k s ((nxTo x x.arcs.length).getD k default) m).map Pvi.d)))), (1000, (some (.box (vX x)))), (13000, (some (.row 1 ((masksL x).map (fun n : Nat => D.int .i64 (n : Int)))))), (15000, (some (.row 1 ((((nxTo x x.arcs.length).map intsU)).set k (.hole u1))))), (7000002, (some (.row 1 (((nxTo x x.arcs.length).getD k default).map (fun n : Int => D.int .i64 n))))), (7000003, (some (.head 7000002 u1)))], pin := [] }) (fun m => m ≤ ((nxTo x x.arcs.length).getD k default).length) (fun m => ((nxTo x x.arcs.length).getD k default).length - m) ⟨0, (by omega), (Wk.of rfl rfl (ar (ar (ar (ar (ar (ar (ar (ar (ar (ar (ar (ar (ai (vI a126) trivial))))))))))))) (ai (oR a8) (ar (ar (ar (ar (ar trivial)))))))⟩ (fun m hp2 => ?_)
    have hTl := nx_le x _ (Nat.le_refl _) k; have hq := pvB_le hxf hx8.2 (k := k) (s := s) (m := m) (by omega) (by omega) (T := ((nxTo x x.arcs.length).getD k default)) (Nat.le_trans (nx_le x _ (Nat.le_refl _) k) hxf)
    refine Ts hc (Ch.s (dB (decide ((m : Int) < (((nxTo x x.arcs.length).getD k default).length : Int)))) (iX rfl rfl rfl) (Ch.nil (Tq ?_)))
    refine T_condD (p := ((m : Int) < (((nxTo x x.arcs.length).getD k default).length : Int))) rfl (fun h4 => ?_) (fun h4 => ?_)
    ·
     try have hnt := (nx_mem hen (j := k) (i := ((nxTo x x.arcs.length).getD k default).getD m default) x.arcs.length (Nat.le_refl _)).1 (getD_mem (by omega))
     try have hek := hen _ (getD_mem (l := x.arcs) (j := (((nxTo x x.arcs.length).getD k default).getD m default).toNat) (d := default) (by omega))
     try have hsk := (hx.sig _ (getD_mem (l := x.arcs) (j := (((nxTo x x.arcs.length).getD k default).getD m default).toNat) (d := default) (by omega))).1
     try have hm7 := hm6 (x.arcs.getD (((nxTo x x.arcs.length).getD k default).getD m default).toNat default).dst.toNat
     refine Tk (Tq (Tb (Ts hc (Ch.s (.el 7000002 1 m 0) (.pure (.idxRow _ _ _ 3 (m) rfl Tryz.underlying55 sz3 rfl rfl rfl rfl a96)) (Ch.s (dI (((nxTo x x.arcs.length).getD k default).getD m default)) (.pure (.loadEl1 _ _ rfl ag3 rfl rfl get_mapA rfl rfl rfl)) (Ch.s (dI (((nxTo x x.arcs.length).getD k default).getD m default)) pa ?_))))))
     refine Ch.nil (Ts hc (Ch.s (.ptr 1000 2) (fP fld35_2 rfl) (Ch.s (.d (.slice false 4 (x.arcs.map Arc.d))) (lP ag33 rfl rfl rfl) (Ch.s (dI (((nxTo x x.arcs.length).getD k default).getD m default)) pm (Ch.s (.d (.ref (.agg [(.int .i64 ((x.arcs.getD (((((nxTo x x.arcs.length).getD k default).getD m default)).toNat) default).src)), (.int .i64 ((x.arcs.getD (((((nxTo x x.arcs.length).getD k default).getD m default)).toNat) default).sig)), (.bool ((x.arcs.getD (((((nxTo x x.arcs.length).getD k default).getD m default)).toNat) default).up)), (.int .i64 ((x.arcs.getD (((((nxTo x x.arcs.length).getD k default).getD m default)).toNat) default).dst))]))) (.pure (.idx _ _ _ 125 (((((nxTo x x.arcs.length).getD k default).getD m default)).toNat) rfl Tryz.underlying33 sz125 rfl rfl (by omega) get_mapA)) (Ch.s (.d (.agg [(.int .i64 ((x.arcs.getD (((((nxTo x x.arcs.length).getD k default).getD m default)).toNat) default).src)), (.int .i64 ((x.arcs.getD (((((nxTo x x.arcs.length).getD k default).getD m default)).toNat) default).sig)), (.bool ((x.arcs.getD (((((nxTo x x.arcs.length).getD k default).getD m default)).toNat) default).up)), (.int .i64 ((x.arcs.getD (((((nxTo x x.arcs.length).getD k default).getD m default)).toNat) default).dst))])) (.pure (.loadRefA _ _ rfl ag125 sz125 rfl)) ?_))))))
     refine Ch.s (.ptr 10000 0) (.alloc 10000 _ rfl zer125) (Ch.s .junk (.storePtr _ _ _ rfl rfl rfl (.aggD _) sz125 (lb rfl)) (Ch.nil (Ts hc (Ch.s (.ptr 10000 1) (fP fld125_1 rfl) (Ch.s (dI ((x.arcs.getD (((((nxTo x x.arcs.length).getD k default).getD m default)).toNat) default).sig)) (lP ag3 rfl rfl rfl) (Ch.s (dI (s : Int)) pm ?_))))))
     refine Ch.s (dB (!(decide (((x.arcs.getD (((((nxTo x x.arcs.length).getD k default).getD m default)).toNat) default).sig) = (s : Int))))) (iX rfl rfl rfl) (Ch.s (dB (!(decide (((x.arcs.getD (((((nxTo x x.arcs.length).getD k default).getD m default)).toNat) default).sig) = (s : Int))))) pm ?_)
     cases h5 : (decide (((x.arcs.getD (((((nxTo x x.arcs.length).getD k default).getD m default)).toNat) default).sig) = (s : Int))) with
     | true =>
      replace h5 := odt h5
      refine Ck (Ck (Ck (Ck (Ck (Ck (Ck (Ch.skip rfl rfl ?_)))))))
      refine Ck (Ck (Ch.s (dB false) (pF rfl) (Ch.s (dB false) pm (Ck (Ck (Ck (Ch.skip rfl rfl ?_)))))))
      refine Ck (Ck (Ck (Ck (Ck (Ck (Ch.s (dB false) (pF rfl) (Ch.nil ?_)))))))
      refine T_cond (b := false) rfl (fun h => nomatch h) (fun _ => ?_)
      refine Tk (Tz hc (Ch.s (dI ((m : Int) + 1)) (iX rfl rfl intV_addA) (Ch.s (dI ((m : Int) + 1)) pm (Ch.nil ?_))))
      exact nx (m + 1) (by omega) (Wk.of rfl rfl (ar (ar (ar (ar (ar (ar (ar (ar (ar (ar (ar (ar (ai (vI a126) trivial))))))))))))) (ai (oR a8) (ar (ar (ar (ar (ar trivial)))))))
     | false =>
      replace h5 := odf h5
      refine Ch.s (.row 13000) pm (Ch.s (.ptr 10000 3) (fP fld125_3 rfl) (Ch.s (dI ((x.arcs.getD (((((nxTo x x.arcs.length).getD k default).getD m default)).toNat) default).dst)) (lP ag3 rfl rfl rfl) (Ch.s (.el 13000 1 ((((x.arcs.getD (((((nxTo x x.arcs.length).getD k default).getD m default)).toNat) default).dst)).toNat) 0) (.pure (.idxRow _ _ _ 3 ((((x.arcs.getD (((((nxTo x x.arcs.length).getD k default).getD m default)).toNat) default).dst)).toNat) rfl Tryz.underlying55 sz3 rfl rfl rfl (by omega) a96)) (Ch.s (dI (((masksL x).getD ((((x.arcs.getD (((((nxTo x x.arcs.length).getD k default).getD m default)).toNat) default).dst)).toNat) default) : Int)) (.pure (.loadEl1 _ _ rfl ag3 rfl rfl get_mapA rfl rfl rfl)) (Ch.s (dI (s : Int)) pm (Ch.s (dI (2 * (s : Int))) (iX rfl rfl (intV_mul a52 a52)) (Ch.s (dI ((((masksL x).getD ((((x.arcs.getD (((((nxTo x x.arcs.length).getD k default).getD m default)).toNat) default).dst)).toNat) default) >>> (((2 * (s : Int))).toNat) : Nat) : Int)) (.pure (.shift _ _ _ _ _ rfl rfl rfl (i64_shr (m := ((masksL x).getD ((((x.arcs.getD (((((nxTo x x.arcs.length).getD k default).getD m default)).toNat) default).dst)).toNat) default)) (n := ((2 * (s : Int))).toNat) (by omega) a52))) ?_)))))))
      refine Ch.s (dI ((two ((masksL x).getD ((((x.arcs.getD (((((nxTo x x.arcs.length).getD k default).getD m default)).toNat) default).dst)).toNat) default) (((2 * (s : Int))).toNat) : Nat) : Int)) (iX rfl rfl (i64_and3 (((masksL x).getD ((((x.arcs.getD (((((nxTo x x.arcs.length).getD k default).getD m default)).toNat) default).dst)).toNat) default) >>> (((2 * (s : Int))).toNat)))) (Ch.s (dB (decide (((two ((masksL x).getD ((((x.arcs.getD (((((nxTo x x.arcs.length).getD k default).getD m default)).toNat) default).dst)).toNat) default) (((2 * (s : Int))).toNat) : Nat) : Int) = 0))) (iX rfl rfl rfl) (Ch.s (dB (decide (((two ((masksL x).getD ((((x.arcs.getD (((((nxTo x x.arcs.length).getD k default).getD m default)).toNat) default).dst)).toNat) default) (((2 * (s : Int))).toNat) : Nat) : Int) = 0))) (pT rfl) (Ch.s (dB (decide (((two ((masksL x).getD ((((x.arcs.getD (((((nxTo x x.arcs.length).getD k default).getD m default)).toNat) default).dst)).toNat) default) (((2 * (s : Int))).toNat) : Nat) : Int) = 0))) pm ?_)))
      cases h6 : (decide (((two ((masksL x).getD ((((x.arcs.getD (((((nxTo x x.arcs.length).getD k default).getD m default)).toNat) default).dst)).toNat) default) (((2 * (s : Int))).toNat) : Nat) : Int) = 0)) with
      | true =>
       replace h6 := odt h6
       refine Ch.s (.agg (vX x)) (lA ag35 sz35 rfl rfl (lb rfl) rfl) (Ch.s (dI (s : Int)) pm (Ch.s (dB (inputB x (s : Int))) (.call 70000 298 _ _ _ en298 rfl (.inl rfl) (.cons lX (.cons (.d _) .nil)) rfl rfl (sp_impl_isInput x (s : Int) a46 a137) (.skip _ _ (.skip _ _ .nil)) rfl) (Ch.s (dB (inputB x (s : Int))) pm ?_)))
       cases h7 : (inputB x (s : Int)) with
       | true =>
        refine Ch.s (.agg (vX x)) (lA ag35 sz35 rfl rfl (lb rfl) rfl) (Ch.s (.ptr 10000 1) (fP fld125_1 rfl) (Ch.s (dI ((x.arcs.getD (((((nxTo x x.arcs.length).getD k default).getD m default)).toNat) default).sig)) (lP ag3 rfl rfl rfl) (Ch.s (dB (inputB x ((x.arcs.getD (((((nxTo x x.arcs.length).getD k default).getD m default)).toNat) default).sig))) (.call 75000 298 _ _ _ en298 rfl (.inl rfl) (.cons lX (.cons (.d _) .nil)) rfl rfl (sp_impl_isInput x ((x.arcs.getD (((((nxTo x x.arcs.length).getD k default).getD m default)).toNat) default).sig) a46 a137) (.skip _ _ (.skip _ _ .nil)) rfl) (Ch.s (dB (inputB x ((x.arcs.getD (((((nxTo x x.arcs.length).getD k default).getD m default)).toNat) default).sig))) (pT rfl) (Ch.s (dB (!(inputB x ((x.arcs.getD (((((nxTo x x.arcs.length).getD k default).getD m default)).toNat) default).sig)))) (nT rfl) (Ch.s (dB (!(inputB x ((x.arcs.getD (((((nxTo x x.arcs.length).getD k default).getD m default)).toNat) default).sig)))) (pT rfl) (Ch.nil ?_)))))))
        refine T_condN (b := (inputB x ((x.arcs.getD (((((nxTo x x.arcs.length).getD k default).getD m default)).toNat) default).sig))) rfl (fun h8 => ?_) (fun h8 => ?_)
        ·
         refine Tz hc (Ch.s (.row 3) pm (Ch.s (dI (k : Int)) pm (Ch.s (dI (s : Int)) pm (Ch.s (dI (((nxTo x x.arcs.length).getD k default).getD m default)) pm (Ch.s (.agg [(dI (k : Int)), (dI (s : Int)), (dI (((nxTo x x.arcs.length).getD k default).getD m default))]) (.build _ _ rfl stru216 (.cons (.one _ rfl) (.cons (.one _ rfl) (.cons (.one _ rfl) .nil))) rfl) (Ch.s (.row 84000) (.slice 84000 _ 216 _ rfl sty175 (xs := [.tmp 83]) rfl rfl (.cons (.agg (.cons (.d _) (.cons (.d _) (.cons (.d _) .nil))) rfl) .nil) rfl rfl (by decide)) ?_))))))
         refine Ch.step (v := (.row 85000)) rfl (.append 85000 _ _ _ 216 rfl sty175 (by decide) (.rowK rfl) (.inr ⟨_, rfl, rfl⟩) (.row rfl rfl) rfl a69) rfl rfl ?_
         refine Ch.s (.row 85000) pa (Ch.nil (Tz hc (Ch.s (dI ((m : Int) + 1)) (iX rfl rfl intV_addA) (Ch.s (dI ((m : Int) + 1)) pm (Ch.nil ?_)))))
         exact nx (m + 1) (by omega) (Wk.ren [(3, 85000)] rfl rfl rfl rfl (ar (ar (ar (ar (ar (ar (ar (ar (ar (ar (ar (ar (ai (vI a126) trivial))))))))))))) (ai (oR a8) (ar (ar (ar (ar (ar trivial)))))))
        ·
         refine Tk (Tz hc (Ch.s (dI ((m : Int) + 1)) (iX rfl rfl intV_addA) (Ch.s (dI ((m : Int) + 1)) pm (Ch.nil ?_))))
         exact nx (m + 1) (by omega) (Wk.of rfl rfl (ar (ar (ar (ar (ar (ar (ar (ar (ar (ar (ar (ar (ai (vI a126) trivial))))))))))))) (ai (oR a8) (ar (ar (ar (ar (ar trivial)))))))
       | false =>
        refine Ck (Ck (Ck (Ck (Ch.s (dB false) (pF rfl) (Ch.s (dB true) (.pure (.not (b := false) _ _ rfl rfl)) (Ch.s (dB true) (pT rfl) (Ch.nil ?_)))))))
        refine T_cond (b := true) rfl (fun _ => ?_) (fun h => nomatch h)
        refine Tz hc (Ch.s (.row 3) pm (Ch.s (dI (k : Int)) pm (Ch.s (dI (s : Int)) pm (Ch.s (dI (((nxTo x x.arcs.length).getD k default).getD m default)) pm (Ch.s (.agg [(dI (k : Int)), (dI (s : Int)), (dI (((nxTo x x.arcs.length).getD k default).getD m default))]) (.build _ _ rfl stru216 (.cons (.one _ rfl) (.cons (.one _ rfl) (.cons (.one _ rfl) .nil))) rfl) (Ch.s (.row 84000) (.slice 84000 _ 216 _ rfl sty175 (xs := [.tmp 83]) rfl rfl (.cons (.agg (.cons (.d _) (.cons (.d _) (.cons (.d _) .nil))) rfl) .nil) rfl rfl (by decide)) ?_))))))
        refine Ch.step (v := (.row 85000)) rfl (.append 85000 _ _ _ 216 rfl sty175 (by decide) (.rowK rfl) (.inr ⟨_, rfl, rfl⟩) (.row rfl rfl) rfl a69) rfl rfl ?_
        refine Ch.s (.row 85000) pa (Ch.nil (Tz hc (Ch.s (dI ((m : Int) + 1)) (iX rfl rfl intV_addA) (Ch.s (dI ((m : Int) + 1)) pm (Ch.nil ?_)))))
        exact nx (m + 1) (by omega) (Wk.ren [(3, 85000)] rfl rfl rfl rfl (ar (ar (ar (ar (ar (ar (ar (ar (ar (ar (ar (ar (ai (vI a126) trivial))))))))))))) (ai (oR a8) (ar (ar (ar (ar (ar trivial)))))))
      | false =>
       replace h6 := odf h6
       refine Ck (Ck (Ck (Ck (Ck (Ck (Ck (Ch.skip rfl rfl ?_)))))))
       refine Ck (Ck (Ch.s (dB false) (pF rfl) (Ch.nil ?_)))
       refine T_cond (b := false) rfl (fun h => nomatch h) (fun _ => ?_)
       refine Tk (Tz hc (Ch.s (dI ((m : Int) + 1)) (iX rfl rfl intV_addA) (Ch.s (dI ((m : Int) + 1)) pm (Ch.nil ?_))))
       exact nx (m + 1) (by omega) (Wk.of rfl rfl (ar (ar (ar (ar (ar (ar (ar (ar (ar (ar (ar (ar (ai (vI a126) trivial))))))))))))) (ai (oR a8) (ar (ar (ar (ar (ar trivial)))))))
    ·
     try have hnt := (nx_mem hen (j := k) (i := ((nxTo x x.arcs.length).getD k default).getD m default) x.arcs.length (Nat.le_refl _)).1 (getD_mem (by omega))
     try have hek := hen _ (getD_mem (l := x.arcs) (j := (((nxTo x x.arcs.length).getD k default).getD m default).toNat) (d := default) (by omega))
     try have hsk := (hx.sig _ (getD_mem (l := x.arcs) (j := (((nxTo x x.arcs.length).getD k default).getD m default).toNat) (d := default) (by omega))).1
     try have hm7 := hm6 (x.arcs.getD (((nxTo x x.arcs.length).getD k default).getD m default).toNat default).dst.toNat
     refine T_exit (Tz hc (Ch.s (dI ((s : Int) + 1)) (iX rfl rfl intV_addA) (Ch.s (dI ((s : Int) + 1)) pm (Ch.nil ?_))))
     exact nx (s + 1) (by omega) (Wk.trans (Wk.give 15000 k 7000002 7000003 rfl (get_set a96) rfl rfl rfl (set_back (f := intsU) (by omega))) (Wk.of rfl rfl (ar (ar (ar (ar (ar (ar (ar (ar (ai (vI a126) trivial))))))))) (ai (oR a17) (ar (ar (ar trivial))))))
  ·
   try have hmk := hm6 k
   refine T_exit (Tz hc (Ch.s (dI ((k : Int) + 1)) (iX rfl rfl intV_addA) (Ch.s (dI ((k : Int) + 1)) pm (Ch.nil ?_))))
   exact nx (k + 1) (by omega) (Wk.of rfl rfl (ar (ar (ar (ar (ar (ai (vI a126) trivial)))))) (ai (oR a113) (ar (ar (ar trivial)))))
 ·
  refine T_exit (Ts hc (Ch.s (.row 3) pm (Ch.s (.row 3) pa (Ch.nil (T_ret ?_)))))
  exact eR [(.row 3)] [] [3] (.cons (.tmp 2 rfl) .nil) eA (Exp.of (congrArg (D.slice true 3) (by rw [pvL, show x.codes.length = k by omega])) (.row rfl))

set_option maxHeartbeats 2000000 in
theorem sp_spec_l6Breaks (x : Sgr) (hb : x.bulk ≤ 1048576) (hx : SgOk x) : Sp Tryz.prog 168 [(.agg [(.slice false 2 (x.sigs.map Sgn.d)), (.slice false 1 (x.codes.map D.str)), (.slice false 4 (x.arcs.map Arc.d))])] [.any] (.slice true 3 ((pvL x).map Pvi.d)) := by
 refine Sp_intro (lend := true) Tryz.func168 rfl rfl rfl (fun _ => rfl) (fun c hc hX => ?_)
 obtain ⟨hp0, hp1, hp2⟩ := Sgr.parts hb
 have hn0 := bulkF_len hp0
 have hn1 := bulk_len hp1
 have hx1 := bulk_mem hp1
 have hn2 := bulkF_len hp2; have hx8 := hx.eight; have hxl := hx.len; have hxf := hx.few; have hen := hx.ends
 refine Ts hc (Ch.s (.ptr 1000 0) (.box 1000 _ _ rfl (.aggD _)) (Ch.s (.c (.slice none 0 0)) pa (Ch.nil (Ts hc (Ch.s (.c (.slice none 0 0)) pa ?_)))))
 refine Ch.nil (Tq (Ts hc (Ch.s (.ptr 1000 1) (fP fld35_1 rfl) (Ch.s (.d (.slice false 1 (x.codes.map D.str))) (lP ag23 rfl rfl rfl) (Ch.s (dI (x.codes.length : Int)) (.pure (.len _ _ 9 rfl Tryz.underlying23 (.sh _ _) (by simp))) (Ch.s (dI 0) pm ?_))))))
 refine Ch.nil (Tb ?_)
 refine T_loop (ι := Nat) (fun k => { n := 73, sl := [(1, (.ptr 1000 0)), (3, (.row 3)), (10, (dI (x.codes.length : Int))), (11, (dI (k : Int)))], hp := [(3, (some (.row 3 ((pvTo x k).map Pvi.d)))), (1000, (some (.box (vX x))))], pin := [] }) (fun k => k ≤ x.codes.length) (fun k => x.codes.length - k) ⟨0, (by omega), (Wk.trans (Wk.nilrow 3 900003 3 rfl rfl rfl) (Wk.ren [(3, 900003)] rfl rfl rfl rfl (ar (ar (ar (ai (vI a126) trivial)))) (ai (oR a113) (ar trivial))))⟩ (fun k hp0 => ?_)
 refine Ts hc (Ch.s (dB (decide ((k : Int) < (x.codes.length : Int)))) (iX rfl rfl rfl) (Ch.nil (Tq ?_)))
 refine T_condD (p := ((k : Int) < (x.codes.length : Int))) rfl (fun h1 => ?_) (fun h1 => ?_)
 ·
  refine Tk (Tq (Tb (Ts hc (Ch.s (dI (k : Int)) pm (Ch.s (dI (k : Int)) pa (Ch.nil ?_))))))
  refine Ts hc (Ch.s (.ptr 1000 0) (fP fld35_0 rfl) (Ch.s (.d (.slice false 2 (x.sigs.map Sgn.d))) (lP ag32 rfl rfl rfl) (Ch.s (dI (x.sigs.length : Int)) (.pure (.len _ _ 154 rfl Tryz.underlying32 (.sh _ _) (by simp))) (Ch.s (dI 0) pm (Ch.nil (Tb ?_))))))
  refine T_loop (ι := Nat) (fun s => { n := 73, sl := [(1, (.ptr 1000 0)), (3, (.row 3)), (4, (dI (k : Int))), (10, (dI (x.codes.length : Int))), (11, (dI (k : Int))), (16, (dI (x.sigs.length : Int))), (17, (dI (s : Int)))], hp := [(3, (some (.row 3 ((pvA x k s).map Pvi.d)))), (1000, (some (.box (vX x))))], pin := [] }) (fun s => s ≤ x.sigs.length) (fun s => x.sigs.length - s) ⟨0, (by omega), (Wk.of rfl rfl (ar (ar (ar (ar (ar (ar (ai (vI a126) trivial))))))) (ai (oR a17) (ar trivial)))⟩ (fun s hp1 => ?_)
  refine Ts hc (Ch.s (dB (decide ((s : Int) < (x.sigs.length : Int)))) (iX rfl rfl rfl) (Ch.nil (Tq ?_)))
  refine T_condD (p := ((s : Int) < (x.sigs.length : Int))) rfl (fun h2 => ?_) (fun h2 => ?_)
  ·
   refine Tk (Tq (Tb (Ts hc (Ch.s (dI (s : Int)) pm (Ch.s (dI (s : Int)) pa (Ch.nil ?_))))))
   refine Tq (Ts hc (Ch.s (.agg (vX x)) (lA ag35 sz35 rfl rfl (lb rfl) rfl) (Ch.s (dI (k : Int)) pm (Ch.s (dI (s : Int)) pm (Ch.s (dB (excB x (k : Int) (s : Int))) (.call 23000 158 _ _ _ en158 rfl (.inl rfl) (.cons lX (.cons (.d _) (.cons (.d _) .nil))) rfl rfl (sp_spec_l5Excited x (k : Int) (s : Int) a46) (.skip _ _ (.skip _ _ (.skip _ _ .nil))) rfl) (Ch.s (dB (!(excB x (k : Int) (s : Int)))) (nT rfl) ?_))))))
   refine Ch.nil ?_
   refine T_condN (b := (excB x (k : Int) (s : Int))) rfl (fun h3 => ?_) (fun h3 => ?_)
   ·
    refine T_exit (Tz hc (Ch.s (dI ((s : Int) + 1)) (iX rfl rfl intV_addA) (Ch.s (dI ((s : Int) + 1)) pm (Ch.nil ?_))))
    exact nx (s + 1) (by omega) (Wk.of rfl rfl (ar (ar (ar (ar (ar (ar (ai (vI a126) trivial))))))) (ai (oR a17) (ar trivial)))
   ·
    refine Tk (Ts hc (Ch.s (.ptr 1000 2) (fP fld35_2 rfl) (Ch.s (.d (.slice false 4 (x.arcs.map Arc.d))) (lP ag33 rfl rfl rfl) (Ch.s (dI (x.arcs.length : Int)) (.pure (.len _ _ 125 rfl Tryz.underlying33 (.sh _ _) (by simp))) (Ch.s (dI 0) pm (Ch.nil ?_))))))
    refine Tb ?_
    refine T_loop (ι := Nat) (fun m => { n := 73, sl := [(1, (.ptr 1000 0)), (3, (.row 3)), (4, (dI (k : Int))), (5, (dI (s : Int))), (10, (dI (x.codes.length : Int))), (11, (dI (k : Int))), (16, (dI (x.sigs.length : Int))), (17, (dI (s : Int))), (26, (.d (.slice false 4 (x.arcs.map Arc.d)))), (27, (dI (x.arcs.length : Int))), (28, (dI (m : Int)))], hp := [(3, (some (.row 3 ((pvC x k s m).map Pvi.d)))), (1000, (some (.box (vX x))))], pin := [] }) (fun m => m ≤ x.arcs.length) (fun m => x.arcs.length - m) ⟨0, (by omega), (Wk.of rfl rfl (ar (ar (ar (ar (ar (ar (ar (ar (ar (ar (ai (vI a126) trivial))))))))))) (ai (oR a4) (ar trivial)))⟩ (fun m hp2 => ?_)
    have hq := pvC_le hxf hx8.2 (k := k) (s := s) (m := m) (by omega) (by omega) (by omega)
    refine Ts hc (Ch.s (dB (decide ((m : Int) < (x.arcs.length : Int)))) (iX rfl rfl rfl) (Ch.nil (Tq ?_)))
    refine T_condD (p := ((m : Int) < (x.arcs.length : Int))) rfl (fun h4 => ?_) (fun h4 => ?_)
    ·
     try have hek := hen _ (getD_mem (l := x.arcs) (j := m) (d := default) (by omega))
     try have hsk := (hx.sig _ (getD_mem (l := x.arcs) (j := m) (d := default) (by omega))).1
     refine Tk (Tq (Tb (Ts hc (Ch.s (dI (m : Int)) pm (Ch.s (.d (.ref (.agg [(.int .i64 ((x.arcs.getD m default).src)), (.int .i64 ((x.arcs.getD m default).sig)), (.bool ((x.arcs.getD m default).up)), (.int .i64 ((x.arcs.getD m default).dst))]))) (.pure (.idx _ _ _ 125 (m) rfl Tryz.underlying33 sz125 rfl rfl rfl get_mapA)) (Ch.s (.d (.agg [(.int .i64 ((x.arcs.getD m default).src)), (.int .i64 ((x.arcs.getD m default).sig)), (.bool ((x.arcs.getD m default).up)), (.int .i64 ((x.arcs.getD m default).dst))])) (.pure (.loadRefA _ _ rfl ag125 sz125 rfl)) ?_))))))
     refine Ch.s (.ptr 7000 0) (.alloc 7000 _ rfl zer125) (Ch.s (dI (m : Int)) pa (Ch.s .junk (.storePtr _ _ _ rfl rfl rfl (.aggD _) sz125 (lb rfl)) (Ch.nil (Ts hc (Ch.s (.ptr 7000 0) (fP fld125_0 rfl) (Ch.s (dI ((x.arcs.getD m default).src)) (lP ag3 rfl rfl rfl) ?_))))))
     refine Ch.s (dI (k : Int)) pm (Ch.s (dB (decide (((x.arcs.getD m default).src) = (k : Int)))) (iX rfl rfl rfl) (Ch.s (dB (decide (((x.arcs.getD m default).src) = (k : Int)))) pm ?_))
     cases h5 : (decide (((x.arcs.getD m default).src) = (k : Int))) with
     | true =>
      replace h5 := odt h5
      refine Ch.s (.ptr 7000 1) (fP fld125_1 rfl) (Ch.s (dI ((x.arcs.getD m default).sig)) (lP ag3 rfl rfl rfl) (Ch.s (dI (s : Int)) pm (Ch.s (dB (!(decide (((x.arcs.getD m default).sig) = (s : Int))))) (iX rfl rfl rfl) (Ch.s (dB (!(decide (((x.arcs.getD m default).sig) = (s : Int))))) (pT rfl) (Ch.s (dB (!(decide (((x.arcs.getD m default).sig) = (s : Int))))) pm ?_)))))
      cases h6 : (decide (((x.arcs.getD m default).sig) = (s : Int))) with
      | true =>
       replace h6 := odt h6
       refine Ck (Ck (Ck (Ck (Ck (Ck (Ch.s (dB false) (pF rfl) (Ch.s (dB false) pm ?_)))))))
       refine Ck (Ck (Ck (Ck (Ck (Ck (Ck (Ch.skip rfl rfl ?_)))))))
       refine Ck (Ch.s (dB false) (pF rfl) (Ch.nil ?_))
       refine T_cond (b := false) rfl (fun h => nomatch h) (fun _ => ?_)
       refine Tk (Tz hc (Ch.s (dI ((m : Int) + 1)) (iX rfl rfl intV_addA) (Ch.s (dI ((m : Int) + 1)) pm (Ch.nil ?_))))
       exact nx (m + 1) (by omega) (Wk.of rfl rfl (ar (ar (ar (ar (ar (ar (ar (ar (ar (ar (ai (vI a126) trivial))))))))))) (ai (oR a4) (ar trivial)))
      | false =>
       replace h6 := odf h6
       refine Ch.s (.agg (vX x)) (lA ag35 sz35 rfl rfl (lb rfl) rfl) (Ch.s (.ptr 7000 3) (fP fld125_3 rfl) (Ch.s (dI ((x.arcs.getD m default).dst)) (lP ag3 rfl rfl rfl) (Ch.s (dI (s : Int)) pm (Ch.s (dB (excB x ((x.arcs.getD m default).dst) (s : Int))) (.call 48000 158 _ _ _ en158 rfl (.inl rfl) (.cons lX (.cons (.d _) (.cons (.d _) .nil))) rfl rfl (sp_spec_l5Excited x ((x.arcs.getD m default).dst) (s : Int) a46) (.skip _ _ (.skip _ _ (.skip _ _ .nil))) rfl) (Ch.s (dB (!(excB x ((x.arcs.getD m default).dst) (s : Int)))) (nT rfl) (Ch.s (dB (!(excB x ((x.arcs.getD m default).dst) (s : Int)))) (pT rfl) (Ch.s (dB (!(excB x ((x.arcs.getD m default).dst) (s : Int)))) pm ?_)))))))
       cases h7 : (excB x ((x.arcs.getD m default).dst) (s : Int)) with
       | true =>
        refine Ck (Ck (Ck (Ck (Ck (Ck (Ck (Ch.skip rfl rfl ?_)))))))
        refine Ck (Ch.s (dB false) (pF rfl) (Ch.nil ?_))
        refine T_cond (b := false) rfl (fun h => nomatch h) (fun _ => ?_)
        refine Tk (Tz hc (Ch.s (dI ((m : Int) + 1)) (iX rfl rfl intV_addA) (Ch.s (dI ((m : Int) + 1)) pm (Ch.nil ?_))))
        exact nx (m + 1) (by omega) (Wk.of rfl rfl (ar (ar (ar (ar (ar (ar (ar (ar (ar (ar (ai (vI a126) trivial))))))))))) (ai (oR a4) (ar trivial)))
       | false =>
        refine Ch.s (.agg (vX x)) (lA ag35 sz35 rfl rfl (lb rfl) rfl) (Ch.s (dI (s : Int)) pm (Ch.s (dB (!(inputB x (s : Int)))) (.call 54000 203 _ _ _ en203 rfl (.inl rfl) (.cons lX (.cons (.d _) .nil)) rfl rfl (sp_spec_l6Own x (s : Int) a46 a137) (.skip _ _ (.skip _ _ .nil)) rfl) (Ch.s (dB (!(inputB x (s : Int)))) pm ?_)))
        cases h8 : (inputB x (s : Int)) with
        | true =>
         refine Ch.s (.agg (vX x)) (lA ag35 sz35 rfl rfl (lb rfl) rfl) (Ch.s (.ptr 7000 1) (fP fld125_1 rfl) (Ch.s (dI ((x.arcs.getD m default).sig)) (lP ag3 rfl rfl rfl) (Ch.s (dB (!(inputB x ((x.arcs.getD m default).sig)))) (.call 59000 203 _ _ _ en203 rfl (.inl rfl) (.cons lX (.cons (.d _) .nil)) rfl rfl (sp_spec_l6Own x ((x.arcs.getD m default).sig) a46 a137) (.skip _ _ (.skip _ _ .nil)) rfl) (Ch.s (dB (!(inputB x ((x.arcs.getD m default).sig)))) (pF rfl) (Ch.s (dB (!(inputB x ((x.arcs.getD m default).sig)))) (pT rfl) (Ch.nil ?_))))))
         refine T_condN (b := (inputB x ((x.arcs.getD m default).sig))) rfl (fun h9 => ?_) (fun h9 => ?_)
         ·
          refine Tz hc (Ch.s (.row 3) pm (Ch.s (dI (k : Int)) pm (Ch.s (dI (s : Int)) pm (Ch.s (dI (m : Int)) pm (Ch.s (.agg [(dI (k : Int)), (dI (s : Int)), (dI (m : Int))]) (.build _ _ rfl stru216 (.cons (.one _ rfl) (.cons (.one _ rfl) (.cons (.one _ rfl) .nil))) rfl) (Ch.s (.row 67000) (.slice 67000 _ 216 _ rfl sty175 (xs := [.tmp 66]) rfl rfl (.cons (.agg (.cons (.d _) (.cons (.d _) (.cons (.d _) .nil))) rfl) .nil) rfl rfl (by decide)) ?_))))))
          refine Ch.step (v := (.row 68000)) rfl (.append 68000 _ _ _ 216 rfl sty175 (by decide) (.rowK rfl) (.inr ⟨_, rfl, rfl⟩) (.row rfl rfl) rfl a69) rfl rfl ?_
          refine Ch.s (.row 68000) pa (Ch.nil (Tz hc (Ch.s (dI ((m : Int) + 1)) (iX rfl rfl intV_addA) (Ch.s (dI ((m : Int) + 1)) pm (Ch.nil ?_)))))
          exact nx (m + 1) (by omega) (Wk.ren [(3, 68000)] rfl rfl rfl rfl (ar (ar (ar (ar (ar (ar (ar (ar (ar (ar (ai (vI a126) trivial))))))))))) (ai (oR a4) (ar trivial)))
         ·
          refine Tk (Tz hc (Ch.s (dI ((m : Int) + 1)) (iX rfl rfl intV_addA) (Ch.s (dI ((m : Int) + 1)) pm (Ch.nil ?_))))
          exact nx (m + 1) (by omega) (Wk.of rfl rfl (ar (ar (ar (ar (ar (ar (ar (ar (ar (ar (ai (vI a126) trivial))))))))))) (ai (oR a4) (ar trivial)))
        | false =>
         refine Ck (Ck (Ck (Ck (Ch.s (dB true) (pT rfl) (Ch.s (dB true) (pT rfl) (Ch.nil ?_))))))
         refine T_cond (b := true) rfl (fun _ => ?_) (fun h => nomatch h)
         refine Tz hc (Ch.s (.row 3) pm (Ch.s (dI (k : Int)) pm (Ch.s (dI (s : Int)) pm (Ch.s (dI (m : Int)) pm (Ch.s (.agg [(dI (k : Int)), (dI (s : Int)), (dI (m : Int))]) (.build _ _ rfl stru216 (.cons (.one _ rfl) (.cons (.one _ rfl) (.cons (.one _ rfl) .nil))) rfl) (Ch.s (.row 67000) (.slice 67000 _ 216 _ rfl sty175 (xs := [.tmp 66]) rfl rfl (.cons (.agg (.cons (.d _) (.cons (.d _) (.cons (.d _) .nil))) rfl) .nil) rfl rfl (by decide)) ?_))))))
         refine Ch.step (v := (.row 68000)) rfl (.append 68000 _ _ _ 216 rfl sty175 (by decide) (.rowK rfl) (.inr ⟨_, rfl, rfl⟩) (.row rfl rfl) rfl a69) rfl rfl ?_
         refine Ch.s (.row 68000) pa (Ch.nil (Tz hc (Ch.s (dI ((m : Int) + 1)) (iX rfl rfl intV_addA) (Ch.s (dI ((m : Int) + 1)) pm (Ch.nil ?_)))))
         exact nx (m + 1) (by omega) (Wk.ren [(3, 68000)] rfl rfl rfl rfl (ar (ar (ar (ar (ar (ar (ar (ar (ar (ar (ai (vI a126) trivial))))))))))) (ai (oR a4) (ar trivial)))
     | false =>
      replace h5 := odf h5
      refine Ck (Ck (Ck (Ck (Ch.s (dB false) (pF rfl) (Ch.s (dB false) pm (Ck (Ch.skip rfl rfl ?_)))))))
      refine Ck (Ck (Ck (Ck (Ch.s (dB false) (pF rfl) (Ch.s (dB false) pm (Ck (Ch.skip rfl rfl ?_)))))))
      refine Ck (Ck (Ck (Ck (Ck (Ck (Ck (Ch.s (dB false) (pF rfl) ?_)))))))
      refine Ch.nil ?_
      refine T_cond (b := false) rfl (fun h => nomatch h) (fun _ => ?_)
      refine Tk (Tz hc (Ch.s (dI ((m : Int) + 1)) (iX rfl rfl intV_addA) (Ch.s (dI ((m : Int) + 1)) pm (Ch.nil ?_))))
      exact nx (m + 1) (by omega) (Wk.of rfl rfl (ar (ar (ar (ar (ar (ar (ar (ar (ar (ar (ai (vI a126) trivial))))))))))) (ai (oR a4) (ar trivial)))
    ·
     try have hek := hen _ (getD_mem (l := x.arcs) (j := m) (d := default) (by omega))
     try have hsk := (hx.sig _ (getD_mem (l := x.arcs) (j := m) (d := default) (by omega))).1
     refine T_exit (Tz hc (Ch.s (dI ((s : Int) + 1)) (iX rfl rfl intV_addA) (Ch.s (dI ((s : Int) + 1)) pm (Ch.nil ?_))))
     exact nx (s + 1) (by omega) (Wk.of rfl rfl (ar (ar (ar (ar (ar (ar (ai (vI a126) trivial))))))) (ai (oR a17) (ar trivial)))
  ·
   refine T_exit (Tz hc (Ch.s (dI ((k : Int) + 1)) (iX rfl rfl intV_addA) (Ch.s (dI ((k : Int) + 1)) pm (Ch.nil ?_))))
   exact nx (k + 1) (by omega) (Wk.of rfl rfl (ar (ar (ar (ai (vI a126) trivial)))) (ai (oR a113) (ar trivial)))
 ·
  refine T_exit (Ts hc (Ch.s (.row 3) pm (Ch.s (.row 3) pa (Ch.nil (T_ret ?_)))))
  exact eR [(.row 3)] [] [3] (.cons (.tmp 2 rfl) .nil) eA (Exp.of (congrArg (D.slice true 3) (by rw [pvL, show x.codes.length = k by omega])) (.row rfl))

theorem sp_prA (x : Sgr) (hb : x.bulk ≤ 1048576) (hx : SgOk x) : Sp Tryz.prog 221 [(.agg [(.slice false 2 (x.sigs.map Sgn.d)), (.slice false 1 (x.codes.map D.str)), (.slice false 4 (x.arcs.map Arc.d))])] [.any] (.slice true 1 ((prA x).map intsU)) := sp_spec_l6Pairs x hb hx

set_option maxHeartbeats 2000000 in
theorem sp_spec_l6Conflicts (x : Sgr) (hb : x.bulk ≤ 1048576) (hx : SgOk x) : Sp Tryz.prog 169 [(.agg [(.slice false 2 (x.sigs.map Sgn.d)), (.slice false 1 (x.codes.map D.str)), (.slice false 4 (x.arcs.map Arc.d))])] [.any] (.slice true 1 ((cfL x).map intsU)) := by
 refine Sp_intro (lend := true) Tryz.func169 rfl rfl rfl (fun _ => rfl) (fun c hc hX => ?_)
 obtain ⟨hp0, hp1, hp2⟩ := Sgr.parts hb
 have hn0 := bulkF_len hp0
 have hn1 := bulk_len hp1
 have hx1 := bulk_mem hp1
 have hn2 := bulkF_len hp2; have hx8 := hx.eight; have hxl := hx.len; have hxf := hx.few; have hen := hx.ends; have hpl : (prA x).length ≤ 90000 := Nat.le_trans (prTo_le (eqP x) (n := x.codes.length) (by omega) x.codes.length) (by omega); have hol := outs_len x.sigs
 refine Ts hc (Ch.s (.ptr 1000 0) (.box 1000 _ _ rfl (.aggD _)) (Ch.s (.c (.slice none 0 0)) pa (Ch.nil (Ts hc (Ch.s (.c (.slice none 0 0)) pa ?_)))))
 refine Ch.nil (Tq (Ts hc (Ch.s (.agg (vX x)) (lA ag35 sz35 rfl rfl (lb rfl) rfl) ?_)))
 refine Ch.step (v := (.row 10000)) rfl (.call 10000 221 _ _ _ en221 rfl (.inl rfl) (.cons lX .nil) rfl (sol (solid_row intsU_sol _) rfl) (sp_prA x a46 (by assumption)) (.skip _ _ .nil) rfl) rfl rfl ?_
 refine Ch.s (dI ((prA x).length : Int)) (.pure (.len _ _ 55 rfl Tryz.underlying49 (.row rfl) (by simp))) (Ch.s (dI 0) pm (Ch.nil (Tb ?_)))
 refine T_loop (ι := Nat × List D) (fun q => { n := 47, sl := [(1, (.ptr 1000 0)), (3, (.row 3)), (10, (.row 10000)), (11, (dI ((prA x).length : Int))), (12, (dI (q.1 : Int)))], hp := [(3, (some (.row 1 ((unK x q.1).map intsU)))), (1000, (some (.box (vX x)))), (10000, (some (.row 1 ((q.2 ++ ((prA x).drop q.1).map intsU)))))], pin := [] }) (fun q => q.1 ≤ (prA x).length ∧ q.2.length = q.1) (fun q => (prA x).length - q.1) ⟨(0, []), ⟨by dsimp only; omega, rfl⟩, (Wk.trans (Wk.nilrow 3 900003 1 rfl rfl rfl) (Wk.ren [(3, 900003)] rfl rfl rfl rfl (ar (ar (ar (ar (ai (vI a126) trivial))))) (ai (oR a28) (ar (ai (oR a28) trivial)))))⟩ (fun q hp0 => ?_)
 have hq := unK_le x q.1; have hgl := mg_len (f := intsU) hp0.2 hp0.1
 refine Ts hc (Ch.s (dB (decide ((q.1 : Int) < ((prA x).length : Int)))) (iX rfl rfl rfl) (Ch.nil (Tq ?_)))
 refine T_condD (p := ((q.1 : Int) < ((prA x).length : Int))) rfl (fun h1 => ?_) (fun h1 => ?_)
 ·
  try have hpr := prTo_in (Nat.le_refl _) _ (getD_mem (l := prA x) (j := q.1) (d := default) (by omega))
  try have hp2 := hpr.1
  refine Tk (Tq (Tb (Tq ?_)))
  refine T_take 10000 q.1 7000002 7000003 rfl (mg_at hp0.2 (by omega)) rfl rfl (fun u1 => ?_)
  refine Tz hc (Ch.s (.el 10000 1 q.1 0) (.pure (.idxRow _ _ _ 55 (q.1) rfl Tryz.underlying49 sz55 rfl rfl rfl rfl a96)) (Ch.s (.row 7000002) (.pure (.loadHole (n := 7000002) (m := 7000003) (u := u1) _ _ rfl ag55 rfl rfl (get_set a96) rfl rfl)) (Ch.s (.row 7000002) pa (Ch.nil (Ts hc (Ch.s (dB false) pa ?_))))))
  refine Ch.nil (Tq (Ts hc (Ch.s (.agg (vX x)) (lA ag35 sz35 rfl rfl (lb rfl) rfl) ?_)))
  refine Ch.step (v := (.row 17000)) rfl (.call 17000 131 _ _ _ en131 rfl (.inl rfl) (.cons lX .nil) rfl (sol (solid_row (fun _ => rfl) _) rfl) (sp_spec_l6Owned x a46) (.skip _ _ .nil) rfl) rfl rfl ?_
  refine Ch.s (dI ((outsL x.sigs).length : Int)) (.pure (.len _ _ 3 rfl Tryz.underlying55 (.row rfl) (by simp))) (Ch.s (dI 0) pm (Ch.nil (Tb ?_)))
  refine T_loop (ι := Nat) (fun m => { n := 47, sl := [(1, (.ptr 1000 0)), (3, (.row 3)), (5, (.row 7000002)), (6, (dB (unM x ((prA x).getD q.1 default) m))), (10, (.row 10000)), (11, (dI ((prA x).length : Int))), (12, (dI (q.1 : Int))), (17, (.row 17000)), (18, (dI ((outsL x.sigs).length : Int))), (19, (dI (m : Int)))], hp := [(3, (some (.row 1 ((unK x q.1).map intsU)))), (1000, (some (.box (vX x)))), (10000, (some (.row 1 ((((q.2 ++ ((prA x).drop q.1).map intsU))).set q.1 (.hole u1))))), (17000, (some (.row 1 ((outsL x.sigs).map (fun n : Int => D.int .i64 n))))), (7000002, (some (.row 1 (((prA x).getD q.1 default).map (fun n : Int => D.int .i64 n))))), (7000003, (some (.head 7000002 u1)))], pin := [] }) (fun m => m ≤ (outsL x.sigs).length) (fun m => (outsL x.sigs).length - m) ⟨0, (by omega), (Wk.of rfl rfl (ar (ar (ar (ai (vB a37) (ar (ar (ar (ar (ar (ai (vI a126) trivial)))))))))) (ar (ar (ar (ar (ar (ar trivial)))))))⟩ (fun m hp1 => ?_)
  refine Ts hc (Ch.s (dB (decide ((m : Int) < ((outsL x.sigs).length : Int)))) (iX rfl rfl rfl) (Ch.nil (Tq ?_)))
  refine T_condD (p := ((m : Int) < ((outsL x.sigs).length : Int))) rfl (fun h2 => ?_) (fun h2 => ?_)
  ·
   refine Tk (Tq (Tb (Ts hc (Ch.s (.el 17000 1 m 0) (.pure (.idxRow _ _ _ 3 (m) rfl Tryz.underlying55 sz3 rfl rfl rfl rfl a96)) (Ch.s (dI ((outsL x.sigs).getD m default)) (.pure (.loadEl1 _ _ rfl ag3 rfl rfl get_mapA rfl rfl rfl)) (Ch.s (dI ((outsL x.sigs).getD m default)) pa ?_))))))
   refine Ch.nil ?_
   refine T_regionD hc (by kernel_rfl) ?_
   refine ChD.s (dB (unM x ((prA x).getD q.1 default) m)) [] pm (ChD.s (dB (unM x ((prA x).getD q.1 default) m)) [] pm ?_)
   cases h3 : (unM x ((prA x).getD q.1 default) m) with
   | true =>
    refine ChD.skip rfl rfl (ChD.skip rfl rfl (ChD.skip rfl rfl (ChD.skip rfl rfl (ChD.skip rfl rfl (ChD.skip rfl rfl (ChD.skip rfl rfl (ChD.skip rfl rfl ?_)))))))
    refine ChD.skip rfl rfl (ChD.skip rfl rfl (ChD.skip rfl rfl (ChD.skip rfl rfl (ChD.skip rfl rfl (ChD.s (dB true) [] (pT rfl) (ChD.s (dB true) [] pa ?_))))))
    refine ChD.nil (And.intro ?_ (by kernel_rfl))
    refine Tz hc (Ch.s (dI ((m : Int) + 1)) (iX rfl rfl intV_addA) (Ch.s (dI ((m : Int) + 1)) pm (Ch.nil ?_)))
    exact nx (m + 1) (by omega) (Wk.of rfl rfl (ar (ar (ar (ai (vB a37) (ar (ar (ar (ar (ar (ai (vI a126) trivial)))))))))) (ar (ar (ar (ar (ar (ar trivial)))))))
   | false =>
    refine ChD.s (.agg (vX x)) [1000] (lA ag35 sz35 rfl rfl (lb rfl) rfl) (ChD.s (.row 7000002) [] pm (ChD.s (.el 7000002 1 0 0) [7000002] (.pure (.idxRow _ _ _ 3 (0) rfl Tryz.underlying55 sz3 rfl rfl rfl rfl a96)) (ChD.s (dI (((prA x).getD q.1 default).getD 0 default)) [7000002] (.pure (.loadEl1 _ _ rfl ag3 rfl rfl get_mapA rfl rfl rfl)) (ChD.s (dI ((outsL x.sigs).getD m default)) [] pm (ChD.s (dB (excB x (((prA x).getD q.1 default).getD 0 default) ((outsL x.sigs).getD m default))) [] (.call 30000 158 _ _ _ en158 rfl (.inl rfl) (.cons lX (.cons (.d _) (.cons (.d _) .nil))) rfl rfl (sp_spec_l5Excited x (((prA x).getD q.1 default).getD 0 default) ((outsL x.sigs).getD m default) a46) (.skip _ _ (.skip _ _ (.skip _ _ .nil))) rfl) (ChD.s (.agg (vX x)) [1000] (lA ag35 sz35 rfl rfl (lb rfl) rfl) (ChD.s (.row 7000002) [] pm ?_)))))))
    refine ChD.s (.el 7000002 1 1 0) [7000002] (.pure (.idxRow _ _ _ 3 (1) rfl Tryz.underlying55 sz3 rfl rfl rfl rfl a96)) (ChD.s (dI (((prA x).getD q.1 default).getD 1 default)) [7000002] (.pure (.loadEl1 _ _ rfl ag3 rfl rfl get_mapA rfl rfl rfl)) (ChD.s (dI ((outsL x.sigs).getD m default)) [] pm (ChD.s (dB (excB x (((prA x).getD q.1 default).getD 1 default) ((outsL x.sigs).getD m default))) [] (.call 36000 158 _ _ _ en158 rfl (.inl rfl) (.cons lX (.cons (.d _) (.cons (.d _) .nil))) rfl rfl (sp_spec_l5Excited x (((prA x).getD q.1 default).getD 1 default) ((outsL x.sigs).getD m default) a46) (.skip _ _ (.skip _ _ (.skip _ _ .nil))) rfl) (ChD.s (dB (!(decide ((excB x (((prA x).getD q.1 default).getD 0 default) ((outsL x.sigs).getD m default)) = (excB x (((prA x).getD q.1 default).getD 1 default) ((outsL x.sigs).getD m default)))))) [] (.pure (.neB _ _ _ _ rfl Tryz.underlying4 rfl rfl)) (ChD.s (dB (!(decide ((excB x (((prA x).getD q.1 default).getD 0 default) ((outsL x.sigs).getD m default)) = (excB x (((prA x).getD q.1 default).getD 1 default) ((outsL x.sigs).getD m default)))))) [] (pF rfl) (ChD.s (dB (!(decide ((excB x (((prA x).getD q.1 default).getD 0 default) ((outsL x.sigs).getD m default)) = (excB x (((prA x).getD q.1 default).getD 1 default) ((outsL x.sigs).getD m default)))))) [] pa ?_))))))
    refine ChD.nil (And.intro ?_ (by kernel_rfl))
    refine Tz hc (Ch.s (dI ((m : Int) + 1)) (iX rfl rfl intV_addA) (Ch.s (dI ((m : Int) + 1)) pm (Ch.nil ?_)))
    exact nx (m + 1) (by omega) (Wk.of rfl rfl (ar (ar (ar (ai (vB a37) (ar (ar (ar (ar (ar (ai (vI a126) trivial)))))))))) (ar (ar (ar (ar (ar (ar trivial)))))))
  ·
   refine T_exit (Ts hc (Ch.s (dB (unM x ((prA x).getD q.1 default) m)) pm (Ch.nil ?_)))
   refine T_cond (b := (unM x ((prA x).getD q.1 default) m)) rfl (fun h4 => ?_) (fun h4 => ?_)
   ·
    refine Tz hc (Ch.s (.row 3) pm (Ch.s (.row 7000002) pm (Ch.s (.row 43000) (.slice 43000 _ 55 _ rfl sty49 (xs := [.tmp 42]) rfl rfl (.cons (.row rfl) .nil) rfl rfl (by decide)) ?_)))
    refine Ch.step (v := (.row 44000)) rfl (.append 44000 _ _ _ 55 rfl sty49 (by decide) (.rowK rfl) (.inr ⟨_, rfl, rfl⟩) (.rowK rfl) rfl a69) rfl rfl ?_
    refine Ch.s (.row 44000) pa (Ch.nil (Tz hc (Ch.s (dI ((q.1 : Int) + 1)) (iX rfl rfl intV_addA) (Ch.s (dI ((q.1 : Int) + 1)) pm (Ch.nil ?_)))))
    exact nx (q.1 + 1, q.2 ++ [.hole u1]) ⟨by dsimp only; omega, by dsimp only; rw [List.length_append, hp0.2]; rfl⟩ (Wk.ren [(3, 44000)] rfl rfl rfl rfl (ar (ar (ar (ar (ai (vI a126) trivial))))) (ai (oR a28) (ar (ai (oR a28) trivial))))
   ·
    refine Tk (Tz hc (Ch.s (dI ((q.1 : Int) + 1)) (iX rfl rfl intV_addA) (Ch.s (dI ((q.1 : Int) + 1)) pm (Ch.nil ?_))))
    exact nx (q.1 + 1, q.2 ++ [.hole u1]) ⟨by dsimp only; omega, by dsimp only; rw [List.length_append, hp0.2]; rfl⟩ (Wk.of rfl rfl (ar (ar (ar (ar (ai (vI a126) trivial))))) (ai (oR a28) (ar (ai (oR a28) trivial))))
 ·
  try have hpr := prTo_in (Nat.le_refl _) _ (getD_mem (l := prA x) (j := q.1) (d := default) (by omega))
  try have hp2 := hpr.1
  refine T_exit (Ts hc (Ch.s (.row 3) pm (Ch.s (.row 3) pa (Ch.nil (T_ret ?_)))))
  exact eR [(.row 3)] [] [3] (.cons (.tmp 2 rfl) .nil) eA (Exp.of (congrArg (D.slice true 1) (by rw [← unK_all (k := q.1) (by omega)])) (.row rfl))

theorem sp_impl_diagnosis_1 (a : Arc) : Sp Tryz.prog 281 [(.agg [(.int .i64 a.src), (.int .i64 a.sig), (.bool (a.up)), (.int .i64 a.dst)])] [.any] (.bool (decide (a.sig = -1))) := by
 refine Sp_intro (lend := true) Tryz.func281 rfl rfl rfl (fun _ => rfl) (fun c hc hX => ?_)
 refine Ts hc (Ch.s (.ptr 1000 0) (.box 1000 _ _ rfl (.aggD _)) (Ch.s (dB false) pa (Ch.nil (Ts hc (Ch.s (.ptr 1000 1) (fP fld125_1 rfl) ?_)))))
 refine Ch.s (dI a.sig) (lP ag3 rfl rfl rfl) (Ch.s (dB (decide (a.sig = (-1)))) (iX rfl rfl rfl) (Ch.s (dB (decide (a.sig = (-1)))) pa (Ch.nil (T_ret ?_))))
 exact eR [(dB (decide (a.sig = (-1))))] [] [] (.cons (.tmp 2 rfl) .nil) eA (Exp.of (congrArg D.bool (by rfl)) (.d _))

theorem sp_spec_l6Hidden (x : Sgr) (hb : x.bulk ≤ 1048576) (hx : SgOk x) : Sp Tryz.prog 166 [(.agg [(.slice false 2 (x.sigs.map Sgn.d)), (.slice false 1 (x.codes.map D.str)), (.slice false 4 (x.arcs.map Arc.d))])] [.any] (.bool (hidB x)) := by
 refine Sp_intro (lend := true) Tryz.func166 rfl rfl rfl (fun _ => rfl) (fun c hc hX => ?_)
 obtain ⟨hp0, hp1, hp2⟩ := Sgr.parts hb
 have hn0 := bulkF_len hp0
 have hn1 := bulk_len hp1
 have hx1 := bulk_mem hp1
 have hn2 := bulkF_len hp2; have hx8 := hx.eight; have hxl := hx.len; have hxf := hx.few; have hen := hx.ends
 refine Ts hc (Ch.s (.ptr 1000 0) (.box 1000 _ _ rfl (.aggD _)) (Ch.s (dB false) pa (Ch.nil (Tq (Tq (Tz hc ?_))))))
 refine Ch.s (.ptr 1000 2) (fP fld35_2 rfl) (Ch.s (.d (.slice false 4 (x.arcs.map Arc.d))) (lP ag33 rfl rfl rfl) (Ch.s (dI (x.arcs.length : Int)) (.pure (.len _ _ 125 rfl Tryz.underlying33 (.sh _ _) (by simp))) (Ch.s (dI 0) pm (Ch.nil (Tb ?_)))))
 refine T_loop (ι := Nat) (fun k => { n := 16, sl := [(6, (.d (.slice false 4 (x.arcs.map Arc.d)))), (7, (dI (x.arcs.length : Int))), (8, (dI (k : Int)))], hp := [], pin := [] }) (fun k => k ≤ x.arcs.length ∧ ∀ j, j < k → decide ((x.arcs.getD j default).sig = -1) = false) (fun k => x.arcs.length - k) ⟨0, ⟨by omega, fun j hj => by omega⟩, (Wk.of rfl rfl (ar (ar (ai (vI a126) trivial))) trivial)⟩ (fun k hp0 => ?_)
 refine Ts hc (Ch.s (dB (decide ((k : Int) < (x.arcs.length : Int)))) (iX rfl rfl rfl) (Ch.nil (Tq ?_)))
 refine T_condD (p := ((k : Int) < (x.arcs.length : Int))) rfl (fun h1 => ?_) (fun h1 => ?_)
 ·
  try have hsk := (hx.sig _ (getD_mem (l := x.arcs) (j := k) (d := default) (by omega))).2
  refine Tk (Tq (Tb (Ts hc (Ch.s (.d (.ref (.agg [(.int .i64 ((x.arcs.getD k default).src)), (.int .i64 ((x.arcs.getD k default).sig)), (.bool ((x.arcs.getD k default).up)), (.int .i64 ((x.arcs.getD k default).dst))]))) (.pure (.idx _ _ _ 125 (k) rfl Tryz.underlying33 sz125 rfl rfl rfl get_mapA)) (Ch.s (.d (.agg [(.int .i64 ((x.arcs.getD k default).src)), (.int .i64 ((x.arcs.getD k default).sig)), (.bool ((x.arcs.getD k default).up)), (.int .i64 ((x.arcs.getD k default).dst))])) (.pure (.loadRefA _ _ rfl ag125 sz125 rfl)) (Ch.s (.ptr 4000 0) (.alloc 4000 _ rfl zer125) ?_))))))
  refine Ch.s .junk (.storePtr _ _ _ rfl rfl rfl (.aggD _) sz125 (lb rfl)) (Ch.nil (Ts hc (Ch.s (.ptr 4000 1) (fP fld125_1 rfl) (Ch.s (dI ((x.arcs.getD k default).sig)) (lP ag3 rfl rfl rfl) (Ch.s (dB (decide (((x.arcs.getD k default).sig) < 0))) (iX rfl rfl rfl) (Ch.nil ?_))))))
  refine T_condD (p := (((x.arcs.getD k default).sig) < 0)) rfl (fun h2 => ?_) (fun h2 => ?_)
  ·
   refine Ts hc (Ch.s (dB true) pa (Ch.nil (T_ret ?_)))
   exact eR [(dB true)] [] [] (.cons (.tmp 2 rfl) .nil) eA (Exp.of (congrArg D.bool (by exact any_yes default k (by omega) (decide_eq_true (by omega)))) (.d _))
  ·
   refine Tk (Tz hc (Ch.s (dI ((k : Int) + 1)) (iX rfl rfl intV_addA) (Ch.s (dI ((k : Int) + 1)) pm (Ch.nil ?_))))
   exact nx (k + 1) ⟨by omega, upto_succ hp0.2 (decide_eq_false (by omega))⟩ (Wk.of rfl rfl (ar (ar (ai (vI a126) trivial))) trivial)
 ·
  try have hsk := (hx.sig _ (getD_mem (l := x.arcs) (j := k) (d := default) (by omega))).2
  refine T_exit (Ts hc (Ch.s (dB false) pa (Ch.nil (T_ret ?_))))
  exact eR [(dB false)] [] [] (.cons (.tmp 2 rfl) .nil) eA (Exp.of (congrArg D.bool a124) (.d _))

end Go.AM
