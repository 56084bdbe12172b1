/-
  The contracts that the law FnExactInsertionPartition needs.
-/
import Derived.Test.YtogmlhclonlnpaaZInsertionPartition2
import Derived.Test.YtogmlhclonlnpaaSh
namespace Go.AM
open Go.Proofs
set_option linter.unusedVariables false
set_option linter.unusedSimpArgs false

theorem sp_impl_isPartition (x : Sgr) (u : List UInt8) (hb : x.bulk ≤ 1048576) (hu : u.length ≤ 1048576) (hen : ends u.length x.arcs) : Sp Try.prog 91 [(.agg [(.slice false 2 (x.sigs.map Sgn.d)), (.slice false 1 (x.codes.map D.str)), (.slice false 4 (x.arcs.map Arc.d))]), (.str u)] [.any, .any] (.bool (partB x u)) := by
 refine Sp_intro (lend := true) Try.func91 rfl rfl rfl (fun _ => rfl) (fun c hc hX => ?_)
 obtain ⟨hp0, hp1, hp2⟩ := Sgr.parts hb
 have hn0 := bulkF_len hp0
 have hn1 := bulk_len hp1
 have hx1 := bulk_mem hp1
 have hn2 := bulkF_len hp2
 refine T_seq ?_
 refine T_region hc ?_
 refine Ch.s (.ptr 2000 0) (.box 2000 _ _ rfl (.aggD _)) ?_
 refine Ch.s (.ptr 3000 0) (.box 3000 _ _ rfl (.one _ rfl)) ?_
 refine Ch.s (.d (.bool false)) (.pure (.assign _ rfl rfl)) ?_
 refine Ch.nil ?_
 refine T_seq ?_
 refine T_region hc ?_
 refine Ch.s (.ptr 2000 2) (.pure (.fldPtr _ _ _ rfl fld34_2 rfl)) ?_
 refine Ch.s (.d (.slice false 4 (x.arcs.map Arc.d))) (.pure (.loadPtr1 _ _ rfl ag32 rfl rfl rfl)) ?_
 refine Ch.s (.fn 129 [(.ptr 3000 0)]) (.pure (.func _ _ rfl rfl)) ?_
 refine Ch.s (.d (.bool (x.arcs.any (fun a => !goArc u a)))) (.call 8000 128 _ _ _ en128 rfl (.inl rfl) (.cons (.d _) (.cons (.lend (.fn (.cons (.ptr rfl (.one (.d _) rfl)) .nil))) .nil)) rfl rfl (sp_ContainsFunc_arc x.arcs 129 [(.ref (.str u))] (fun a => !goArc u a) en129 (fun a ha => sp_impl_isPartition_1 a u (hen a ha)) (by first | omega | assumption | (exact hx _ (getD_mem (by omega))) | (exact hx _ (by assumption)) | (exact Nat.le_trans (hx _ (by assumption)) (by omega)) | (simp only [List.length_append, List.length_take, List.length_drop, List.length_cons, List.length_nil]; omega) | (simp_all; done))) (.skip _ _ (.skip _ _ .nil)) rfl) ?_
 refine Ch.s (.d (.bool (!(x.arcs.any (fun a => !goArc u a))))) (.pure (.not _ _ rfl rfl)) ?_
 refine Ch.s (.d (.bool (!(x.arcs.any (fun a => !goArc u a))))) (.pure (.assign _ rfl rfl)) ?_
 refine Ch.nil ?_
 refine T_ret ?_
 refine And.intro (.inr rfl) ?_
 exact Exists.intro [(.d (.bool (!(x.arcs.any (fun a => !goArc u a)))))] (Exists.intro [] (Exists.intro [] (And.intro (.cons (.tmp 4 rfl) .nil) (And.intro (.cons (.any _) (.cons (.any _) .nil)) (And.intro (Exp.of (congrArg D.bool (by exact part_any x u)) (.d _)) (And.intro rfl rfl))))))

theorem sp_spec_l11Good (x : Sgr) (u : List UInt8) (hb : x.bulk ≤ 1048576) (hu : u.length ≤ 1048576) (hen : ends u.length x.arcs) : Sp Try.prog 89 [(.agg [(.slice false 2 (x.sigs.map Sgn.d)), (.slice false 1 (x.codes.map D.str)), (.slice false 4 (x.arcs.map Arc.d))]), (.str u)] [.any, .any] (.bool (partB x u)) := by
 refine Sp_intro (lend := true) Try.func89 rfl rfl rfl (fun _ => rfl) (fun c hc hX => ?_)
 obtain ⟨hp0, hp1, hp2⟩ := Sgr.parts hb
 have hn0 := bulkF_len hp0
 have hn1 := bulk_len hp1
 have hx1 := bulk_mem hp1
 have hn2 := bulkF_len hp2
 refine T_seq ?_
 refine T_region hc ?_
 refine Ch.s (.ptr 2000 0) (.box 2000 _ _ rfl (.aggD _)) ?_
 refine Ch.s (.d (.bool false)) (.pure (.assign _ rfl rfl)) ?_
 refine Ch.nil ?_
 refine T_seq ?_
 refine T_seq ?_
 refine T_region hc ?_
 refine Ch.s (.ptr 2000 2) (.pure (.fldPtr _ _ _ rfl fld34_2 rfl)) ?_
 refine Ch.s (.d (.slice false 4 (x.arcs.map Arc.d))) (.pure (.loadPtr1 _ _ rfl ag32 rfl rfl rfl)) ?_
 refine Ch.s (.d (.int .i64 ((x.arcs.length : Nat) : Int))) (.pure (.len _ _ 85 rfl Try.underlying32 (.sh _ _) (by simp))) ?_
 refine Ch.s (.d (.int .i64 0)) (.pure (.move _ rfl rfl)) ?_
 refine Ch.nil ?_
 refine T_block ?_
 refine T_loop (ι := Nat) (fun k => { n := 25, sl := [(1, (.d (.str u))), (8, (.d (.slice false 4 (x.arcs.map Arc.d)))), (9, (.d (.int .i64 ((x.arcs.length : Nat) : Int)))), (10, (.d (.int .i64 ((k : Nat) : Int))))], hp := [], pin := [] }) (fun k => k ≤ x.arcs.length ∧ ∀ j, j < k → goArc u (x.arcs.getD j default) = true) (fun k => x.arcs.length - k) ⟨0, ⟨by omega, fun j hj => by omega⟩, (Wk.of rfl rfl (And.intro rfl (And.intro rfl (And.intro rfl (And.intro (vI (by first | rfl | omega | (simp; done) | (simp; omega))) trivial)))) trivial)⟩ (fun k hp0 => ?_)
 refine T_seq ?_
 refine T_region hc ?_
 refine Ch.s (.d (.bool (decide (((k : Nat) : Int) < ((x.arcs.length : Nat) : Int))))) (.pure (.int _ _ _ _ _ rfl rfl rfl rfl)) ?_
 refine Ch.nil ?_
 refine T_seq ?_
 refine T_cond (b := (decide (((k : Nat) : Int) < ((x.arcs.length : Nat) : Int)))) rfl (fun h1 => ?_) (fun h1 => ?_)
 ·
  replace h1 := of_decide_eq_true h1
  try have hek := hen _ (getD_mem (l := x.arcs) (j := k) (d := default) (by omega))
  refine T_skip ?_
  refine T_seq ?_
  refine T_block ?_
  refine T_seq ?_
  refine T_region hc ?_
  refine Ch.s (.d (.ref (.agg [(.int .i64 ((x.arcs.getD k default).src)), (.int .i64 ((x.arcs.getD k default).sig)), (.bool ((x.arcs.getD k default).up)), (.int .i64 ((x.arcs.getD k default).dst))]))) (.pure (.idx _ _ _ 85 (k) rfl Try.underlying32 sz85 rfl rfl rfl get_mapA)) ?_
  refine Ch.s (.d (.agg [(.int .i64 ((x.arcs.getD k default).src)), (.int .i64 ((x.arcs.getD k default).sig)), (.bool ((x.arcs.getD k default).up)), (.int .i64 ((x.arcs.getD k default).dst))])) (.pure (.loadRefA _ _ rfl ag85 sz85 rfl)) ?_
  refine Ch.s (.ptr 6000 0) (.alloc 6000 _ rfl zer85) ?_
  refine Ch.s .junk (.storePtr _ _ _ rfl rfl rfl (.aggD _) sz85 (Nat.le_of_ble_eq_true rfl)) ?_
  refine Ch.nil ?_
  refine T_seq ?_
  refine T_regionD hc (by kernel_rfl) ?_
  refine ChD.s (.d (.str u)) [] (.pure (.move _ rfl rfl)) ?_
  refine ChD.s (.ptr 6000 0) [] (.pure (.fldPtr _ _ _ rfl fld85_0 rfl)) ?_
  refine ChD.s (.d (.int .i64 ((x.arcs.getD k default).src))) [6000] (.pure (.loadPtr1 _ _ rfl ag3 rfl rfl rfl)) ?_
  refine ChD.s (.d (.int .u8 ((u.getD ((((x.arcs.getD k default).src)).toNat) 0).toNat : Int))) [] (.pure (.idxStr _ _ _ ((((x.arcs.getD k default).src)).toNat) rfl Try.underlying9 rfl rfl (by omega) get_strA)) ?_
  refine ChD.s (.d (.str u)) [] (.pure (.move _ rfl rfl)) ?_
  refine ChD.s (.ptr 6000 3) [] (.pure (.fldPtr _ _ _ rfl fld85_3 rfl)) ?_
  refine ChD.s (.d (.int .i64 ((x.arcs.getD k default).dst))) [6000] (.pure (.loadPtr1 _ _ rfl ag3 rfl rfl rfl)) ?_
  refine ChD.s (.d (.int .u8 ((u.getD ((((x.arcs.getD k default).dst)).toNat) 0).toNat : Int))) [] (.pure (.idxStr _ _ _ ((((x.arcs.getD k default).dst)).toNat) rfl Try.underlying9 rfl rfl (by omega) get_strA)) ?_
  refine ChD.s (.d (.bool (nextCh (u.getD ((((x.arcs.getD k default).src)).toNat) 0) (u.getD ((((x.arcs.getD k default).dst)).toNat) 0)))) [] (.call 22000 126 _ _ _ en126 rfl (.inl rfl) (.cons (.d _) (.cons (.d _) .nil)) rfl rfl (sp_spec_l11Next (u.getD ((((x.arcs.getD k default).src)).toNat) 0) (u.getD ((((x.arcs.getD k default).dst)).toNat) 0)) (.skip _ _ (.skip _ _ .nil)) rfl) ?_
  refine ChD.s (.d (.bool (!(nextCh (u.getD ((((x.arcs.getD k default).src)).toNat) 0) (u.getD ((((x.arcs.getD k default).dst)).toNat) 0))))) [] (.pure (.not _ _ rfl rfl)) ?_
  refine ChD.nil (And.intro ?_ (by kernel_rfl))
  refine T_cond (b := (!(nextCh (u.getD ((((x.arcs.getD k default).src)).toNat) 0) (u.getD ((((x.arcs.getD k default).dst)).toNat) 0)))) rfl (fun h2 => ?_) (fun h2 => ?_)
  ·
   replace h2 := nott h2
   refine T_seq ?_
   refine T_region hc ?_
   refine Ch.s (.d (.bool false)) (.pure (.assign _ rfl rfl)) ?_
   refine Ch.nil ?_
   refine T_ret ?_
   refine And.intro (.inr rfl) ?_
   exact Exists.intro [(.d (.bool false))] (Exists.intro [] (Exists.intro [] (And.intro (.cons (.tmp 4 rfl) .nil) (And.intro (.cons (.any _) (.cons (.any _) .nil)) (And.intro (Exp.of (congrArg D.bool (by exact (allB_no k (by omega) (by assumption)).symm)) (.d _)) (And.intro rfl rfl))))))
  ·
   replace h2 := notf h2
   refine T_skip ?_
   refine T_region hc ?_
   refine Ch.s (.d (.int .i64 (((k : Nat) : Int) + 1))) (.pure (.int _ _ _ _ _ rfl rfl rfl intV_addA)) ?_
   refine Ch.s (.d (.int .i64 (((k : Nat) : Int) + 1))) (.pure (.move _ rfl rfl)) ?_
   refine Ch.nil ?_
   refine Exists.intro (k + 1) (And.intro ⟨by omega, upto_succ hp0.2 (by assumption)⟩ (And.intro (by first | omega | (dsimp only; omega)) (Wk.of rfl rfl (And.intro rfl (And.intro rfl (And.intro rfl (And.intro (vI (by first | rfl | omega | (simp; done) | (simp; omega))) trivial)))) trivial)))
 ·
  replace h1 := of_decide_eq_false h1
  try have hek := hen _ (getD_mem (l := x.arcs) (j := k) (d := default) (by omega))
  refine T_exit ?_
  refine T_seq ?_
  refine T_region hc ?_
  refine Ch.s (.d (.bool true)) (.pure (.assign _ rfl rfl)) ?_
  refine Ch.nil ?_
  refine T_ret ?_
  refine And.intro (.inr rfl) ?_
  exact Exists.intro [(.d (.bool true))] (Exists.intro [] (Exists.intro [] (And.intro (.cons (.tmp 4 rfl) .nil) (And.intro (.cons (.any _) (.cons (.any _) .nil)) (And.intro (Exp.of (congrArg D.bool (by exact (allB_of (fun j hj => hp0.2 j (by omega))).symm)) (.d _)) (And.intro rfl rfl))))))

theorem sp_impl_isInput (x : Sgr) (sig : Int) (hb : x.bulk ≤ 1048576) (hs : sig < x.sigs.length) : Sp Try.prog 127 [(.agg [(.slice false 2 (x.sigs.map Sgn.d)), (.slice false 1 (x.codes.map D.str)), (.slice false 4 (x.arcs.map Arc.d))]), (.int .i64 sig)] [.any, .any] (.bool (inputB x sig)) := by
 refine Sp_intro (lend := true) Try.func127 rfl rfl rfl (fun _ => rfl) (fun c hc hX => ?_)
 obtain ⟨hp0, hp1, hp2⟩ := Sgr.parts hb
 have hn0 := bulkF_len hp0
 have hn1 := bulk_len hp1
 have hx1 := bulk_mem hp1
 have hn2 := bulkF_len hp2
 refine T_seq ?_
 refine T_region hc ?_
 refine Ch.s (.ptr 2000 0) (.box 2000 _ _ rfl (.aggD _)) ?_
 refine Ch.s (.d (.bool false)) (.pure (.assign _ rfl rfl)) ?_
 refine Ch.nil ?_
 refine T_seq ?_
 refine T_region hc ?_
 refine Ch.s (.d (.int .i64 sig)) (.pure (.move _ rfl rfl)) ?_
 refine Ch.s (.d (.bool (decide (0 ≤ sig)))) (.pure (.int _ _ _ _ _ rfl rfl rfl rfl)) ?_
 refine Ch.s (.d (.bool (decide (0 ≤ sig)))) (.pure (.move _ rfl rfl)) ?_
 cases h1 : (decide (0 ≤ sig)) with
 | true =>
  replace h1 := of_decide_eq_true h1
  refine Ch.s (.ptr 2000 0) (.pure (.fldPtr _ _ _ rfl fld34_0 rfl)) ?_
  refine Ch.s (.d (.slice false 2 (x.sigs.map Sgn.d))) (.pure (.loadPtr1 _ _ rfl ag31 rfl rfl rfl)) ?_
  refine Ch.s (.d (.int .i64 sig)) (.pure (.move _ rfl rfl)) ?_
  refine Ch.s (.d (.ref (.agg [(.str ((x.sigs.getD ((sig).toNat) default).name)), (.int .i64 ((x.sigs.getD ((sig).toNat) default).kind))]))) (.pure (.idx _ _ _ 88 ((sig).toNat) rfl Try.underlying31 sz88 rfl rfl (by omega) get_mapA)) ?_
  refine Ch.s (.d (.ref (.int .i64 ((x.sigs.getD ((sig).toNat) default).kind)))) (.pure (.fldRef _ _ _ rfl fld88_1 rfl rfl rfl)) ?_
  refine Ch.s (.d (.int .i64 ((x.sigs.getD ((sig).toNat) default).kind))) (.pure (.loadRef1 _ _ rfl ag3 rfl rfl)) ?_
  refine Ch.s (.d (.bool (decide (((x.sigs.getD ((sig).toNat) default).kind) = 1)))) (.pure (.int _ _ _ _ _ rfl rfl rfl rfl)) ?_
  refine Ch.s (.d (.bool (decide (((x.sigs.getD ((sig).toNat) default).kind) = 1)))) (.pure (.pickT _ _ _ rfl rfl rfl)) ?_
  refine Ch.s (.d (.bool (decide (((x.sigs.getD ((sig).toNat) default).kind) = 1)))) (.pure (.assign _ rfl rfl)) ?_
  refine Ch.nil ?_
  refine T_ret ?_
  refine And.intro (.inr rfl) ?_
  exact Exists.intro [(.d (.bool (decide (((x.sigs.getD ((sig).toNat) default).kind) = 1))))] (Exists.intro [] (Exists.intro [] (And.intro (.cons (.tmp 4 rfl) .nil) (And.intro (.cons (.any _) (.cons (.any _) .nil)) (And.intro (Exp.of (congrArg D.bool (by unfold inputB; simp only [*, decide_true, decide_false, Bool.true_and, Bool.false_and])) (.d _)) (And.intro rfl rfl))))))
 | false =>
  replace h1 := of_decide_eq_false h1
  refine Ch.skip rfl rfl ?_
  refine Ch.skip rfl rfl ?_
  refine Ch.skip rfl rfl ?_
  refine Ch.skip rfl rfl ?_
  refine Ch.skip rfl rfl ?_
  refine Ch.skip rfl rfl ?_
  refine Ch.skip rfl rfl ?_
  refine Ch.s (.d (.bool false)) (.pure (.pickF _ _ _ rfl rfl rfl)) ?_
  refine Ch.s (.d (.bool false)) (.pure (.assign _ rfl rfl)) ?_
  refine Ch.nil ?_
  refine T_ret ?_
  refine And.intro (.inr rfl) ?_
  exact Exists.intro [(.d (.bool false))] (Exists.intro [] (Exists.intro [] (And.intro (.cons (.tmp 4 rfl) .nil) (And.intro (.cons (.any _) (.cons (.any _) .nil)) (And.intro (Exp.of (congrArg D.bool (by unfold inputB; simp only [*, decide_true, decide_false, Bool.true_and, Bool.false_and])) (.d _)) (And.intro rfl rfl))))))

def two (m s : Nat) : Nat := m >>> s &&& 3

def setL (n : Nat) (Q : Nat → Bool) : List Int := selTo n Q fun j => (j : Int)

theorem setL_le (n : Nat) (Q : Nat → Bool) : (setL n Q).length ≤ n := selTo_le _ _ _

theorem setL_mem {n : Nat} {Q : Nat → Bool} {a : Int} : a ∈ setL n Q ↔ (0 ≤ a ∧ a.toNat < n) ∧ Q a.toNat = true := by
  unfold setL selTo
  rw [List.mem_map]
  constructor
  · rintro ⟨j, hj, rfl⟩
    rw [List.mem_filter, List.mem_range] at hj
    exact ⟨⟨by omega, by simpa using hj.1⟩, by simpa using hj.2⟩
  · rintro ⟨⟨h0, h1⟩, h2⟩
    exact ⟨a.toNat, List.mem_filter.2 ⟨List.mem_range.2 h1, h2⟩, by omega⟩

def Rising (l : List Int) : Prop := l.Pairwise (· < ·)

theorem setL_rising (n : Nat) (Q : Nat → Bool) : Rising (setL n Q) := by
  unfold Rising setL selTo
  rw [List.pairwise_map]
  refine List.Pairwise.filter _ ?_
  exact List.pairwise_lt_range.imp (fun h => by omega)

theorem rising_ext : ∀ {l m : List Int}, Rising l → Rising m → (∀ a, a ∈ l ↔ a ∈ m) → l = m
  | [], [], _, _, _ => rfl
  | [], b :: m, _, _, h => absurd ((h b).2 List.mem_cons_self) List.not_mem_nil
  | a :: l, [], _, _, h => absurd ((h a).1 List.mem_cons_self) List.not_mem_nil
  | a :: l, b :: m, hl, hm, h => by
    unfold Rising at hl hm
    rw [List.pairwise_cons] at hl hm
    have e : a = b := by
      rcases List.mem_cons.1 ((h a).1 List.mem_cons_self) with h1 | h1
      · exact h1
      · rcases List.mem_cons.1 ((h b).2 List.mem_cons_self) with h2 | h2
        · exact h2.symm
        · have := hl.1 b h2
          have := hm.1 a h1
          omega
    subst e
    congr 1
    refine rising_ext hl.2 hm.2 fun x => ⟨fun hx => ?_, fun hx => ?_⟩
    · rcases List.mem_cons.1 ((h x).1 (List.mem_cons_of_mem _ hx)) with h1 | h1
      · have := hl.1 x hx; omega
      · exact h1
    · rcases List.mem_cons.1 ((h x).2 (List.mem_cons_of_mem _ hx)) with h1 | h1
      · have := hm.1 x hx; omega
      · exact h1

theorem setL_ext {n : Nat} {Q R : Nat → Bool} (h : ∀ j, j < n → Q j = R j) : setL n Q = setL n R :=
  rising_ext (setL_rising n Q) (setL_rising n R) fun a => by
    rw [setL_mem, setL_mem]
    constructor
    · rintro ⟨h1, h2⟩; exact ⟨h1, by rw [← h _ h1.2]; exact h2⟩
    · rintro ⟨h1, h2⟩; exact ⟨h1, by rw [h _ h1.2]; exact h2⟩

def putI (l : List Int) (n : Int) : List Int := if l.contains n then l else l.takeWhile (fun a => decide (a < n)) ++ n :: l.dropWhile (fun a => decide (a < n))

theorem putI_mem {l : List Int} {n a : Int} : a ∈ putI l n ↔ a ∈ l ∨ a = n := by
  unfold putI
  split
  · rename_i h
    constructor
    · exact .inl
    · rintro (h1 | rfl)
      · exact h1
      · exact List.contains_iff_mem.1 h
  · rw [List.mem_append, List.mem_cons]
    have e : a ∈ l ↔ a ∈ l.takeWhile (fun a => decide (a < n)) ∨ a ∈ l.dropWhile (fun a => decide (a < n)) := by
      rw [← List.mem_append, List.takeWhile_append_dropWhile]
    rw [e]
    constructor
    · rintro (h1 | h1 | h1)
      · exact .inl (.inl h1)
      · exact .inr h1
      · exact .inl (.inr h1)
    · rintro ((h1 | h1) | h1)
      · exact .inl h1
      · exact .inr (.inr h1)
      · exact .inr (.inl h1)

theorem drop_rising {n : Int} : ∀ {l : List Int}, Rising l → ¬ n ∈ l → ∀ a ∈ l.dropWhile (fun a => decide (a < n)), n < a
  | [], _, _, a, ha => by simp at ha
  | b :: l, hl, hn, a, ha => by
    unfold Rising at hl
    rw [List.pairwise_cons] at hl
    rw [List.dropWhile_cons] at ha
    split at ha
    · exact drop_rising hl.2 (fun h => hn (List.mem_cons_of_mem _ h)) a ha
    · rename_i hb
      have hb' : ¬ b < n := by simpa using hb
      have hne : n ≠ b := fun e => hn (e ▸ List.mem_cons_self)
      rcases List.mem_cons.1 ha with rfl | ha
      · omega
      · have := hl.1 a ha; omega

theorem while_lt {n : Int} : ∀ {l : List Int} {a : Int}, a ∈ l.takeWhile (fun a => decide (a < n)) → a < n
  | [], a, h => by simp at h
  | b :: l, a, h => by
    rw [List.takeWhile_cons] at h
    split at h
    · rename_i hb
      rcases List.mem_cons.1 h with rfl | h
      · simpa using hb
      · exact while_lt h
    · simp at h

theorem putI_rising {l : List Int} {n : Int} (hl : Rising l) : Rising (putI l n) := by
  unfold putI
  split
  · exact hl
  · rename_i h
    have hn : ¬ n ∈ l := fun hm => h (List.contains_iff_mem.2 hm)
    have hd := drop_rising hl hn
    unfold Rising at hl ⊢
    rw [List.pairwise_append, List.pairwise_cons]
    have h1 : (l.takeWhile (fun a => decide (a < n))).Pairwise (· < ·) := hl.sublist (List.takeWhile_sublist _)
    have h2 : (l.dropWhile (fun a => decide (a < n))).Pairwise (· < ·) := hl.sublist (List.dropWhile_sublist _)
    have h3 : ∀ a ∈ l.takeWhile (fun a => decide (a < n)), a < n := fun a ha => while_lt ha
    refine ⟨h1, ⟨hd, h2⟩, fun a ha b hb => ?_⟩
    rcases List.mem_cons.1 hb with rfl | hb
    · exact h3 a ha
    · have := h3 a ha
      have := hd b hb
      omega

theorem putI_set {n : Nat} {Q : Nat → Bool} {a : Int} (ha : 0 ≤ a ∧ a.toNat < n) : putI (setL n Q) a = setL n fun j => Q j || decide ((j : Int) = a) := by
  refine rising_ext (putI_rising (setL_rising n Q)) (setL_rising n _) fun b => ?_
  rw [putI_mem, setL_mem, setL_mem, Bool.or_eq_true, decide_eq_true_iff]
  constructor
  · rintro (⟨h1, h2⟩ | rfl)
    · exact ⟨h1, .inl h2⟩
    · exact ⟨ha, .inr (by omega)⟩
  · rintro ⟨h1, h2 | h2⟩
    · exact .inl ⟨h1, h2⟩
    · exact .inr (by omega)

theorem take_while {l : List Int} {n : Int} : ∀ {k : Nat}, k ≤ l.length → (∀ j, j < k → l.getD j default < n) → (k < l.length → ¬ l.getD k default < n) → l.takeWhile (fun a => decide (a < n)) = l.take k ∧ l.dropWhile (fun a => decide (a < n)) = l.drop k := by
  induction l with
  | nil => intro k _ _ _; simp
  | cons b l ih =>
    intro k hk h1 h2
    cases k with
    | zero =>
      have h3 := h2 (by simp)
      have h4 : ¬ b < n := by simpa using h3
      rw [List.takeWhile_cons, List.dropWhile_cons]
      simp [h4]
    | succ k =>
      have h3 : b < n := by simpa using h1 0 (by omega)
      obtain ⟨e1, e2⟩ := ih (k := k) (by simpa using hk) (fun j hj => by simpa using h1 (j + 1) (by omega)) (fun hl => by simpa using h2 (by simpa using hl))
      rw [List.takeWhile_cons, List.dropWhile_cons]
      simp [h3, e1, e2]

theorem putI_same {l : List Int} {n : Int} {k : Nat} (hk : k < l.length) (h : l.getD k default = n) : l = putI l n := by
  unfold putI
  rw [if_pos (List.contains_iff_mem.2 (h ▸ getD_mem hk))]

theorem putI_new {l : List Int} {n : Int} {k : Nat} (hr : Rising l) (hk : k ≤ l.length) (h1 : ∀ j, j < k → l.getD j default < n) (h2 : k < l.length → ¬ l.getD k default < n) (h3 : k < l.length → ¬ l.getD k default = n) : l.take k ++ [n] ++ l.drop k = putI l n := by
  obtain ⟨e1, e2⟩ := take_while hk h1 h2
  unfold putI
  rw [if_neg, e1, e2]
  · simp
  · intro hc
    have hm := List.contains_iff_mem.1 hc
    obtain ⟨j, hj, e⟩ := List.mem_iff_getElem.1 hm
    have eg : l.getD j default = n := by simp [hj, e]
    by_cases hlt : j < k
    · have := h1 j hlt; omega
    · by_cases heq : j = k
      · subst heq; exact h3 hj eg
      · have h4 := h2 (by omega)
        unfold Rising at hr
        have := List.pairwise_iff_getElem.1 hr k j (by omega) hj (by omega)
        rw [e] at this
        have e5 : l.getD k default = l[k] := by simp [show k < l.length by omega]
        rw [e5] at h4; omega

theorem sp_spec_l1Has (xs : List Int) (v : Int) (hn : xs.length ≤ 1048576) : Sp Try.prog 82 [(.slice false 1 (xs.map (fun n : Int => D.int .i64 n))), (.int .i64 v)] [.any, .any] (.bool (hasI xs v)) := by
 refine Sp_intro (lend := true) Try.func82 rfl rfl rfl (fun _ => rfl) (fun c hc hX => ?_)
 refine T_seq ?_
 refine T_region hc ?_
 refine Ch.s (.d (.bool false)) (.pure (.assign _ rfl rfl)) ?_
 refine Ch.nil ?_
 refine T_seq ?_
 refine T_seq ?_
 refine T_region hc ?_
 refine Ch.s (.d (.slice false 1 (xs.map (fun n : Int => D.int .i64 n)))) (.pure (.move _ rfl rfl)) ?_
 refine Ch.s (.d (.int .i64 ((xs.length : Nat) : Int))) (.pure (.len _ _ 3 rfl Try.underlying43 (.sh _ _) (by simp))) ?_
 refine Ch.s (.d (.int .i64 0)) (.pure (.move _ rfl rfl)) ?_
 refine Ch.nil ?_
 refine T_block ?_
 refine T_loop (ι := Nat) (fun k => { n := 17, sl := [(1, (.d (.int .i64 v))), (7, (.d (.slice false 1 (xs.map (fun n : Int => D.int .i64 n))))), (8, (.d (.int .i64 ((xs.length : Nat) : Int)))), (9, (.d (.int .i64 ((k : Nat) : Int))))], hp := [], pin := [] }) (fun k => k ≤ xs.length ∧ ∀ j, j < k → decide (xs.getD j default = v) = false) (fun k => xs.length - k) ⟨0, ⟨by omega, fun j hj => by omega⟩, (Wk.of rfl rfl (And.intro rfl (And.intro rfl (And.intro rfl (And.intro (vI (by first | rfl | omega | (simp; done) | (simp; omega))) trivial)))) trivial)⟩ (fun k hp0 => ?_)
 refine T_seq ?_
 refine T_region hc ?_
 refine Ch.s (.d (.bool (decide (((k : Nat) : Int) < ((xs.length : Nat) : Int))))) (.pure (.int _ _ _ _ _ rfl rfl rfl rfl)) ?_
 refine Ch.nil ?_
 refine T_seq ?_
 refine T_cond (b := (decide (((k : Nat) : Int) < ((xs.length : Nat) : Int)))) rfl (fun h1 => ?_) (fun h1 => ?_)
 ·
  replace h1 := of_decide_eq_true h1
  refine T_skip ?_
  refine T_seq ?_
  refine T_block ?_
  refine T_seq ?_
  refine T_region hc ?_
  refine Ch.s (.d (.ref (.int .i64 (xs.getD k default)))) (.pure (.idx _ _ _ 3 (k) rfl Try.underlying43 sz3 rfl rfl rfl get_mapA)) ?_
  refine Ch.s (.d (.int .i64 (xs.getD k default))) (.pure (.loadRef1 _ _ rfl ag3 rfl rfl)) ?_
  refine Ch.s (.d (.int .i64 (xs.getD k default))) (.pure (.assign _ rfl rfl)) ?_
  refine Ch.nil ?_
  refine T_seq ?_
  refine T_region hc ?_
  refine Ch.s (.d (.int .i64 (xs.getD k default))) (.pure (.move _ rfl rfl)) ?_
  refine Ch.s (.d (.int .i64 v)) (.pure (.move _ rfl rfl)) ?_
  refine Ch.s (.d (.bool (decide ((xs.getD k default) = v)))) (.pure (.int _ _ _ _ _ rfl rfl rfl rfl)) ?_
  refine Ch.nil ?_
  refine T_cond (b := (decide ((xs.getD k default) = v))) rfl (fun h2 => ?_) (fun h2 => ?_)
  ·
   replace h2 := of_decide_eq_true h2
   refine T_seq ?_
   refine T_region hc ?_
   refine Ch.s (.d (.bool true)) (.pure (.assign _ rfl rfl)) ?_
   refine Ch.nil ?_
   refine T_ret ?_
   refine And.intro (.inr rfl) ?_
   exact Exists.intro [(.d (.bool true))] (Exists.intro [] (Exists.intro [] (And.intro (.cons (.tmp 4 rfl) .nil) (And.intro (.cons (.any _) (.cons (.any _) .nil)) (And.intro (Exp.of (congrArg D.bool (by exact any_yes default k (by omega) (decide_eq_true (by assumption)))) (.d _)) (And.intro rfl rfl))))))
  ·
   replace h2 := of_decide_eq_false h2
   refine T_skip ?_
   refine T_region hc ?_
   refine Ch.s (.d (.int .i64 (((k : Nat) : Int) + 1))) (.pure (.int _ _ _ _ _ rfl rfl rfl intV_addA)) ?_
   refine Ch.s (.d (.int .i64 (((k : Nat) : Int) + 1))) (.pure (.move _ rfl rfl)) ?_
   refine Ch.nil ?_
   refine Exists.intro (k + 1) (And.intro ⟨by omega, upto_succ hp0.2 (decide_eq_false (by assumption))⟩ (And.intro (by first | omega | (dsimp only; omega)) (Wk.of rfl rfl (And.intro rfl (And.intro rfl (And.intro rfl (And.intro (vI (by first | rfl | omega | (simp; done) | (simp; omega))) trivial)))) trivial)))
 ·
  replace h1 := of_decide_eq_false h1
  refine T_exit ?_
  refine T_seq ?_
  refine T_region hc ?_
  refine Ch.s (.d (.bool false)) (.pure (.assign _ rfl rfl)) ?_
  refine Ch.nil ?_
  refine T_ret ?_
  refine And.intro (.inr rfl) ?_
  exact Exists.intro [(.d (.bool false))] (Exists.intro [] (Exists.intro [] (And.intro (.cons (.tmp 4 rfl) .nil) (And.intro (.cons (.any _) (.cons (.any _) .nil)) (And.intro (Exp.of (congrArg D.bool (by exact any_no default (fun j hj => hp0.2 j (by omega)))) (.d _)) (And.intro rfl rfl))))))

theorem sp_spec_l1Put (xs : List Int) (n : Int) (hn : xs.length ≤ 1048576) (hr : Rising xs) : Sp Try.prog 81 [(.slice true 1 (xs.map (fun n : Int => D.int .i64 n))), (.int .i64 n)] [.any, .any] (.slice true 1 ((putI xs n).map (fun n : Int => D.int .i64 n))) := by
 refine Sp_intro (lend := false) Try.func81 rfl rfl rfl (fun h => nomatch h) (fun c hc hX => ?_)
 refine T_seq ?_
 refine T_region hc ?_
 refine Ch.s (.c (.slice none 0 0)) (.pure (.assign _ rfl rfl)) ?_
 refine Ch.nil ?_
 refine T_seq ?_
 refine T_region hc ?_
 refine Ch.s (.d (.int .i64 0)) (.pure (.assign _ rfl rfl)) ?_
 refine Ch.nil ?_
 refine T_seq ?_
 refine T_block ?_
 refine T_loop (ι := Nat) (fun k => { n := 48, sl := [(0, (.row 1)), (1, (.d (.int .i64 n))), (5, (.d (.int .i64 ((k : Nat) : Int))))], hp := [(1, (some (.row 1 (xs.map (fun n : Int => D.int .i64 n)))))], pin := [1] }) (fun k => k ≤ xs.length ∧ ∀ j, j < k → xs.getD j default < n) (fun k => xs.length - k) ⟨0, ⟨by omega, fun j hj => by omega⟩, (Wk.of rfl rfl (And.intro rfl (And.intro rfl (And.intro (vI (by first | rfl | omega | (simp; done) | (simp; omega))) trivial))) (And.intro rfl trivial))⟩ (fun k hp0 => ?_)
 refine T_seq ?_
 refine T_seq ?_
 refine T_region hc ?_
 refine Ch.s (.d (.int .i64 ((k : Nat) : Int))) (.pure (.move _ rfl rfl)) ?_
 refine Ch.s (.row 1) (.pure (.move _ rfl rfl)) ?_
 refine Ch.s (.d (.int .i64 ((xs.length : Nat) : Int))) (.pure (.len _ _ 3 rfl Try.underlying43 (.row rfl) (by simp))) ?_
 refine Ch.s (.d (.bool (decide (((k : Nat) : Int) < ((xs.length : Nat) : Int))))) (.pure (.int _ _ _ _ _ rfl rfl rfl rfl)) ?_
 refine Ch.s (.d (.bool (decide (((k : Nat) : Int) < ((xs.length : Nat) : Int))))) (.pure (.move _ rfl rfl)) ?_
 cases h1 : (decide (((k : Nat) : Int) < ((xs.length : Nat) : Int))) with
 | true =>
  replace h1 := of_decide_eq_true h1
  refine Ch.s (.row 1) (.pure (.move _ rfl rfl)) ?_
  refine Ch.s (.d (.int .i64 ((k : Nat) : Int))) (.pure (.move _ rfl rfl)) ?_
  refine Ch.s (.el 1 1 k 0) (.pure (.idxRow _ _ _ 3 (k) rfl Try.underlying43 sz3 rfl rfl rfl rfl (by first | omega | (simp only [List.length_map, List.length_set]; omega) | (simp; omega)))) ?_
  refine Ch.s (.d (.int .i64 (xs.getD k default))) (.pure (.loadEl1 _ _ rfl ag3 rfl rfl get_mapA rfl rfl rfl)) ?_
  refine Ch.s (.d (.int .i64 n)) (.pure (.move _ rfl rfl)) ?_
  refine Ch.s (.d (.bool (decide ((xs.getD k default) < n)))) (.pure (.int _ _ _ _ _ rfl rfl rfl rfl)) ?_
  refine Ch.s (.d (.bool (decide ((xs.getD k default) < n)))) (.pure (.pickT _ _ _ rfl rfl rfl)) ?_
  refine Ch.nil ?_
  refine T_cond (b := (decide ((xs.getD k default) < n))) rfl (fun h2 => ?_) (fun h2 => ?_)
  ·
   replace h2 := of_decide_eq_true h2
   refine T_skip ?_
   refine T_block ?_
   refine T_region hc ?_
   refine Ch.s (.d (.int .i64 ((k : Nat) : Int))) (.pure (.move _ rfl rfl)) ?_
   refine Ch.s (.d (.int .i64 (((k : Nat) : Int) + 1))) (.pure (.int _ _ _ _ _ rfl rfl rfl intV_addA)) ?_
   refine Ch.s (.d (.int .i64 (((k : Nat) : Int) + 1))) (.pure (.assign _ rfl rfl)) ?_
   refine Ch.nil ?_
   refine Exists.intro (k + 1) (And.intro ⟨by omega, upto_succ hp0.2 (by assumption)⟩ (And.intro (by first | omega | (dsimp only; omega)) (Wk.of rfl rfl (And.intro rfl (And.intro rfl (And.intro (vI (by first | rfl | omega | (simp; done) | (simp; omega))) trivial))) (And.intro rfl trivial))))
  ·
   replace h2 := of_decide_eq_false h2
   refine T_exit ?_
   refine T_seq ?_
   refine T_seq ?_
   refine T_region hc ?_
   refine Ch.s (.d (.int .i64 ((k : Nat) : Int))) (.pure (.move _ rfl rfl)) ?_
   refine Ch.s (.row 1) (.pure (.move _ rfl rfl)) ?_
   refine Ch.s (.d (.int .i64 ((xs.length : Nat) : Int))) (.pure (.len _ _ 3 rfl Try.underlying43 (.row rfl) (by simp))) ?_
   refine Ch.s (.d (.bool (decide (((k : Nat) : Int) < ((xs.length : Nat) : Int))))) (.pure (.int _ _ _ _ _ rfl rfl rfl rfl)) ?_
   refine Ch.s (.d (.bool (decide (((k : Nat) : Int) < ((xs.length : Nat) : Int))))) (.pure (.move _ rfl rfl)) ?_
   cases h3 : (decide (((k : Nat) : Int) < ((xs.length : Nat) : Int))) with
   | true =>
    replace h3 := of_decide_eq_true h3
    refine Ch.s (.row 1) (.pure (.move _ rfl rfl)) ?_
    refine Ch.s (.d (.int .i64 ((k : Nat) : Int))) (.pure (.move _ rfl rfl)) ?_
    refine Ch.s (.el 1 1 k 0) (.pure (.idxRow _ _ _ 3 (k) rfl Try.underlying43 sz3 rfl rfl rfl rfl (by first | omega | (simp only [List.length_map, List.length_set]; omega) | (simp; omega)))) ?_
    refine Ch.s (.d (.int .i64 (xs.getD k default))) (.pure (.loadEl1 _ _ rfl ag3 rfl rfl get_mapA rfl rfl rfl)) ?_
    refine Ch.s (.d (.int .i64 n)) (.pure (.move _ rfl rfl)) ?_
    refine Ch.s (.d (.bool (decide ((xs.getD k default) = n)))) (.pure (.int _ _ _ _ _ rfl rfl rfl rfl)) ?_
    refine Ch.s (.d (.bool (decide ((xs.getD k default) = n)))) (.pure (.pickT _ _ _ rfl rfl rfl)) ?_
    refine Ch.nil ?_
    refine T_cond (b := (decide ((xs.getD k default) = n))) rfl (fun h4 => ?_) (fun h4 => ?_)
    ·
     replace h4 := of_decide_eq_true h4
     refine T_seq ?_
     refine T_region hc ?_
     refine Ch.s (.row 1) (.pure (.move _ rfl rfl)) ?_
     refine Ch.s (.row 1) (.pure (.assign _ rfl rfl)) ?_
     refine Ch.nil ?_
     refine T_ret ?_
     refine And.intro (.inr rfl) ?_
     exact Exists.intro [(.row 1)] (Exists.intro [] (Exists.intro [1] (And.intro (.cons (.tmp 4 rfl) .nil) (And.intro (.cons (.any _) (.cons (.any _) .nil)) (And.intro (Exp.of (congrArg (D.slice true 1) (by first | (exact congrArg (List.map _) (putI_same (k := k) (by omega) (by assumption))) | (rw [← putI_new hr (k := k) (by omega) hp0.2 (fun hl => by first | assumption | (intro e; omega) | omega) (fun hl => by first | assumption | (intro e; omega) | omega)]; simp only [List.map_append, List.map_take, List.map_drop]; rfl))) (.row rfl)) (And.intro rfl rfl))))))
    ·
     replace h4 := of_decide_eq_false h4
     refine T_skip ?_
     refine T_seq ?_
     refine T_region hc ?_
     refine Ch.s (.row 34000) (.slice 34000 _ 3 _ rfl sty43 (xs := []) rfl rfl .nil rfl rfl (by decide)) ?_
     refine Ch.s (.row 1) (.pure (.move _ rfl rfl)) ?_
     refine Ch.s (.d (.int .i64 ((k : Nat) : Int))) (.pure (.move _ rfl rfl)) ?_
     refine Ch.s (.sub 1 1 0 k) (.pure (.subRow _ _ _ _ 3 (0) (k) rfl Try.underlying43 sz3 rfl rfl (bndN rfl) (bndS rfl rfl) (by first | omega | (simp only [List.length_map, List.length_append, List.length_take, List.length_drop, List.length_cons, List.length_nil]; omega) | (simp; omega) | (simp; done)) (by first | omega | (simp only [List.length_map, List.length_append, List.length_take, List.length_drop, List.length_cons, List.length_nil]; omega) | (simp; omega) | (simp; done)))) ?_
     refine Ch.step (v := (.row 38000)) rfl (.append 38000 _ _ _ 3 rfl sty43 (by decide) (.rowK rfl) (.inr ⟨_, rfl, rfl⟩) (.sub (ys := ((xs.take k).map (fun n : Int => D.int .i64 n))) rfl (noUs_map (fun _ => rfl) _) (by first | omega | (simp only [List.length_map, List.length_append, List.length_take, List.length_drop, List.length_cons, List.length_nil]; omega) | (simp; omega) | (simp; done)) (by first | omega | (simp only [List.length_map, List.length_append, List.length_take, List.length_drop, List.length_cons, List.length_nil]; omega) | (simp; omega) | (simp; done)) (by first | (rw [List.map_drop, List.take_of_length_le (by simp)]; done) | (simp [List.map_take, List.map_drop]; done))) rfl (by first | omega | (simp only [List.length_append, List.length_map, List.length_cons, List.length_nil]; omega) | (simp; omega) | (simp; done))) rfl rfl ?_
     refine Ch.s (.row 38000) (.pure (.assign _ rfl rfl)) ?_
     refine Ch.nil ?_
     refine T_seq ?_
     refine T_region hc ?_
     refine Ch.s (.row 38000) (.pure (.move _ rfl rfl)) ?_
     refine Ch.s (.d (.int .i64 n)) (.pure (.move _ rfl rfl)) ?_
     refine Ch.s (.row 41000) (.slice 41000 _ 3 _ rfl sty43 (xs := [.tmp 40]) rfl rfl (.cons (.d _) .nil) rfl rfl (by decide)) ?_
     refine Ch.step (v := (.row 42000)) rfl (.append 42000 _ _ _ 3 rfl sty43 (by decide) (.rowK rfl) (.inr ⟨_, rfl, rfl⟩) (.row rfl rfl) rfl (by first | omega | (simp only [List.length_append, List.length_map, List.length_cons, List.length_nil]; omega) | (simp; omega) | (simp; done))) rfl rfl ?_
     refine Ch.s (.row 42000) (.pure (.assign _ rfl rfl)) ?_
     refine Ch.nil ?_
     refine T_seq ?_
     refine T_region hc ?_
     refine Ch.s (.row 42000) (.pure (.move _ rfl rfl)) ?_
     refine Ch.s (.row 1) (.pure (.move _ rfl rfl)) ?_
     refine Ch.s (.d (.int .i64 ((k : Nat) : Int))) (.pure (.move _ rfl rfl)) ?_
     refine Ch.s (.sub 1 1 k xs.length) (.pure (.subRow _ _ _ _ 3 (k) (xs.length) rfl Try.underlying43 sz3 rfl rfl (bndS rfl rfl) (bndN (by simp)) (by first | omega | (simp only [List.length_map, List.length_append, List.length_take, List.length_drop, List.length_cons, List.length_nil]; omega) | (simp; omega) | (simp; done)) (by first | omega | (simp only [List.length_map, List.length_append, List.length_take, List.length_drop, List.length_cons, List.length_nil]; omega) | (simp; omega) | (simp; done)))) ?_
     refine Ch.step (v := (.row 47000)) rfl (.append 47000 _ _ _ 3 rfl sty43 (by decide) (.rowK rfl) (.inr ⟨_, rfl, rfl⟩) (.sub (ys := ((xs.drop k).map (fun n : Int => D.int .i64 n))) rfl (noUs_map (fun _ => rfl) _) (by first | omega | (simp only [List.length_map, List.length_append, List.length_take, List.length_drop, List.length_cons, List.length_nil]; omega) | (simp; omega) | (simp; done)) (by first | omega | (simp only [List.length_map, List.length_append, List.length_take, List.length_drop, List.length_cons, List.length_nil]; omega) | (simp; omega) | (simp; done)) (by first | (rw [List.map_drop, List.take_of_length_le (by simp)]; done) | (simp [List.map_take, List.map_drop]; done))) rfl (by first | omega | (simp only [List.length_append, List.length_map, List.length_cons, List.length_nil]; omega) | (simp; omega) | (simp; done))) rfl rfl ?_
     refine Ch.s (.row 47000) (.pure (.assign _ rfl rfl)) ?_
     refine Ch.nil ?_
     refine T_ret ?_
     refine And.intro (.inr rfl) ?_
     exact Exists.intro [(.row 47000)] (Exists.intro [] (Exists.intro [47000] (And.intro (.cons (.tmp 4 rfl) .nil) (And.intro (.cons (.any _) (.cons (.any _) .nil)) (And.intro (Exp.of (congrArg (D.slice true 1) (by first | (exact congrArg (List.map _) (putI_same (k := k) (by omega) (by assumption))) | (rw [← putI_new hr (k := k) (by omega) hp0.2 (fun hl => by first | assumption | (intro e; omega) | omega) (fun hl => by first | assumption | (intro e; omega) | omega)]; simp only [List.map_append, List.map_take, List.map_drop]; rfl))) (.row rfl)) (And.intro rfl rfl))))))
   | false =>
    replace h3 := of_decide_eq_false h3
    refine Ch.skip rfl rfl ?_
    refine Ch.skip rfl rfl ?_
    refine Ch.skip rfl rfl ?_
    refine Ch.skip rfl rfl ?_
    refine Ch.skip rfl rfl ?_
    refine Ch.skip rfl rfl ?_
    refine Ch.s (.d (.bool false)) (.pure (.pickF _ _ _ rfl rfl rfl)) ?_
    refine Ch.nil ?_
    refine T_cond (b := false) rfl (fun h => nomatch h) (fun _ => ?_)
    refine T_skip ?_
    refine T_seq ?_
    refine T_region hc ?_
    refine Ch.s (.row 34000) (.slice 34000 _ 3 _ rfl sty43 (xs := []) rfl rfl .nil rfl rfl (by decide)) ?_
    refine Ch.s (.row 1) (.pure (.move _ rfl rfl)) ?_
    refine Ch.s (.d (.int .i64 ((k : Nat) : Int))) (.pure (.move _ rfl rfl)) ?_
    refine Ch.s (.sub 1 1 0 k) (.pure (.subRow _ _ _ _ 3 (0) (k) rfl Try.underlying43 sz3 rfl rfl (bndN rfl) (bndS rfl rfl) (by first | omega | (simp only [List.length_map, List.length_append, List.length_take, List.length_drop, List.length_cons, List.length_nil]; omega) | (simp; omega) | (simp; done)) (by first | omega | (simp only [List.length_map, List.length_append, List.length_take, List.length_drop, List.length_cons, List.length_nil]; omega) | (simp; omega) | (simp; done)))) ?_
    refine Ch.step (v := (.row 38000)) rfl (.append 38000 _ _ _ 3 rfl sty43 (by decide) (.rowK rfl) (.inr ⟨_, rfl, rfl⟩) (.sub (ys := ((xs.take k).map (fun n : Int => D.int .i64 n))) rfl (noUs_map (fun _ => rfl) _) (by first | omega | (simp only [List.length_map, List.length_append, List.length_take, List.length_drop, List.length_cons, List.length_nil]; omega) | (simp; omega) | (simp; done)) (by first | omega | (simp only [List.length_map, List.length_append, List.length_take, List.length_drop, List.length_cons, List.length_nil]; omega) | (simp; omega) | (simp; done)) (by first | (rw [List.map_drop, List.take_of_length_le (by simp)]; done) | (simp [List.map_take, List.map_drop]; done))) rfl (by first | omega | (simp only [List.length_append, List.length_map, List.length_cons, List.length_nil]; omega) | (simp; omega) | (simp; done))) rfl rfl ?_
    refine Ch.s (.row 38000) (.pure (.assign _ rfl rfl)) ?_
    refine Ch.nil ?_
    refine T_seq ?_
    refine T_region hc ?_
    refine Ch.s (.row 38000) (.pure (.move _ rfl rfl)) ?_
    refine Ch.s (.d (.int .i64 n)) (.pure (.move _ rfl rfl)) ?_
    refine Ch.s (.row 41000) (.slice 41000 _ 3 _ rfl sty43 (xs := [.tmp 40]) rfl rfl (.cons (.d _) .nil) rfl rfl (by decide)) ?_
    refine Ch.step (v := (.row 42000)) rfl (.append 42000 _ _ _ 3 rfl sty43 (by decide) (.rowK rfl) (.inr ⟨_, rfl, rfl⟩) (.row rfl rfl) rfl (by first | omega | (simp only [List.length_append, List.length_map, List.length_cons, List.length_nil]; omega) | (simp; omega) | (simp; done))) rfl rfl ?_
    refine Ch.s (.row 42000) (.pure (.assign _ rfl rfl)) ?_
    refine Ch.nil ?_
    refine T_seq ?_
    refine T_region hc ?_
    refine Ch.s (.row 42000) (.pure (.move _ rfl rfl)) ?_
    refine Ch.s (.row 1) (.pure (.move _ rfl rfl)) ?_
    refine Ch.s (.d (.int .i64 ((k : Nat) : Int))) (.pure (.move _ rfl rfl)) ?_
    refine Ch.s (.sub 1 1 k xs.length) (.pure (.subRow _ _ _ _ 3 (k) (xs.length) rfl Try.underlying43 sz3 rfl rfl (bndS rfl rfl) (bndN (by simp)) (by first | omega | (simp only [List.length_map, List.length_append, List.length_take, List.length_drop, List.length_cons, List.length_nil]; omega) | (simp; omega) | (simp; done)) (by first | omega | (simp only [List.length_map, List.length_append, List.length_take, List.length_drop, List.length_cons, List.length_nil]; omega) | (simp; omega) | (simp; done)))) ?_
    refine Ch.step (v := (.row 47000)) rfl (.append 47000 _ _ _ 3 rfl sty43 (by decide) (.rowK rfl) (.inr ⟨_, rfl, rfl⟩) (.sub (ys := ((xs.drop k).map (fun n : Int => D.int .i64 n))) rfl (noUs_map (fun _ => rfl) _) (by first | omega | (simp only [List.length_map, List.length_append, List.length_take, List.length_drop, List.length_cons, List.length_nil]; omega) | (simp; omega) | (simp; done)) (by first | omega | (simp only [List.length_map, List.length_append, List.length_take, List.length_drop, List.length_cons, List.length_nil]; omega) | (simp; omega) | (simp; done)) (by first | (rw [List.map_drop, List.take_of_length_le (by simp)]; done) | (simp [List.map_take, List.map_drop]; done))) rfl (by first | omega | (simp only [List.length_append, List.length_map, List.length_cons, List.length_nil]; omega) | (simp; omega) | (simp; done))) rfl rfl ?_
    refine Ch.s (.row 47000) (.pure (.assign _ rfl rfl)) ?_
    refine Ch.nil ?_
    refine T_ret ?_
    refine And.intro (.inr rfl) ?_
    exact Exists.intro [(.row 47000)] (Exists.intro [] (Exists.intro [47000] (And.intro (.cons (.tmp 4 rfl) .nil) (And.intro (.cons (.any _) (.cons (.any _) .nil)) (And.intro (Exp.of (congrArg (D.slice true 1) (by first | (exact congrArg (List.map _) (putI_same (k := k) (by omega) (by assumption))) | (rw [← putI_new hr (k := k) (by omega) hp0.2 (fun hl => by first | assumption | (intro e; omega) | omega) (fun hl => by first | assumption | (intro e; omega) | omega)]; simp only [List.map_append, List.map_take, List.map_drop]; rfl))) (.row rfl)) (And.intro rfl rfl))))))
 | false =>
  replace h1 := of_decide_eq_false h1
  refine Ch.skip rfl rfl ?_
  refine Ch.skip rfl rfl ?_
  refine Ch.skip rfl rfl ?_
  refine Ch.skip rfl rfl ?_
  refine Ch.skip rfl rfl ?_
  refine Ch.skip rfl rfl ?_
  refine Ch.s (.d (.bool false)) (.pure (.pickF _ _ _ rfl rfl rfl)) ?_
  refine Ch.nil ?_
  refine T_cond (b := false) rfl (fun h => nomatch h) (fun _ => ?_)
  refine T_exit ?_
  refine T_seq ?_
  refine T_seq ?_
  refine T_region hc ?_
  refine Ch.s (.d (.int .i64 ((k : Nat) : Int))) (.pure (.move _ rfl rfl)) ?_
  refine Ch.s (.row 1) (.pure (.move _ rfl rfl)) ?_
  refine Ch.s (.d (.int .i64 ((xs.length : Nat) : Int))) (.pure (.len _ _ 3 rfl Try.underlying43 (.row rfl) (by simp))) ?_
  refine Ch.s (.d (.bool (decide (((k : Nat) : Int) < ((xs.length : Nat) : Int))))) (.pure (.int _ _ _ _ _ rfl rfl rfl rfl)) ?_
  refine Ch.s (.d (.bool (decide (((k : Nat) : Int) < ((xs.length : Nat) : Int))))) (.pure (.move _ rfl rfl)) ?_
  cases h5 : (decide (((k : Nat) : Int) < ((xs.length : Nat) : Int))) with
  | true =>
   replace h5 := of_decide_eq_true h5
   refine Ch.s (.row 1) (.pure (.move _ rfl rfl)) ?_
   refine Ch.s (.d (.int .i64 ((k : Nat) : Int))) (.pure (.move _ rfl rfl)) ?_
   refine Ch.s (.el 1 1 k 0) (.pure (.idxRow _ _ _ 3 (k) rfl Try.underlying43 sz3 rfl rfl rfl rfl (by first | omega | (simp only [List.length_map, List.length_set]; omega) | (simp; omega)))) ?_
   refine Ch.s (.d (.int .i64 (xs.getD k default))) (.pure (.loadEl1 _ _ rfl ag3 rfl rfl get_mapA rfl rfl rfl)) ?_
   refine Ch.s (.d (.int .i64 n)) (.pure (.move _ rfl rfl)) ?_
   refine Ch.s (.d (.bool (decide ((xs.getD k default) = n)))) (.pure (.int _ _ _ _ _ rfl rfl rfl rfl)) ?_
   refine Ch.s (.d (.bool (decide ((xs.getD k default) = n)))) (.pure (.pickT _ _ _ rfl rfl rfl)) ?_
   refine Ch.nil ?_
   refine T_cond (b := (decide ((xs.getD k default) = n))) rfl (fun h6 => ?_) (fun h6 => ?_)
   ·
    replace h6 := of_decide_eq_true h6
    refine T_seq ?_
    refine T_region hc ?_
    refine Ch.s (.row 1) (.pure (.move _ rfl rfl)) ?_
    refine Ch.s (.row 1) (.pure (.assign _ rfl rfl)) ?_
    refine Ch.nil ?_
    refine T_ret ?_
    refine And.intro (.inr rfl) ?_
    exact Exists.intro [(.row 1)] (Exists.intro [] (Exists.intro [1] (And.intro (.cons (.tmp 4 rfl) .nil) (And.intro (.cons (.any _) (.cons (.any _) .nil)) (And.intro (Exp.of (congrArg (D.slice true 1) (by first | (exact congrArg (List.map _) (putI_same (k := k) (by omega) (by assumption))) | (rw [← putI_new hr (k := k) (by omega) hp0.2 (fun hl => by first | assumption | (intro e; omega) | omega) (fun hl => by first | assumption | (intro e; omega) | omega)]; simp only [List.map_append, List.map_take, List.map_drop]; rfl))) (.row rfl)) (And.intro rfl rfl))))))
   ·
    replace h6 := of_decide_eq_false h6
    refine T_skip ?_
    refine T_seq ?_
    refine T_region hc ?_
    refine Ch.s (.row 34000) (.slice 34000 _ 3 _ rfl sty43 (xs := []) rfl rfl .nil rfl rfl (by decide)) ?_
    refine Ch.s (.row 1) (.pure (.move _ rfl rfl)) ?_
    refine Ch.s (.d (.int .i64 ((k : Nat) : Int))) (.pure (.move _ rfl rfl)) ?_
    refine Ch.s (.sub 1 1 0 k) (.pure (.subRow _ _ _ _ 3 (0) (k) rfl Try.underlying43 sz3 rfl rfl (bndN rfl) (bndS rfl rfl) (by first | omega | (simp only [List.length_map, List.length_append, List.length_take, List.length_drop, List.length_cons, List.length_nil]; omega) | (simp; omega) | (simp; done)) (by first | omega | (simp only [List.length_map, List.length_append, List.length_take, List.length_drop, List.length_cons, List.length_nil]; omega) | (simp; omega) | (simp; done)))) ?_
    refine Ch.step (v := (.row 38000)) rfl (.append 38000 _ _ _ 3 rfl sty43 (by decide) (.rowK rfl) (.inr ⟨_, rfl, rfl⟩) (.sub (ys := ((xs.take k).map (fun n : Int => D.int .i64 n))) rfl (noUs_map (fun _ => rfl) _) (by first | omega | (simp only [List.length_map, List.length_append, List.length_take, List.length_drop, List.length_cons, List.length_nil]; omega) | (simp; omega) | (simp; done)) (by first | omega | (simp only [List.length_map, List.length_append, List.length_take, List.length_drop, List.length_cons, List.length_nil]; omega) | (simp; omega) | (simp; done)) (by first | (rw [List.map_drop, List.take_of_length_le (by simp)]; done) | (simp [List.map_take, List.map_drop]; done))) rfl (by first | omega | (simp only [List.length_append, List.length_map, List.length_cons, List.length_nil]; omega) | (simp; omega) | (simp; done))) rfl rfl ?_
    refine Ch.s (.row 38000) (.pure (.assign _ rfl rfl)) ?_
    refine Ch.nil ?_
    refine T_seq ?_
    refine T_region hc ?_
    refine Ch.s (.row 38000) (.pure (.move _ rfl rfl)) ?_
    refine Ch.s (.d (.int .i64 n)) (.pure (.move _ rfl rfl)) ?_
    refine Ch.s (.row 41000) (.slice 41000 _ 3 _ rfl sty43 (xs := [.tmp 40]) rfl rfl (.cons (.d _) .nil) rfl rfl (by decide)) ?_
    refine Ch.step (v := (.row 42000)) rfl (.append 42000 _ _ _ 3 rfl sty43 (by decide) (.rowK rfl) (.inr ⟨_, rfl, rfl⟩) (.row rfl rfl) rfl (by first | omega | (simp only [List.length_append, List.length_map, List.length_cons, List.length_nil]; omega) | (simp; omega) | (simp; done))) rfl rfl ?_
    refine Ch.s (.row 42000) (.pure (.assign _ rfl rfl)) ?_
    refine Ch.nil ?_
    refine T_seq ?_
    refine T_region hc ?_
    refine Ch.s (.row 42000) (.pure (.move _ rfl rfl)) ?_
    refine Ch.s (.row 1) (.pure (.move _ rfl rfl)) ?_
    refine Ch.s (.d (.int .i64 ((k : Nat) : Int))) (.pure (.move _ rfl rfl)) ?_
    refine Ch.s (.sub 1 1 k xs.length) (.pure (.subRow _ _ _ _ 3 (k) (xs.length) rfl Try.underlying43 sz3 rfl rfl (bndS rfl rfl) (bndN (by simp)) (by first | omega | (simp only [List.length_map, List.length_append, List.length_take, List.length_drop, List.length_cons, List.length_nil]; omega) | (simp; omega) | (simp; done)) (by first | omega | (simp only [List.length_map, List.length_append, List.length_take, List.length_drop, List.length_cons, List.length_nil]; omega) | (simp; omega) | (simp; done)))) ?_
    refine Ch.step (v := (.row 47000)) rfl (.append 47000 _ _ _ 3 rfl sty43 (by decide) (.rowK rfl) (.inr ⟨_, rfl, rfl⟩) (.sub (ys := ((xs.drop k).map (fun n : Int => D.int .i64 n))) rfl (noUs_map (fun _ => rfl) _) (by first | omega | (simp only [List.length_map, List.length_append, List.length_take, List.length_drop, List.length_cons, List.length_nil]; omega) | (simp; omega) | (simp; done)) (by first | omega | (simp only [List.length_map, List.length_append, List.length_take, List.length_drop, List.length_cons, List.length_nil]; omega) | (simp; omega) | (simp; done)) (by first | (rw [List.map_drop, List.take_of_length_le (by simp)]; done) | (simp [List.map_take, List.map_drop]; done))) rfl (by first | omega | (simp only [List.length_append, List.length_map, List.length_cons, List.length_nil]; omega) | (simp; omega) | (simp; done))) rfl rfl ?_
    refine Ch.s (.row 47000) (.pure (.assign _ rfl rfl)) ?_
    refine Ch.nil ?_
    refine T_ret ?_
    refine And.intro (.inr rfl) ?_
    exact Exists.intro [(.row 47000)] (Exists.intro [] (Exists.intro [47000] (And.intro (.cons (.tmp 4 rfl) .nil) (And.intro (.cons (.any _) (.cons (.any _) .nil)) (And.intro (Exp.of (congrArg (D.slice true 1) (by first | (exact congrArg (List.map _) (putI_same (k := k) (by omega) (by assumption))) | (rw [← putI_new hr (k := k) (by omega) hp0.2 (fun hl => by first | assumption | (intro e; omega) | omega) (fun hl => by first | assumption | (intro e; omega) | omega)]; simp only [List.map_append, List.map_take, List.map_drop]; rfl))) (.row rfl)) (And.intro rfl rfl))))))
  | false =>
   replace h5 := of_decide_eq_false h5
   refine Ch.skip rfl rfl ?_
   refine Ch.skip rfl rfl ?_
   refine Ch.skip rfl rfl ?_
   refine Ch.skip rfl rfl ?_
   refine Ch.skip rfl rfl ?_
   refine Ch.skip rfl rfl ?_
   refine Ch.s (.d (.bool false)) (.pure (.pickF _ _ _ rfl rfl rfl)) ?_
   refine Ch.nil ?_
   refine T_cond (b := false) rfl (fun h => nomatch h) (fun _ => ?_)
   refine T_skip ?_
   refine T_seq ?_
   refine T_region hc ?_
   refine Ch.s (.row 34000) (.slice 34000 _ 3 _ rfl sty43 (xs := []) rfl rfl .nil rfl rfl (by decide)) ?_
   refine Ch.s (.row 1) (.pure (.move _ rfl rfl)) ?_
   refine Ch.s (.d (.int .i64 ((k : Nat) : Int))) (.pure (.move _ rfl rfl)) ?_
   refine Ch.s (.sub 1 1 0 k) (.pure (.subRow _ _ _ _ 3 (0) (k) rfl Try.underlying43 sz3 rfl rfl (bndN rfl) (bndS rfl rfl) (by first | omega | (simp only [List.length_map, List.length_append, List.length_take, List.length_drop, List.length_cons, List.length_nil]; omega) | (simp; omega) | (simp; done)) (by first | omega | (simp only [List.length_map, List.length_append, List.length_take, List.length_drop, List.length_cons, List.length_nil]; omega) | (simp; omega) | (simp; done)))) ?_
   refine Ch.step (v := (.row 38000)) rfl (.append 38000 _ _ _ 3 rfl sty43 (by decide) (.rowK rfl) (.inr ⟨_, rfl, rfl⟩) (.sub (ys := ((xs.take k).map (fun n : Int => D.int .i64 n))) rfl (noUs_map (fun _ => rfl) _) (by first | omega | (simp only [List.length_map, List.length_append, List.length_take, List.length_drop, List.length_cons, List.length_nil]; omega) | (simp; omega) | (simp; done)) (by first | omega | (simp only [List.length_map, List.length_append, List.length_take, List.length_drop, List.length_cons, List.length_nil]; omega) | (simp; omega) | (simp; done)) (by first | (rw [List.map_drop, List.take_of_length_le (by simp)]; done) | (simp [List.map_take, List.map_drop]; done))) rfl (by first | omega | (simp only [List.length_append, List.length_map, List.length_cons, List.length_nil]; omega) | (simp; omega) | (simp; done))) rfl rfl ?_
   refine Ch.s (.row 38000) (.pure (.assign _ rfl rfl)) ?_
   refine Ch.nil ?_
   refine T_seq ?_
   refine T_region hc ?_
   refine Ch.s (.row 38000) (.pure (.move _ rfl rfl)) ?_
   refine Ch.s (.d (.int .i64 n)) (.pure (.move _ rfl rfl)) ?_
   refine Ch.s (.row 41000) (.slice 41000 _ 3 _ rfl sty43 (xs := [.tmp 40]) rfl rfl (.cons (.d _) .nil) rfl rfl (by decide)) ?_
   refine Ch.step (v := (.row 42000)) rfl (.append 42000 _ _ _ 3 rfl sty43 (by decide) (.rowK rfl) (.inr ⟨_, rfl, rfl⟩) (.row rfl rfl) rfl (by first | omega | (simp only [List.length_append, List.length_map, List.length_cons, List.length_nil]; omega) | (simp; omega) | (simp; done))) rfl rfl ?_
   refine Ch.s (.row 42000) (.pure (.assign _ rfl rfl)) ?_
   refine Ch.nil ?_
   refine T_seq ?_
   refine T_region hc ?_
   refine Ch.s (.row 42000) (.pure (.move _ rfl rfl)) ?_
   refine Ch.s (.row 1) (.pure (.move _ rfl rfl)) ?_
   refine Ch.s (.d (.int .i64 ((k : Nat) : Int))) (.pure (.move _ rfl rfl)) ?_
   refine Ch.s (.sub 1 1 k xs.length) (.pure (.subRow _ _ _ _ 3 (k) (xs.length) rfl Try.underlying43 sz3 rfl rfl (bndS rfl rfl) (bndN (by simp)) (by first | omega | (simp only [List.length_map, List.length_append, List.length_take, List.length_drop, List.length_cons, List.length_nil]; omega) | (simp; omega) | (simp; done)) (by first | omega | (simp only [List.length_map, List.length_append, List.length_take, List.length_drop, List.length_cons, List.length_nil]; omega) | (simp; omega) | (simp; done)))) ?_
   refine Ch.step (v := (.row 47000)) rfl (.append 47000 _ _ _ 3 rfl sty43 (by decide) (.rowK rfl) (.inr ⟨_, rfl, rfl⟩) (.sub (ys := ((xs.drop k).map (fun n : Int => D.int .i64 n))) rfl (noUs_map (fun _ => rfl) _) (by first | omega | (simp only [List.length_map, List.length_append, List.length_take, List.length_drop, List.length_cons, List.length_nil]; omega) | (simp; omega) | (simp; done)) (by first | omega | (simp only [List.length_map, List.length_append, List.length_take, List.length_drop, List.length_cons, List.length_nil]; omega) | (simp; omega) | (simp; done)) (by first | (rw [List.map_drop, List.take_of_length_le (by simp)]; done) | (simp [List.map_take, List.map_drop]; done))) rfl (by first | omega | (simp only [List.length_append, List.length_map, List.length_cons, List.length_nil]; omega) | (simp; omega) | (simp; done))) rfl rfl ?_
   refine Ch.s (.row 47000) (.pure (.assign _ rfl rfl)) ?_
   refine Ch.nil ?_
   refine T_ret ?_
   refine And.intro (.inr rfl) ?_
   exact Exists.intro [(.row 47000)] (Exists.intro [] (Exists.intro [47000] (And.intro (.cons (.tmp 4 rfl) .nil) (And.intro (.cons (.any _) (.cons (.any _) .nil)) (And.intro (Exp.of (congrArg (D.slice true 1) (by first | (exact congrArg (List.map _) (putI_same (k := k) (by omega) (by assumption))) | (rw [← putI_new hr (k := k) (by omega) hp0.2 (fun hl => by first | assumption | (intro e; omega) | omega) (fun hl => by first | assumption | (intro e; omega) | omega)]; simp only [List.map_append, List.map_take, List.map_drop]; rfl))) (.row rfl)) (And.intro rfl rfl))))))

def isEd (s : Int) (up : Bool) (a : Arc) : Bool := decide (a.sig = s) && decide (a.up = up)

theorem intsU_sol (l : List Int) : (intsU l).solid = true := solid_row (fun _ => rfl) l

theorem en124 : Enters Try.prog 124 := ⟨_, Try.func124, by kernel_rfl, rfl⟩

theorem en125 : Enters Try.prog 125 := ⟨_, Try.func125, by kernel_rfl, rfl⟩

theorem zr46 : (Try.prog.info? 46).bind (·.zero) = some (.agg #[.int .i64 0, .bool false]) := by kernel_rfl

theorem zer46 : ∃ i z, Try.prog.info? 46 = some i ∧ i.zero = some z ∧ z.cells = List.toArray [.int .i64 0, .bool false] := zero_mk zr46 rfl

theorem en86 : Enters Try.prog 86 := ⟨_, Try.func86, by kernel_rfl, rfl⟩

theorem en87 : Enters Try.prog 87 := ⟨_, Try.func87, by kernel_rfl, rfl⟩

theorem en84 : Enters Try.prog 84 := ⟨_, Try.func84, by kernel_rfl, rfl⟩

theorem en85 : Enters Try.prog 85 := ⟨_, Try.func85, by kernel_rfl, rfl⟩

structure Lin {α : Type} (le : α → α → Bool) : Prop where
  trans : ∀ a b c : α, le a b = true → le b c = true → le a c = true
  total : ∀ a b : α, (le a b || le b a) = true
  anti : ∀ a b : α, le a b = true → le b a = true → a = b

def Rise {α : Type} (le : α → α → Bool) (l : List α) : Prop := l.Pairwise fun a b => le a b = true ∧ a ≠ b

theorem upTo_rise {α : Type} [Inhabited α] [DecidableEq α] {le : α → α → Bool} (h : Lin le) {zs : List α} (hz : zs.Pairwise fun a b => le a b = true) : ∀ m, m ≤ zs.length →
    Rise le (Lib.compactUpTo zs.toArray m) ∧ (∀ a, a ∈ Lib.compactUpTo zs.toArray m ↔ a ∈ zs.take m) ∧ ∀ a ∈ Lib.compactUpTo zs.toArray m, 0 < m ∧ le a (zs.getD (m - 1) default) = true
  | 0, _ => ⟨List.Pairwise.nil, fun a => by simp [Lib.compactUpTo], fun a ha => by simp [Lib.compactUpTo] at ha⟩
  | m + 1, hm => by
    obtain ⟨h1, h2, h3⟩ := upTo_rise h hz m (by omega)
    have hg : ∀ j, j < zs.length → zs.toArray[j]! = zs.getD j default := by intro j hj; simp [hj]
    have hml : zs.getD m default = zs[m] := by simp [show m < zs.length by omega]
    have hrefl : ∀ a : α, le a a = true := fun a => by have := h.total a a; rwa [Bool.or_self] at this
    have hstep : 0 < m → le (zs.getD (m - 1) default) (zs.getD m default) = true := by
      intro h0
      have := List.pairwise_iff_getElem.1 hz (m - 1) m (by omega) (by omega) (by omega)
      rw [hml, show zs.getD (m - 1) default = zs[m - 1] by simp [show m - 1 < zs.length by omega]]; exact this
    rw [Lib.compactUpTo_succ, List.take_succ_eq_append_getElem (by omega), ← hml]
    cases hk : Lib.keeps zs.toArray m with
    | false =>
      have h4 : ¬ (m = 0 ∨ zs.toArray[m]! ≠ zs.toArray[m - 1]!) := by
        unfold Lib.keeps at hk
        exact of_decide_eq_false hk
      have h0 : 0 < m := Nat.pos_of_ne_zero fun e => h4 (.inl e)
      have h5 : zs.getD m default = zs.getD (m - 1) default := by
        rw [← hg m (by omega), ← hg (m - 1) (by omega)]
        exact Classical.byContradiction fun e => h4 (.inr e)
      rw [if_neg (by decide), List.append_nil]
      refine ⟨h1, fun a => ?_, fun a ha => ⟨by omega, ?_⟩⟩
      · rw [h2, List.mem_append, List.mem_singleton]
        refine ⟨.inl, fun hh => hh.elim id fun e => ?_⟩
        rw [e, h5, show zs.getD (m - 1) default = zs[m - 1] by simp [show m - 1 < zs.length by omega]]
        exact List.mem_take_iff_getElem.2 ⟨m - 1, by omega, rfl⟩
      · show le a (zs.getD m default) = true
        rw [h5]; exact (h3 a ha).2
    | true =>
      have h4 : m = 0 ∨ zs.toArray[m]! ≠ zs.toArray[m - 1]! := by
        unfold Lib.keeps at hk
        exact of_decide_eq_true hk
      rw [if_pos rfl, hg m (by omega)]
      refine ⟨?_, fun a => ?_, fun a ha => ⟨by omega, ?_⟩⟩
      · unfold Rise at h1 ⊢
        rw [List.pairwise_append]
        refine ⟨h1, List.pairwise_singleton _ _, fun a ha b hb => ?_⟩
        rw [List.mem_singleton] at hb
        subst hb
        obtain ⟨h0, h5⟩ := h3 a ha
        refine ⟨h.trans _ _ _ h5 (hstep h0), fun e => ?_⟩
        rcases h4 with h4 | h4
        · omega
        · rw [hg m (by omega), hg (m - 1) (by omega)] at h4
          subst e
          exact h4 (h.anti _ _ h5 (hstep h0))
      · rw [List.mem_append, List.mem_append, h2]
      · show le a (zs.getD m default) = true
        rcases List.mem_append.1 ha with ha | ha
        · exact h.trans _ _ _ (h3 a ha).2 (hstep (h3 a ha).1)
        · rw [List.mem_singleton] at ha; subst ha; exact hrefl _

def tid {α : Type} [Inhabited α] [DecidableEq α] (le : α → α → Bool) (l : List α) : List α := Lib.compact (l.mergeSort le)

theorem tid_rise {α : Type} [Inhabited α] [DecidableEq α] {le : α → α → Bool} (h : Lin le) (l : List α) : Rise le (tid le l) :=
  (upTo_rise h (List.pairwise_mergeSort (fun a b c h1 h2 => h.trans a b c h1 h2) (fun a b => h.total a b) l) _ (Nat.le_refl _)).1

theorem tid_mem {α : Type} [Inhabited α] [DecidableEq α] {le : α → α → Bool} (h : Lin le) {l : List α} {a : α} : a ∈ tid le l ↔ a ∈ l := by
  have := (upTo_rise h (List.pairwise_mergeSort (fun a b c h1 h2 => h.trans a b c h1 h2) (fun a b => h.total a b) l) _ (Nat.le_refl _)).2.1 a
  rw [List.take_length, List.mem_mergeSort] at this
  exact this

theorem upTo_len {α : Type} [Inhabited α] [DecidableEq α] (d : Array α) (m : Nat) : (Lib.compactUpTo d m).length ≤ m := by
  unfold Lib.compactUpTo
  rw [List.length_map]
  have := List.length_filter_le (Lib.keeps d) (List.range m)
  rwa [List.length_range] at this

theorem compact_len {α : Type} [Inhabited α] [DecidableEq α] (l : List α) : (Lib.compact l).length ≤ l.length := upTo_len _ _

def leI (x y : Int) : Bool := decide (x ≤ y)

theorem linI : Lin leI := by
  refine ⟨fun a b c h1 h2 => ?_, fun a b => ?_, fun a b h1 h2 => ?_⟩
  · unfold leI at *; rw [decide_eq_true_iff] at *; omega
  · unfold leI; rw [Bool.or_eq_true, decide_eq_true_iff, decide_eq_true_iff]; omega
  · unfold leI at *; rw [decide_eq_true_iff] at *; omega

def tidI (l : List Int) : List Int := tid leI l

theorem rise_int {l : List Int} : Rise leI l ↔ Rising l := by
  unfold Rise Rising
  constructor
  · intro h
    exact h.imp fun {a b} hh => by
      have h1 := of_decide_eq_true hh.1
      have h2 := hh.2
      omega
  · intro h
    exact h.imp fun {a b} hh => ⟨decide_eq_true (by omega), by omega⟩

theorem tidI_set {n : Nat} {l : List Int} (h : ∀ a ∈ l, 0 ≤ a ∧ a.toNat < n) : tidI l = setL n fun j => hasI l (j : Int) := by
  refine rising_ext (rise_int.1 (tid_rise linI l)) (setL_rising n _) fun a => ?_
  rw [tidI, tid_mem linI, setL_mem, hasI, List.any_eq_true]
  constructor
  · intro ha
    have := h a ha
    exact ⟨this, a, ha, decide_eq_true (by omega)⟩
  · rintro ⟨h1, b, hb, e⟩
    have := of_decide_eq_true e
    rw [show a = b by omega]; exact hb

theorem sp_Sort_int (xs : List (Int)) (hn : xs.length ≤ 1048576) : Sp Try.prog 124 [.slice true 1 (xs.map (fun n : Int => D.int .i64 n))] [.slice true 1 ((xs.mergeSort leI).map (fun n : Int => D.int .i64 n))] (.tup []) :=
  sp_turnRow encIntD (srt := fun l => l.mergeSort leI) (fun l => List.length_mergeSort l) List.mergeSort_nil Try.slices_Sort_int_none Try.slices_Sort_int xs hn

theorem sp_Compact_int (xs : List (Int)) (hn : xs.length ≤ 1048576) : Sp Try.prog 125 [.slice true 1 (xs.map (fun n : Int => D.int .i64 n))] [.any] (.slice true 1 ((Lib.compact xs).map (fun n : Int => D.int .i64 n))) := by
  have h := sp_cutRow (P := Try.prog) (fn := 125) encIntD (more := []) (mvs := []) (fun S w vs F hd => by rw [DRs] at hd; exact hd) (fun S w => by rw [List.map_nil, DRs]; exact ⟨rfl, rfl⟩) xs (Lib.compact xs ++ List.replicate (xs.length - (Lib.compact xs).length) 0) (Lib.compact xs).length
    (by have := compact_len xs; rw [List.length_append, List.length_replicate]; omega) (by rw [List.length_append]; omega) (fun _ p cap w => Try.slices_Compact_int_empty p cap w) (fun blk cap w hH hc hm => Try.slices_Compact_int blk 0 cap xs w hH (by omega) hc)
  rw [List.take_left] at h
  exact h

theorem sp_impl_tidy (xs : List Int) (hn : xs.length ≤ 1048576) : Sp Try.prog 87 [(.slice true 1 (xs.map (fun n : Int => D.int .i64 n)))] [.any] (.slice true 1 ((tidI xs).map (fun n : Int => D.int .i64 n))) := by
 refine Sp_intro (lend := false) Try.func87 rfl rfl rfl (fun h => nomatch h) (fun c hc hX => ?_)
 refine T_seq ?_
 refine T_region hc ?_
 refine Ch.s (.c (.slice none 0 0)) (.pure (.assign _ rfl rfl)) ?_
 refine Ch.nil ?_
 refine T_seq ?_
 refine T_region hc ?_
 refine Ch.s (.row 1) (.pure (.move _ rfl rfl)) ?_
 refine Ch.step (v := (.tup [])) rfl (.call 4000 124 _ _ _ en124 rfl (.inl rfl) (.cons (.row rfl) .nil) rfl (sol rfl (solids_c (solid_row (fun _ => rfl) _) rfl)) (sp_Sort_int xs (by first | assumption | omega | (rw [List.length_take]; omega) | (have := bulkF_mem hb _ (getD_mem (d := default) (by omega)); assumption) | (unfold bulkS at *; omega) | (simp_all; done))) (.row _ _ _ .nil) rfl) rfl rfl ?_
 refine Ch.nil ?_
 refine T_seq ?_
 refine T_region hc ?_
 refine Ch.s (.row 1) (.pure (.move _ rfl rfl)) ?_
 refine Ch.step (v := (.row 6000)) rfl (.call 6000 125 _ _ _ en125 rfl (.inl rfl) (.cons (.row rfl) .nil) rfl (sol (solid_row (fun _ => rfl) _) rfl) (sp_Compact_int (xs.mergeSort leI) (by first | assumption | omega | (rw [List.length_mergeSort]; assumption) | (rw [List.length_mergeSort]; omega))) (.skip _ _ .nil) rfl) rfl rfl ?_
 refine Ch.s (.row 6000) (.pure (.assign _ rfl rfl)) ?_
 refine Ch.nil ?_
 refine T_ret ?_
 refine And.intro (.inr rfl) ?_
 exact Exists.intro [(.row 6000)] (Exists.intro [] (Exists.intro [6000] (And.intro (.cons (.tmp 2 rfl) .nil) (And.intro (.cons (.any _) .nil) (And.intro (Exp.of (congrArg (D.slice true 1) (by rfl)) (.row rfl)) (And.intro rfl rfl))))))

theorem rising_len {n : Nat} {s : List Int} (h : Rising s) (hin : ∀ a ∈ s, 0 ≤ a ∧ a.toNat < n) : s = setL n (fun j => hasI s (j : Int)) ∧ s.length ≤ n := by
  have e : s = setL n (fun j => hasI s (j : Int)) := rising_ext h (setL_rising n _) fun a => by
    rw [setL_mem, hasI, List.any_eq_true]
    constructor
    · intro ha
      have := hin a ha
      exact ⟨this, a, ha, decide_eq_true (by omega)⟩
    · rintro ⟨h1, b, hb, e⟩
      have := of_decide_eq_true e
      rw [show a = b by omega]; exact hb
  exact ⟨e, by rw [e]; exact setL_le _ _⟩

theorem hasI_mem {l : List Int} {a : Int} : hasI l a = true ↔ a ∈ l := by
  rw [hasI, List.any_eq_true]
  constructor
  · rintro ⟨b, hb, e⟩
    have := of_decide_eq_true e
    subst this; exact hb
  · intro h
    exact ⟨a, h, decide_eq_true rfl⟩

def putC (p : Arc → Bool) (s : List Int) (a : Arc) : List Int := if hasI s a.src && p a then putI s a.dst else s

theorem putC_hit {p : Arc → Bool} {s : List Int} {e : Arc} (h : hasI s e.src = true) (hp : p e = true) : e.dst ∈ putC p s e := by
  unfold putC
  rw [h, hp, Bool.and_self, if_pos rfl]
  exact putI_mem.2 (.inr rfl)

theorem putC_grow (p : Arc → Bool) {n : Nat} {l : List Arc} (hl : ends n l) (s0 : List Int) :
    Grow (putC p) l List.length (fun s => Rising s ∧ (∀ a ∈ s, 0 ≤ a ∧ a.toNat < n) ∧ (∀ a ∈ s0, a ∈ s) ∧ ∀ a ∈ s, Rch (arcE p l) (fun a => a ∈ s0) a) n := by
  refine ⟨?_, fun s e he _ => ?_, fun s e he _ => ?_, fun s hs => (rising_len hs.1 hs.2.1).2⟩
  · intro s e he ⟨h1, h2, h3, h4⟩
    unfold putC
    split
    · rename_i hc
      rw [Bool.and_eq_true, hasI_mem] at hc
      refine ⟨putI_rising h1, fun a ha => ?_, fun a ha => putI_mem.2 (.inl (h3 a ha)), fun a ha => ?_⟩
      · rcases putI_mem.1 ha with ha | rfl
        · exact h2 a ha
        · exact (hl e he).2
      · rcases putI_mem.1 ha with ha | rfl
        · exact h4 a ha
        · exact .step (h4 _ hc.1) ⟨e, he, rfl, rfl, hc.2⟩
    · exact ⟨h1, h2, h3, h4⟩
  · unfold putC
    split
    · unfold putI
      split
      · exact Nat.le_refl _
      · have : (s.takeWhile (fun a => decide (a < e.dst)) ++ s.dropWhile (fun a => decide (a < e.dst))).length = s.length := by rw [List.takeWhile_append_dropWhile]
        rw [List.length_append] at this
        rw [List.length_append, List.length_cons]; omega
    · exact Nat.le_refl _
  · unfold putC
    split
    · unfold putI
      split
      · exact fun _ => rfl
      · have : (s.takeWhile (fun a => decide (a < e.dst)) ++ s.dropWhile (fun a => decide (a < e.dst))).length = s.length := by rw [List.takeWhile_append_dropWhile]
        rw [List.length_append] at this
        rw [List.length_append, List.length_cons]
        intro h; omega
    · exact fun _ => rfl

def reachL (p : Arc → Bool) (l : List Arc) (k : Nat) (s0 : List Int) : List Int := itN (l.foldl (putC p)) k s0

theorem reachL_rising (p : Arc → Bool) {n : Nat} {l : List Arc} (hl : ends n l) {s0 : List Int} (hr : Rising s0) (hin : ∀ a ∈ s0, 0 ≤ a ∧ a.toNat < n) (k : Nat) : Rising (reachL p l k s0) ∧ ∀ a ∈ reachL p l k s0, 0 ≤ a ∧ a.toNat < n := by
  have := ((putC_grow p hl s0).steps (s := s0) ⟨hr, hin, fun _ h => h, fun a h => .base h⟩ k).1
  exact ⟨this.1, this.2.1⟩

theorem reachL_mem (p : Arc → Bool) {n : Nat} {l : List Arc} (hl : ends n l) {s0 : List Int} (hr : Rising s0) (hin : ∀ a ∈ s0, 0 ≤ a ∧ a.toNat < n) (a : Int) : a ∈ reachL p l n s0 ↔ Rch (arcE p l) (fun a => a ∈ s0) a := by
  obtain ⟨⟨h1, h2, h3, h4⟩, h5⟩ := (putC_grow p hl s0).fix (s := s0) ⟨hr, hin, fun _ h => h, fun a h => .base h⟩
  refine ⟨h4 a, fun h => ?_⟩
  refine Rch.ind (fun a => a ∈ reachL p l n s0) (fun a ha => h3 a ha) ?_ h
  rintro b c hb ⟨e, he, rfl, rfl, hp⟩
  have hs := h5 e he
  change e.dst ∈ itN (l.foldl (putC p)) n s0
  rw [← hs]
  exact putC_hit (hasI_mem.2 hb) hp

structure Wl (n : Nat) (E : Int → Int → Prop) (S : Int → Prop) (out : List Int) : Prop where
  inn : ∀ a ∈ out, 0 ≤ a ∧ a.toNat < n
  nod : out.Nodup
  snd : ∀ a ∈ out, Rch E S a
  base : ∀ a, S a → a ∈ out

theorem nodup_len {n : Nat} {l : List Int} (h : l.Nodup) (hin : ∀ a ∈ l, 0 ≤ a ∧ a.toNat < n) : l.length ≤ n := by
  have h1 : (l.mergeSort leI).Pairwise (fun a b => leI a b = true) := List.pairwise_mergeSort (fun a b c h1 h2 => linI.trans a b c h1 h2) (fun a b => linI.total a b) l
  have h2 : (l.mergeSort leI).Nodup := (List.mergeSort_perm l leI).nodup_iff.2 h
  have h3 : Rising (l.mergeSort leI) := by
    rw [← rise_int]
    unfold Rise
    exact List.Pairwise.and h1 h2
  have := (rising_len (n := n) h3 (fun a ha => hin a (List.mem_mergeSort.1 ha))).2
  rwa [List.length_mergeSort] at this

theorem Wl.len {n : Nat} {E : Int → Int → Prop} {S : Int → Prop} {out : List Int} (h : Wl n E S out) : out.length ≤ n := nodup_len h.nod h.inn

theorem Wl.add {n : Nat} {E : Int → Int → Prop} {S : Int → Prop} {out : List Int} (h : Wl n E S out) {a b : Int} (ha : a ∈ out) (he : E a b) (hb : ¬ b ∈ out) (hn : 0 ≤ b ∧ b.toNat < n) : Wl n E S (out ++ [b]) := by
  refine ⟨fun c hc => ?_, ?_, fun c hc => ?_, fun c hc => List.mem_append_left _ (h.base c hc)⟩
  · rcases List.mem_append.1 hc with hc | hc
    · exact h.inn c hc
    · rw [List.mem_singleton] at hc; subst hc; exact hn
  · rw [List.nodup_append]
    refine ⟨h.nod, by simp, fun c hc d hd => ?_⟩
    rw [List.mem_singleton] at hd
    subst hd
    exact fun e => hb (e ▸ hc)
  · rcases List.mem_append.1 hc with hc | hc
    · exact h.snd c hc
    · rw [List.mem_singleton] at hc; subst hc; exact .step (h.snd a ha) he

theorem Wl.done {n : Nat} {E : Int → Int → Prop} {S : Int → Prop} {out : List Int} (h : Wl n E S out) (hd : ∀ a ∈ out, ∀ b, E a b → b ∈ out) (a : Int) : a ∈ out ↔ Rch E S a :=
  ⟨h.snd a, fun hr => Rch.ind (fun a => a ∈ out) h.base (fun a b ha he => hd a ha b he) hr⟩

theorem Wl.tidy {n : Nat} {p : Arc → Bool} {l : List Arc} {s0 out : List Int} (hl : ends n l) (hr : Rising s0) (hin : ∀ a ∈ s0, 0 ≤ a ∧ a.toNat < n) (h : Wl n (arcE p l) (fun a => a ∈ s0) out) (hd : ∀ a ∈ out, ∀ b, arcE p l a b → b ∈ out) : tidI out = reachL p l n s0 := by
  refine rising_ext (rise_int.1 (tid_rise linI out)) (reachL_rising p hl hr hin n).1 fun a => ?_
  rw [tidI, tid_mem linI, reachL_mem p hl hr hin, h.done hd]

def isTo (k s : Int) (up : Bool) (a : Arc) : Bool := decide (a.dst = k) && isEd s up a

def swTo (x : Sgr) (s : Int) (up : Bool) (m : Nat) : List Int := setL x.codes.length fun j => (x.arcs.take m).any (isTo (j : Int) s up)

def swS (x : Sgr) (s : Int) (up : Bool) : List Int := swTo x s up x.arcs.length

theorem swTo_zero (x : Sgr) (s : Int) (up : Bool) : swTo x s up 0 = [] := by
  unfold swTo setL selTo
  simp

theorem swTo_yes {x : Sgr} {s : Int} {up : Bool} {m : Nat} (hen : ends x.codes.length x.arcs) (hm : m < x.arcs.length) (h : isEd s up (x.arcs.getD m default) = true) : putI (swTo x s up m) (x.arcs.getD m default).dst = swTo x s up (m + 1) := by
  have he := hen _ (getD_mem (d := default) hm)
  have hg : x.arcs.getD m default = x.arcs[m] := by simp [hm]
  unfold swTo
  rw [putI_set he.2]
  refine setL_ext fun j hj => ?_
  rw [List.take_succ_eq_append_getElem hm, List.any_append, ← hg]
  congr 1
  simp only [List.any_cons, List.any_nil, Bool.or_false]
  unfold isTo
  rw [h, Bool.and_true, Bool.eq_iff_iff, decide_eq_true_iff, decide_eq_true_iff]
  exact eq_comm

theorem swTo_no {x : Sgr} {s : Int} {up : Bool} {m : Nat} (hm : m < x.arcs.length) (h : isEd s up (x.arcs.getD m default) = false) : swTo x s up m = swTo x s up (m + 1) := by
  have hg : x.arcs.getD m default = x.arcs[m] := by simp [hm]
  unfold swTo
  refine setL_ext fun j hj => ?_
  rw [List.take_succ_eq_append_getElem hm, List.any_append, ← hg]
  simp only [List.any_cons, List.any_nil, Bool.or_false]
  unfold isTo
  rw [h, Bool.and_false, Bool.or_false]

theorem swTo_le (x : Sgr) (s : Int) (up : Bool) (m : Nat) : (swTo x s up m).length ≤ x.codes.length := setL_le _ _

theorem swTo_rising (x : Sgr) (s : Int) (up : Bool) (m : Nat) : Rising (swTo x s up m) := setL_rising _ _

theorem swTo_in (x : Sgr) (s : Int) (up : Bool) (m : Nat) : ∀ a ∈ swTo x s up m, 0 ≤ a ∧ a.toNat < x.codes.length := fun a ha => (setL_mem.1 ha).1

def edK (f : Arc → Int) (x : Sgr) (l : Lab) (k : Nat) : List Int := ((x.arcs.take k).filter (isEd l.sig l.up)).map f

theorem edK_yes {f : Arc → Int} {x : Sgr} {l : Lab} {k : Nat} (hk : k < x.arcs.length) (h : isEd l.sig l.up (x.arcs.getD k default) = true) : edK f x l k ++ [f (x.arcs.getD k default)] = edK f x l (k + 1) := by
  have hg : x.arcs.getD k default = x.arcs[k] := by simp [hk]
  rw [hg] at h ⊢
  unfold edK
  rw [List.take_succ_eq_append_getElem hk, List.filter_append, List.map_append]; simp [h]

theorem edK_no {f : Arc → Int} {x : Sgr} {l : Lab} {k : Nat} (hk : k < x.arcs.length) (h : isEd l.sig l.up (x.arcs.getD k default) = false) : edK f x l k = edK f x l (k + 1) := by
  have hg : x.arcs.getD k default = x.arcs[k] := by simp [hk]
  rw [hg] at h
  unfold edK
  rw [List.take_succ_eq_append_getElem hk, List.filter_append, List.map_append]; simp [h]

theorem edK_le (f : Arc → Int) (x : Sgr) (l : Lab) (k : Nat) : (edK f x l k).length ≤ k := by
  unfold edK
  rw [List.length_map]
  have h1 := List.length_filter_le (isEd l.sig l.up) (x.arcs.take k)
  rw [List.length_take] at h1
  omega

theorem lab_is {a : Arc} {l : Lab} : decide (Lab.mk a.sig a.up = l) = isEd l.sig l.up a := by
  unfold isEd
  cases l
  simp

theorem lab_is2 {a : Arc} {l : Lab} : decide (l = Lab.mk a.sig a.up) = isEd l.sig l.up a := by
  rw [← lab_is]
  exact decide_eq_decide.2 eq_comm

theorem ed_dst {x : Sgr} (hen : ends x.codes.length x.arcs) (l : Lab) : tidI (edK Arc.dst x l x.arcs.length) = swS x l.sig l.up := by
  rw [tidI_set (n := x.codes.length)]
  · unfold swS swTo
    refine setL_ext fun j hj => ?_
    unfold edK hasI
    rw [List.take_length, List.any_map, List.any_filter]
    congr 1
    funext a
    unfold isTo
    simp [Bool.and_comm]
  · intro a ha
    obtain ⟨b, hb, rfl⟩ := List.mem_map.1 ha
    exact (hen b (List.mem_of_mem_take (List.mem_filter.1 hb).1)).2

def blP (r : Lab) (a : Arc) : Bool := !isEd r.sig r.up a

def blkL (x : Sgr) (s r : Lab) : List Int := reachL (blP r) x.arcs x.codes.length (swS x s.sig s.up)

def blkTo (x : Sgr) (s r : Lab) (k m : Nat) : List Int := (x.arcs.take m).foldl (putC (blP r)) (reachL (blP r) x.arcs k (swS x s.sig s.up))

theorem blkTo_next {x : Sgr} {s r : Lab} {k m : Nat} (h : x.arcs.length ≤ m) : blkTo x s r k m = reachL (blP r) x.arcs (k + 1) (swS x s.sig s.up) := by
  rw [blkTo, List.take_of_length_le h]; rfl

theorem blkTo_succ {x : Sgr} {s r : Lab} {k m : Nat} (h : m < x.arcs.length) : blkTo x s r k (m + 1) = putC (blP r) (blkTo x s r k m) (x.arcs.getD m default) := by
  have hg : x.arcs.getD m default = x.arcs[m] := by simp [h]
  unfold blkTo
  rw [List.take_succ_eq_append_getElem h, List.foldl_append, hg]; rfl

theorem blkTo_ok {x : Sgr} (hen : ends x.codes.length x.arcs) (s r : Lab) (k : Nat) : ∀ m, m ≤ x.arcs.length → Rising (blkTo x s r k m) ∧ (∀ a ∈ blkTo x s r k m, 0 ≤ a ∧ a.toNat < x.codes.length) ∧ (blkTo x s r k m).length ≤ x.codes.length := by
  have step : ∀ m, m ≤ x.arcs.length → Rising (blkTo x s r k m) ∧ ∀ a ∈ blkTo x s r k m, 0 ≤ a ∧ a.toNat < x.codes.length := by
    intro m
    induction m with
    | zero => intro _; exact reachL_rising (blP r) hen (swTo_rising x _ _ _) (swTo_in x _ _ _) k
    | succ m ih =>
      intro hm
      obtain ⟨h1, h2⟩ := ih (by omega)
      rw [blkTo_succ (by omega)]
      unfold putC
      split
      · refine ⟨putI_rising h1, fun a ha => ?_⟩
        rcases putI_mem.1 ha with ha | rfl
        · exact h2 a ha
        · exact (hen _ (getD_mem (by omega))).2
      · exact ⟨h1, h2⟩
  intro m hm
  obtain ⟨h1, h2⟩ := step m hm
  exact ⟨h1, h2, (rising_len h1 h2).2⟩

theorem blkTo_put {x : Sgr} {s r : Lab} {k m : Nat} (h : m < x.arcs.length) (h1 : hasI (blkTo x s r k m) (x.arcs.getD m default).src = true) (h2 : isEd r.sig r.up (x.arcs.getD m default) = false) : putI (blkTo x s r k m) (x.arcs.getD m default).dst = blkTo x s r k (m + 1) := by
  rw [blkTo_succ h, putC, h1, show blP r (x.arcs.getD m default) = true by rw [blP, h2]; rfl, Bool.and_self, if_pos rfl]

theorem blkTo_out {x : Sgr} {s r : Lab} {k m : Nat} (h : m < x.arcs.length) (h1 : hasI (blkTo x s r k m) (x.arcs.getD m default).src = false) : blkTo x s r k m = blkTo x s r k (m + 1) := by
  rw [blkTo_succ h, putC, h1, Bool.false_and, if_neg (by decide)]

theorem blkTo_reset {x : Sgr} {s r : Lab} {k m : Nat} (h : m < x.arcs.length) (h2 : isEd r.sig r.up (x.arcs.getD m default) = true) : blkTo x s r k m = blkTo x s r k (m + 1) := by
  rw [blkTo_succ h, putC, show blP r (x.arcs.getD m default) = false by rw [blP, h2]; rfl, Bool.and_false, if_neg (by decide)]

def nxTo (x : Sgr) : Nat → List (List Int)
  | 0 => List.replicate x.codes.length []
  | k + 1 => (nxTo x k).set (x.arcs.getD k default).src.toNat ((nxTo x k).getD (x.arcs.getD k default).src.toNat default ++ [(k : Int)])

theorem nxTo_len (x : Sgr) : ∀ k, (nxTo x k).length = x.codes.length
  | 0 => by simp [nxTo]
  | k + 1 => by rw [nxTo, List.length_set, nxTo_len x k]

theorem nx_mem {x : Sgr} (hen : ends x.codes.length x.arcs) {j : Nat} {i : Int} : ∀ k, k ≤ x.arcs.length → (i ∈ (nxTo x k).getD j default ↔ (0 ≤ i ∧ i.toNat < k) ∧ (x.arcs.getD i.toNat default).src.toNat = j)
  | 0, _ => by
    constructor
    · intro h
      exfalso
      unfold nxTo at h
      by_cases hj : j < x.codes.length
      · simp [hj] at h
      · simp [hj] at h
        cases h
    · rintro ⟨⟨_, h⟩, _⟩
      omega
  | k + 1, hk => by
    have he := hen _ (getD_mem (l := x.arcs) (j := k) (d := default) (by omega))
    rw [nxTo, getD_set, nxTo_len]
    split
    · rename_i h
      rw [List.mem_append, List.mem_singleton, h.1, nx_mem hen k (by omega)]
      constructor
      · rintro (⟨⟨h1, h2⟩, h3⟩ | h1)
        · exact ⟨⟨h1, by omega⟩, h3⟩
        · subst h1
          exact ⟨⟨by omega, by omega⟩, h.1⟩
      · rintro ⟨⟨h1, h2⟩, h3⟩
        by_cases e : i = (k : Int)
        · exact .inr e
        · exact .inl ⟨⟨h1, by omega⟩, h3⟩
    · rename_i h
      rw [nx_mem hen k (by omega)]
      constructor
      · rintro ⟨⟨h1, h2⟩, h3⟩
        exact ⟨⟨h1, by omega⟩, h3⟩
      · rintro ⟨⟨h1, h2⟩, h3⟩
        refine ⟨⟨h1, ?_⟩, h3⟩
        apply Classical.byContradiction
        intro hc
        have e : i.toNat = k := by omega
        rw [e] at h3
        exact h ⟨h3, he.1.2⟩

theorem nx_le (x : Sgr) : ∀ k, k ≤ x.arcs.length → ∀ j, ((nxTo x k).getD j default).length ≤ k
  | 0, _, j => by
    unfold nxTo
    by_cases hj : j < x.codes.length
    · simp [hj]
    · simp [hj]; rfl
  | k + 1, hk, j => by
    have h1 := nx_le x k (by omega)
    rw [nxTo, getD_set]
    split
    · rename_i h
      have := h1 (x.arcs.getD k default).src.toNat
      rw [List.length_append, List.length_singleton]; omega
    · have := h1 j; omega

def seenTo (n : Nat) (l : List Int) (m : Nat) : List Bool := (l.take m).foldl (fun s a => s.set a.toNat true) (List.replicate n false)

theorem seenTo_succ {n : Nat} {l : List Int} {m : Nat} (h : m < l.length) : (seenTo n l m).set (l.getD m default).toNat true = seenTo n l (m + 1) := by
  have hg : l.getD m default = l[m] := by simp [h]
  unfold seenTo
  rw [List.take_succ_eq_append_getElem h, List.foldl_append, hg]; rfl

theorem seen_fold : ∀ (l : List Int) (s : List Bool), (l.foldl (fun s a => s.set a.toNat true) s).length = s.length ∧ ∀ j : Nat, (∀ a ∈ l, 0 ≤ a ∧ a.toNat < s.length) → ((l.foldl (fun s a => s.set a.toNat true) s).getD j default = true ↔ s.getD j default = true ∨ (j : Int) ∈ l)
  | [], s => ⟨rfl, fun j _ => by simp⟩
  | a :: l, s => by
    obtain ⟨h1, h2⟩ := seen_fold l (s.set a.toNat true)
    rw [List.foldl_cons]
    refine ⟨by rw [h1, List.length_set], fun j hl => ?_⟩
    have ha := hl a List.mem_cons_self
    rw [h2 j (fun b hb => by rw [List.length_set]; exact hl b (List.mem_cons_of_mem _ hb)), getD_set, List.mem_cons]
    by_cases e : a.toNat = j
    · rw [if_pos ⟨e, by omega⟩]
      constructor
      · intro _; exact .inr (.inl (by omega))
      · intro _; exact .inl rfl
    · rw [if_neg (fun h => e h.1)]
      constructor
      · rintro (h | h)
        · exact .inl h
        · exact .inr (.inr h)
      · rintro (h | h | h)
        · exact .inl h
        · exact absurd (by omega : a.toNat = j) e
        · exact .inr h

theorem seenTo_len (n : Nat) (l : List Int) (m : Nat) : (seenTo n l m).length = n := by
  rw [seenTo, (seen_fold _ _).1, List.length_replicate]

def walk (x : Sgr) (p : Arc → Bool) (q : List Int × List Bool) (i : Int) : List Int × List Bool :=
  if p (x.arcs.getD i.toNat default) && !q.2.getD (x.arcs.getD i.toNat default).dst.toNat default then (q.1 ++ [(x.arcs.getD i.toNat default).dst], q.2.set (x.arcs.getD i.toNat default).dst.toNat true) else q

def walkTo (x : Sgr) (p : Arc → Bool) (o : List Int) (s : List Bool) (ts : List Int) (m : Nat) : List Int × List Bool := (ts.take m).foldl (walk x p) (o, s)

theorem walkTo_succ {x : Sgr} {p : Arc → Bool} {o : List Int} {s : List Bool} {ts : List Int} {m : Nat} (h : m < ts.length) : walkTo x p o s ts (m + 1) = walk x p (walkTo x p o s ts m) (ts.getD m default) := by
  have hg : ts.getD m default = ts[m] := by simp [h]
  unfold walkTo
  rw [List.take_succ_eq_append_getElem h, List.foldl_append, hg]; rfl

structure Wk2 (x : Sgr) (p : Arc → Bool) (s0 : List Int) (q : List Int × List Bool) : Prop where
  wl : Wl x.codes.length (arcE p x.arcs) (fun a => a ∈ s0) q.1
  len : q.2.length = x.codes.length
  same : ∀ j : Nat, q.2.getD j default = true ↔ (j : Int) ∈ q.1

theorem Wk2.step {x : Sgr} {p : Arc → Bool} {s0 : List Int} {q : List Int × List Bool} (h : Wk2 x p s0 q) (hen : ends x.codes.length x.arcs) {i : Int} (hi : 0 ≤ i ∧ i.toNat < x.arcs.length) (hs : (x.arcs.getD i.toNat default).src ∈ q.1) :
    Wk2 x p s0 (walk x p q i) ∧ (∃ r, (walk x p q i).1 = q.1 ++ r) ∧ (p (x.arcs.getD i.toNat default) = true → (x.arcs.getD i.toNat default).dst ∈ (walk x p q i).1) := by
  have hm := getD_mem (l := x.arcs) (j := i.toNat) (d := default) hi.2
  have he := hen _ hm
  unfold walk
  split
  · rename_i hc
    rw [Bool.and_eq_true, Bool.not_eq_true'] at hc
    have hb : ¬ (x.arcs.getD i.toNat default).dst ∈ q.1 := by
      intro hb
      have := (h.same (x.arcs.getD i.toNat default).dst.toNat).2 (by rw [show (((x.arcs.getD i.toNat default).dst.toNat : Nat) : Int) = (x.arcs.getD i.toNat default).dst by omega]; exact hb)
      rw [hc.2] at this; cases this
    refine ⟨⟨h.wl.add hs ⟨_, hm, rfl, rfl, hc.1⟩ hb he.2, by rw [List.length_set]; exact h.len, fun j => ?_⟩, ⟨_, rfl⟩, fun _ => List.mem_append_right _ (List.mem_singleton.2 rfl)⟩
    dsimp only
    rw [getD_set, List.mem_append, List.mem_singleton]
    split
    · rename_i hh
      exact ⟨fun _ => .inr (by omega), fun _ => rfl⟩
    · rename_i hh
      rw [h.same]
      refine ⟨.inl, fun h2 => h2.elim id fun e => absurd ⟨by omega, ?_⟩ hh⟩
      rw [h.len]; exact he.2.2
  · rename_i hc
    refine ⟨h, ⟨[], by simp⟩, fun hp => ?_⟩
    rw [hp, Bool.true_and, Bool.not_eq_true'] at hc
    have : q.2.getD (x.arcs.getD i.toNat default).dst.toNat default = true := by simpa using hc
    have := (h.same _).1 this
    rwa [show (((x.arcs.getD i.toNat default).dst.toNat : Nat) : Int) = (x.arcs.getD i.toNat default).dst by omega] at this

theorem Wk2.steps {x : Sgr} {p : Arc → Bool} {s0 : List Int} {o : List Int} {s : List Bool} {ts : List Int} (h : Wk2 x p s0 (o, s)) (hen : ends x.codes.length x.arcs) (hts : ∀ i ∈ ts, (0 ≤ i ∧ i.toNat < x.arcs.length) ∧ (x.arcs.getD i.toNat default).src ∈ o) : ∀ m, m ≤ ts.length →
    Wk2 x p s0 (walkTo x p o s ts m) ∧ (∃ r, (walkTo x p o s ts m).1 = o ++ r) ∧ ∀ j, j < m → p (x.arcs.getD (ts.getD j default).toNat default) = true → (x.arcs.getD (ts.getD j default).toNat default).dst ∈ (walkTo x p o s ts m).1
  | 0, _ => ⟨h, ⟨[], by simp [walkTo]⟩, fun j hj => absurd hj (Nat.not_lt_zero _)⟩
  | m + 1, hm => by
    obtain ⟨h1, ⟨r, h2⟩, h3⟩ := h.steps hen hts m (by omega)
    have ht := hts _ (getD_mem (l := ts) (j := m) (d := default) (by omega))
    obtain ⟨a, ⟨r2, b⟩, c⟩ := h1.step hen ht.1 (by rw [h2]; exact List.mem_append_left _ ht.2)
    rw [walkTo_succ (by omega)]
    refine ⟨a, ⟨r ++ r2, by rw [b, h2, List.append_assoc]⟩, fun j hj hp => ?_⟩
    by_cases hlt : j < m
    · rw [b]; exact List.mem_append_left _ (h3 j hlt hp)
    · rw [show j = m by omega] at hp ⊢; exact c hp

structure WkInv (x : Sgr) (p : Arc → Bool) (s0 : List Int) (q : (List Int × List Bool) × Nat) : Prop where
  inv : Wk2 x p s0 q.1
  done : ∀ i, i < q.2 → i < q.1.1.length → ∀ b, arcE p x.arcs (q.1.1.getD i default) b → b ∈ q.1.1

theorem WkInv.zero {x : Sgr} {p : Arc → Bool} {s0 : List Int} (hr : Rising s0) (hin : ∀ a ∈ s0, 0 ≤ a ∧ a.toNat < x.codes.length) {m : Nat} (hm : s0.length ≤ m) : WkInv x p s0 ((s0, seenTo x.codes.length s0 m), 0) := by
  refine ⟨⟨⟨hin, hr.imp (fun h => by omega), fun a ha => .base ha, fun _ h => h⟩, seenTo_len _ _ _, fun j => ?_⟩, fun i h => absurd h (Nat.not_lt_zero _)⟩
  unfold seenTo
  rw [List.take_of_length_le hm, (seen_fold _ _).2 j (fun a ha => by rw [List.length_replicate]; exact hin a ha)]
  constructor
  · rintro (h | h)
    · rw [List.getD_eq_getElem?_getD, List.getElem?_replicate] at h
      split at h <;> cases h
    · exact h
  · exact .inr

theorem nx_all {x : Sgr} (hen : ends x.codes.length x.arcs) {q : List Int} {k : Nat} (hk : k < q.length) (hq : ∀ a ∈ q, 0 ≤ a ∧ a.toNat < x.codes.length) : ∀ i ∈ (nxTo x x.arcs.length).getD (q.getD k default).toNat default, (0 ≤ i ∧ i.toNat < x.arcs.length) ∧ (x.arcs.getD i.toNat default).src ∈ q := by
  intro i hi
  obtain ⟨h1, h2⟩ := (nx_mem hen _ (Nat.le_refl _)).1 hi
  have hm := getD_mem (l := q) (j := k) (d := default) hk
  have he := hen _ (getD_mem (l := x.arcs) (j := i.toNat) (d := default) h1.2)
  have := hq _ hm
  refine ⟨h1, ?_⟩
  rw [show (x.arcs.getD i.toNat default).src = q.getD k default by omega]; exact hm

theorem WkInv.step {x : Sgr} {p : Arc → Bool} {s0 : List Int} {q : (List Int × List Bool) × Nat} (h : WkInv x p s0 q) (hen : ends x.codes.length x.arcs) (hk : q.2 < q.1.1.length) {ts : List Int} (hts : ts = (nxTo x x.arcs.length).getD (q.1.1.getD q.2 default).toNat default) :
    WkInv x p s0 (walkTo x p q.1.1 q.1.2 ts ts.length, q.2 + 1) := by
  subst hts
  obtain ⟨h1, ⟨r, h2⟩, h3⟩ := Wk2.steps (o := q.1.1) (s := q.1.2) h.inv hen (nx_all hen hk h.inv.wl.inn) _ (Nat.le_refl _)
  refine ⟨h1, fun i hi hl b hb => ?_⟩
  dsimp only at hi hl hb ⊢
  rw [h2] at hb
  by_cases hlt : i < q.2
  · rw [getD_app (by omega)] at hb
    rw [h2]
    exact List.mem_append_left _ (h.done i hlt (by omega) b hb)
  · have e : i = q.2 := by omega
    subst e
    rw [getD_app hk] at hb
    obtain ⟨a, ha, ea, rfl, hp⟩ := hb
    obtain ⟨j, hj, ej⟩ := List.mem_iff_getElem.1 ha
    have hin : ((j : Nat) : Int) ∈ (nxTo x x.arcs.length).getD (q.1.1.getD q.2 default).toNat default := by
      refine (nx_mem hen _ (Nat.le_refl _)).2 ⟨⟨by omega, by omega⟩, ?_⟩
      rw [Int.toNat_natCast, show x.arcs.getD j default = a by simp [hj, ej], ea]
    obtain ⟨m, hm, em⟩ := List.mem_iff_getElem.1 hin
    have hg : ((nxTo x x.arcs.length).getD (q.1.1.getD q.2 default).toNat default).getD m default = (j : Int) := by
      rw [List.getD_eq_getElem?_getD (i := m), List.getElem?_eq_getElem hm, Option.getD_some, em]
    have h4 := h3 m hm
    rw [hg, Int.toNat_natCast, show x.arcs.getD j default = a by simp [hj, ej]] at h4
    exact h4 hp

theorem WkInv.end {x : Sgr} {p : Arc → Bool} {s0 : List Int} {q : (List Int × List Bool) × Nat} (h : WkInv x p s0 q) (hen : ends x.codes.length x.arcs) (hr : Rising s0) (hin : ∀ a ∈ s0, 0 ≤ a ∧ a.toNat < x.codes.length) (hk : ¬ q.2 < q.1.1.length) : tidI q.1.1 = reachL p x.arcs x.codes.length s0 := by
  refine h.inv.wl.tidy hen hr hin fun a ha b hb => ?_
  obtain ⟨i, hi, rfl⟩ := List.mem_iff_getElem.1 ha
  refine h.done i (by omega) hi b ?_
  rwa [show q.1.1.getD i default = q.1.1[i] by simp [hi]]

theorem walk_yes {x : Sgr} {r : Lab} {q : List Int × List Bool} {i : Int} (h1 : ¬ Lab.mk (x.arcs.getD i.toNat default).sig (x.arcs.getD i.toNat default).up = r) (h2 : q.2.getD (x.arcs.getD i.toNat default).dst.toNat default = false) : walk x (blP r) q i = (q.1 ++ [(x.arcs.getD i.toNat default).dst], q.2.set (x.arcs.getD i.toNat default).dst.toNat true) := by
  have h3 := decide_eq_false h1
  rw [lab_is] at h3
  rw [walk, blP, h3, h2]; rfl

theorem walk_lab {x : Sgr} {r : Lab} {q : List Int × List Bool} {i : Int} (h1 : Lab.mk (x.arcs.getD i.toNat default).sig (x.arcs.getD i.toNat default).up = r) : walk x (blP r) q i = q := by
  have h3 := decide_eq_true h1
  rw [lab_is] at h3
  rw [walk, blP, h3]; rfl

theorem walk_seen {x : Sgr} {r : Lab} {q : List Int × List Bool} {i : Int} (h2 : q.2.getD (x.arcs.getD i.toNat default).dst.toNat default = true) : walk x (blP r) q i = q := by
  rw [walk, h2, Bool.not_true, Bool.and_false]; rfl

theorem sp_impl_labelOfArc (a : Arc) : Sp Try.prog 86 [(.agg [(.int .i64 a.src), (.int .i64 a.sig), (.bool (a.up)), (.int .i64 a.dst)])] [.any] (.agg [(.int .i64 ((Lab.mk a.sig a.up).sig)), (.bool ((Lab.mk a.sig a.up).up))]) := by
 refine Sp_intro (lend := true) Try.func86 rfl rfl rfl (fun _ => rfl) (fun c hc hX => ?_)
 refine T_seq ?_
 refine T_region hc ?_
 refine Ch.s (.ptr 1000 0) (.box 1000 _ _ rfl (.aggD _)) ?_
 refine Ch.s (.ptr 2000 0) (.alloc 2000 _ rfl zer46) ?_
 refine Ch.nil ?_
 refine T_seq ?_
 refine T_region hc ?_
 refine Ch.s (.ptr 1000 1) (.pure (.fldPtr _ _ _ rfl fld85_1 rfl)) ?_
 refine Ch.s (.d (.int .i64 a.sig)) (.pure (.loadPtr1 _ _ rfl ag3 rfl rfl rfl)) ?_
 refine Ch.s (.ptr 1000 2) (.pure (.fldPtr _ _ _ rfl fld85_2 rfl)) ?_
 refine Ch.s (.d (.bool (a.up))) (.pure (.loadPtr1 _ _ rfl ag4 rfl rfl rfl)) ?_
 refine Ch.s (.agg [(.d (.int .i64 a.sig)), (.d (.bool (a.up)))]) (.build _ _ rfl stru46 (.cons (.one _ rfl) (.cons (.one _ rfl) .nil)) rfl) ?_
 refine Ch.s .junk (.storePtr _ _ _ rfl rfl rfl (.agg _ rfl) sz46 (Nat.le_of_ble_eq_true rfl)) ?_
 refine Ch.nil ?_
 refine T_ret ?_
 refine And.intro (.inr rfl) ?_
 exact Exists.intro [(.agg [(.d (.int .i64 a.sig)), (.d (.bool (a.up)))])] (Exists.intro [] (Exists.intro [] (And.intro (.cons (.cellA _ _ rfl rfl ag46 sz46) .nil) (And.intro (.cons (.any _) .nil) (And.intro (.agg (.cons (Exp.of (congrArg (D.int .i64) (by rfl)) (.d _)) (.cons (Exp.of (congrArg D.bool (by rfl)) (.d _)) .nil)) rfl) (And.intro rfl rfl))))))

theorem sp_impl_switched (x : Sgr) (l : Lab) (hb : x.bulk ≤ 1048576) (hx : SgOk x) : Sp Try.prog 84 [(.agg [(.slice false 2 (x.sigs.map Sgn.d)), (.slice false 1 (x.codes.map D.str)), (.slice false 4 (x.arcs.map Arc.d))]), (.agg [(.int .i64 l.sig), (.bool (l.up))])] [.any, .any] (.slice true 1 ((swS x l.sig l.up).map (fun n : Int => D.int .i64 n))) := by
 refine Sp_intro (lend := true) Try.func84 rfl rfl rfl (fun _ => rfl) (fun c hc hX => ?_)
 obtain ⟨hp0, hp1, hp2⟩ := Sgr.parts hb
 have hn0 := bulkF_len hp0
 have hn1 := bulk_len hp1
 have hx1 := bulk_mem hp1
 have hn2 := bulkF_len hp2; have hxl := hx.len; have hxf := hx.few; have hen := hx.ends
 refine T_seq ?_
 refine T_region hc ?_
 refine Ch.s (.ptr 2000 0) (.box 2000 _ _ rfl (.aggD _)) ?_
 refine Ch.s (.ptr 3000 0) (.box 3000 _ _ rfl (.aggD _)) ?_
 refine Ch.s (.c (.slice none 0 0)) (.pure (.assign _ rfl rfl)) ?_
 refine Ch.nil ?_
 refine T_seq ?_
 refine T_region hc ?_
 refine Ch.s (.row 8000) (.slice 8000 _ 3 _ rfl sty43 (xs := []) rfl rfl .nil rfl rfl (by decide)) ?_
 refine Ch.s (.row 8000) (.pure (.assign _ rfl rfl)) ?_
 refine Ch.nil ?_
 refine T_seq ?_
 refine T_seq ?_
 refine T_region hc ?_
 refine Ch.s (.ptr 2000 2) (.pure (.fldPtr _ _ _ rfl fld34_2 rfl)) ?_
 refine Ch.s (.d (.slice false 4 (x.arcs.map Arc.d))) (.pure (.loadPtr1 _ _ rfl ag32 rfl rfl rfl)) ?_
 refine Ch.s (.d (.int .i64 ((x.arcs.length : Nat) : Int))) (.pure (.len _ _ 85 rfl Try.underlying32 (.sh _ _) (by simp))) ?_
 refine Ch.s (.d (.int .i64 0)) (.pure (.move _ rfl rfl)) ?_
 refine Ch.nil ?_
 refine T_block ?_
 refine T_loop (ι := Nat) (fun k => { n := 28, sl := [(3, (.ptr 3000 0)), (5, (.row 5)), (10, (.d (.slice false 4 (x.arcs.map Arc.d)))), (11, (.d (.int .i64 ((x.arcs.length : Nat) : Int)))), (12, (.d (.int .i64 ((k : Nat) : Int))))], hp := [(5, (some (.row 1 ((edK Arc.dst x l k).map (fun n : Int => D.int .i64 n))))), (3000, (some (.box [(.d (.int .i64 l.sig)), (.d (.bool (l.up)))])))], pin := [] }) (fun k => k ≤ x.arcs.length) (fun k => x.arcs.length - k) ⟨0, (by omega), (Wk.ren [(5, 8000)] rfl rfl rfl rfl (And.intro rfl (And.intro rfl (And.intro rfl (And.intro rfl (And.intro (vI (by first | rfl | omega | (simp; done) | (simp; omega))) trivial))))) (And.intro (oR (by first | rfl | (exact push rfl (edK_yes (by omega) (by first | (rw [← lab_is]; exact decide_eq_true (by assumption)) | (rw [← lab_is2]; exact decide_eq_true (by assumption))))) | (exact congrArg (List.map _) (edK_no (by omega) (by first | (rw [← lab_is]; exact decide_eq_false (by assumption)) | (rw [← lab_is2]; exact decide_eq_false (by assumption))))))) (And.intro rfl trivial)))⟩ (fun k hp0 => ?_)
 have hq := edK_le Arc.dst x l k
 refine T_seq ?_
 refine T_region hc ?_
 refine Ch.s (.d (.bool (decide (((k : Nat) : Int) < ((x.arcs.length : Nat) : Int))))) (.pure (.int _ _ _ _ _ rfl rfl rfl rfl)) ?_
 refine Ch.nil ?_
 refine T_seq ?_
 refine T_cond (b := (decide (((k : Nat) : Int) < ((x.arcs.length : Nat) : Int)))) rfl (fun h1 => ?_) (fun h1 => ?_)
 ·
  replace h1 := of_decide_eq_true h1
  refine T_skip ?_
  refine T_seq ?_
  refine T_block ?_
  refine T_seq ?_
  refine T_region hc ?_
  refine Ch.s (.d (.ref (.agg [(.int .i64 ((x.arcs.getD k default).src)), (.int .i64 ((x.arcs.getD k default).sig)), (.bool ((x.arcs.getD k default).up)), (.int .i64 ((x.arcs.getD k default).dst))]))) (.pure (.idx _ _ _ 85 (k) rfl Try.underlying32 sz85 rfl rfl rfl get_mapA)) ?_
  refine Ch.s (.d (.agg [(.int .i64 ((x.arcs.getD k default).src)), (.int .i64 ((x.arcs.getD k default).sig)), (.bool ((x.arcs.getD k default).up)), (.int .i64 ((x.arcs.getD k default).dst))])) (.pure (.loadRefA _ _ rfl ag85 sz85 rfl)) ?_
  refine Ch.s (.ptr 7000 0) (.alloc 7000 _ rfl zer85) ?_
  refine Ch.s .junk (.storePtr _ _ _ rfl rfl rfl (.aggD _) sz85 (Nat.le_of_ble_eq_true rfl)) ?_
  refine Ch.nil ?_
  refine T_seq ?_
  refine T_regionD hc (by kernel_rfl) ?_
  refine ChD.s (.agg [(.d (.int .i64 ((x.arcs.getD k default).src))), (.d (.int .i64 ((x.arcs.getD k default).sig))), (.d (.bool ((x.arcs.getD k default).up))), (.d (.int .i64 ((x.arcs.getD k default).dst)))]) [7000] (.pure (.loadPtrA _ _ rfl ag85 sz85 rfl rfl (Nat.le_of_ble_eq_true rfl) rfl)) ?_
  refine ChD.s (.d (.agg [(.int .i64 ((Lab.mk (x.arcs.getD k default).sig (x.arcs.getD k default).up).sig)), (.bool ((Lab.mk (x.arcs.getD k default).sig (x.arcs.getD k default).up).up))])) [] (.call 17000 86 _ _ _ en86 rfl (.inl rfl) (.cons (.lend (.agg (.cons (.d _) (.cons (.d _) (.cons (.d _) (.cons (.d _) .nil)))) rfl)) .nil) rfl rfl (sp_impl_labelOfArc (x.arcs.getD k default)) (.skip _ _ .nil) rfl) ?_
  refine ChD.s (.agg [(.d (.int .i64 l.sig)), (.d (.bool (l.up)))]) [3000] (.pure (.loadPtrA _ _ rfl ag46 sz46 rfl rfl (Nat.le_of_ble_eq_true rfl) rfl)) ?_
  refine ChD.s (.d (.bool (decide ((Lab.mk (x.arcs.getD k default).sig (x.arcs.getD k default).up) = l)))) [] (.pure (.eqA _ _ _ _ rfl (eqa46 _ _ _ _) (.d _) (.v [(.int .i64 l.sig), (.bool (l.up))]) (Lab.eqv (Lab.mk (x.arcs.getD k default).sig (x.arcs.getD k default).up) l))) ?_
  refine ChD.nil (And.intro ?_ (by kernel_rfl))
  refine T_cond (b := (decide ((Lab.mk (x.arcs.getD k default).sig (x.arcs.getD k default).up) = l))) rfl (fun h2 => ?_) (fun h2 => ?_)
  ·
   replace h2 := of_decide_eq_true h2
   refine T_region hc ?_
   refine Ch.s (.row 5) (.pure (.move _ rfl rfl)) ?_
   refine Ch.s (.ptr 7000 3) (.pure (.fldPtr _ _ _ rfl fld85_3 rfl)) ?_
   refine Ch.s (.d (.int .i64 ((x.arcs.getD k default).dst))) (.pure (.loadPtr1 _ _ rfl ag3 rfl rfl rfl)) ?_
   refine Ch.s (.row 23000) (.slice 23000 _ 3 _ rfl sty43 (xs := [.tmp 22]) rfl rfl (.cons (.d _) .nil) rfl rfl (by decide)) ?_
   refine Ch.step (v := (.row 24000)) rfl (.append 24000 _ _ _ 3 rfl sty43 (by decide) (.rowK rfl) (.inr ⟨_, rfl, rfl⟩) (.row rfl rfl) rfl (by first | omega | (simp only [List.length_append, List.length_map, List.length_cons, List.length_nil]; omega) | (simp; omega) | (simp; done))) rfl rfl ?_
   refine Ch.s (.row 24000) (.pure (.assign _ rfl rfl)) ?_
   refine Ch.nil ?_
   refine T_region hc ?_
   refine Ch.s (.d (.int .i64 (((k : Nat) : Int) + 1))) (.pure (.int _ _ _ _ _ rfl rfl rfl intV_addA)) ?_
   refine Ch.s (.d (.int .i64 (((k : Nat) : Int) + 1))) (.pure (.move _ rfl rfl)) ?_
   refine Ch.nil ?_
   refine Exists.intro (k + 1) (And.intro (by omega) (And.intro (by first | omega | (dsimp only; omega)) (Wk.ren [(5, 24000)] rfl rfl rfl rfl (And.intro rfl (And.intro rfl (And.intro rfl (And.intro rfl (And.intro (vI (by first | rfl | omega | (simp; done) | (simp; omega))) trivial))))) (And.intro (oR (by first | rfl | (exact push rfl (edK_yes (by omega) (by first | (rw [← lab_is]; exact decide_eq_true (by assumption)) | (rw [← lab_is2]; exact decide_eq_true (by assumption))))) | (exact congrArg (List.map _) (edK_no (by omega) (by first | (rw [← lab_is]; exact decide_eq_false (by assumption)) | (rw [← lab_is2]; exact decide_eq_false (by assumption))))))) (And.intro rfl trivial)))))
  ·
   replace h2 := of_decide_eq_false h2
   refine T_skip ?_
   refine T_region hc ?_
   refine Ch.s (.d (.int .i64 (((k : Nat) : Int) + 1))) (.pure (.int _ _ _ _ _ rfl rfl rfl intV_addA)) ?_
   refine Ch.s (.d (.int .i64 (((k : Nat) : Int) + 1))) (.pure (.move _ rfl rfl)) ?_
   refine Ch.nil ?_
   refine Exists.intro (k + 1) (And.intro (by omega) (And.intro (by first | omega | (dsimp only; omega)) (Wk.of rfl rfl (And.intro rfl (And.intro rfl (And.intro rfl (And.intro rfl (And.intro (vI (by first | rfl | omega | (simp; done) | (simp; omega))) trivial))))) (And.intro (oR (by first | rfl | (exact push rfl (edK_yes (by omega) (by first | (rw [← lab_is]; exact decide_eq_true (by assumption)) | (rw [← lab_is2]; exact decide_eq_true (by assumption))))) | (exact congrArg (List.map _) (edK_no (by omega) (by first | (rw [← lab_is]; exact decide_eq_false (by assumption)) | (rw [← lab_is2]; exact decide_eq_false (by assumption))))))) (And.intro rfl trivial)))))
 ·
  replace h1 := of_decide_eq_false h1
  refine T_exit ?_
  refine T_seq ?_
  refine T_region hc ?_
  refine Ch.s (.row 5) (.pure (.move _ rfl rfl)) ?_
  refine Ch.step (v := (.row 27000)) rfl (.call 27000 87 _ _ _ en87 rfl (.inl rfl) (.cons (.row rfl) .nil) rfl (sol (solid_row (fun _ => rfl) _) rfl) (sp_impl_tidy (edK Arc.dst x l k) (by first | assumption | omega | (rw [List.length_take]; omega) | (have := bulkF_mem hb _ (getD_mem (d := default) (by omega)); assumption) | (unfold bulkS at *; omega) | (simp_all; done))) (.skip _ _ .nil) rfl) rfl rfl ?_
  refine Ch.s (.row 27000) (.pure (.assign _ rfl rfl)) ?_
  refine Ch.nil ?_
  refine T_ret ?_
  refine And.intro (.inr rfl) ?_
  exact Exists.intro [(.row 27000)] (Exists.intro [] (Exists.intro [27000] (And.intro (.cons (.tmp 4 rfl) .nil) (And.intro (.cons (.any _) (.cons (.any _) .nil)) (And.intro (Exp.of (congrArg (D.slice true 1) (by rw [show k = x.arcs.length by omega, ed_dst hen l])) (.row rfl)) (And.intro rfl rfl))))))

theorem sp_impl_nextArcs (x : Sgr) (hb : x.bulk ≤ 1048576) (hx : SgOk x) : Sp Try.prog 85 [(.agg [(.slice false 2 (x.sigs.map Sgn.d)), (.slice false 1 (x.codes.map D.str)), (.slice false 4 (x.arcs.map Arc.d))])] [.any] (.slice true 1 ((nxTo x x.arcs.length).map intsU)) := by
 refine Sp_intro (lend := true) Try.func85 rfl rfl rfl (fun _ => rfl) (fun c hc hX => ?_)
 obtain ⟨hp0, hp1, hp2⟩ := Sgr.parts hb
 have hn0 := bulkF_len hp0
 have hn1 := bulk_len hp1
 have hx1 := bulk_mem hp1
 have hn2 := bulkF_len hp2; have hxl := hx.len; have hxf := hx.few; have hen := hx.ends
 refine T_seq ?_
 refine T_region hc ?_
 refine Ch.s (.ptr 1000 0) (.box 1000 _ _ rfl (.aggD _)) ?_
 refine Ch.s (.c (.slice none 0 0)) (.pure (.assign _ rfl rfl)) ?_
 refine Ch.nil ?_
 refine T_seq ?_
 refine T_region hc ?_
 refine Ch.s (.ptr 1000 1) (.pure (.fldPtr _ _ _ rfl fld34_1 rfl)) ?_
 refine Ch.s (.d (.slice false 1 (x.codes.map D.str))) (.pure (.loadPtr1 _ _ rfl ag23 rfl rfl rfl)) ?_
 refine Ch.s (.d (.int .i64 ((x.codes.length : Nat) : Int))) (.pure (.len _ _ 9 rfl Try.underlying23 (.sh _ _) (by simp))) ?_
 refine Ch.s (.row 9000) (.make 9000 _ 43 _ _ (x.codes.length) (x.codes.length) rfl sty28 rfl rfl rfl rfl (by first | omega | (simp only [List.length_map, List.length_append, List.length_take, List.length_drop, List.length_cons, List.length_nil]; omega) | (simp; omega) | (simp; done)) (by first | omega | (simp only [List.length_map, List.length_append, List.length_take, List.length_drop, List.length_cons, List.length_nil]; omega) | (simp; omega) | (simp; done)) (by first | omega | (simp only [List.length_map, List.length_append, List.length_take, List.length_drop, List.length_cons, List.length_nil]; omega) | (simp; omega) | (simp; done)) (zeroD_mk (zd := (.slice true 1 [])) zr43 (by intro S w; exact nil_reads true 1) rfl)) ?_
 refine Ch.s (.row 9000) (.pure (.assign _ rfl rfl)) ?_
 refine Ch.nil ?_
 refine T_seq ?_
 refine T_seq ?_
 refine T_region hc ?_
 refine Ch.s (.ptr 1000 2) (.pure (.fldPtr _ _ _ rfl fld34_2 rfl)) ?_
 refine Ch.s (.d (.slice false 4 (x.arcs.map Arc.d))) (.pure (.loadPtr1 _ _ rfl ag32 rfl rfl rfl)) ?_
 refine Ch.s (.d (.int .i64 ((x.arcs.length : Nat) : Int))) (.pure (.len _ _ 85 rfl Try.underlying32 (.sh _ _) (by simp))) ?_
 refine Ch.s (.d (.int .i64 0)) (.pure (.move _ rfl rfl)) ?_
 refine Ch.nil ?_
 refine T_block ?_
 refine T_loop (ι := Nat) (fun k => { n := 32, sl := [(3, (.row 3)), (11, (.d (.slice false 4 (x.arcs.map Arc.d)))), (12, (.d (.int .i64 ((x.arcs.length : Nat) : Int)))), (13, (.d (.int .i64 ((k : Nat) : Int))))], hp := [(3, (some (.row 1 ((nxTo x k).map intsU))))], pin := [] }) (fun k => k ≤ x.arcs.length) (fun k => x.arcs.length - k) ⟨0, (by omega), (Wk.ren [(3, 9000)] rfl rfl rfl rfl (And.intro rfl (And.intro rfl (And.intro rfl (And.intro (vI (by first | rfl | omega | (simp; done) | (simp; omega))) trivial)))) (And.intro (oR (by first | (rw [nxTo, List.map_replicate]; rfl) | (rw [nxTo]; exact set_holeI))) trivial))⟩ (fun k hp0 => ?_)
 have hnl := nxTo_len x k; have hnx := nx_le x k hp0 (x.arcs.getD k default).src.toNat
 refine T_seq ?_
 refine T_region hc ?_
 refine Ch.s (.d (.bool (decide (((k : Nat) : Int) < ((x.arcs.length : Nat) : Int))))) (.pure (.int _ _ _ _ _ rfl rfl rfl rfl)) ?_
 refine Ch.nil ?_
 refine T_seq ?_
 refine T_cond (b := (decide (((k : Nat) : Int) < ((x.arcs.length : Nat) : Int)))) rfl (fun h1 => ?_) (fun h1 => ?_)
 ·
  replace h1 := of_decide_eq_true h1
  try have hek := hen _ (getD_mem (l := x.arcs) (j := k) (d := default) (by omega))
  refine T_skip ?_
  refine T_seq ?_
  refine T_block ?_
  refine T_seq ?_
  refine T_region hc ?_
  refine Ch.s (.d (.int .i64 ((k : Nat) : Int))) (.pure (.move _ rfl rfl)) ?_
  refine Ch.s (.d (.ref (.agg [(.int .i64 ((x.arcs.getD k default).src)), (.int .i64 ((x.arcs.getD k default).sig)), (.bool ((x.arcs.getD k default).up)), (.int .i64 ((x.arcs.getD k default).dst))]))) (.pure (.idx _ _ _ 85 (k) rfl Try.underlying32 sz85 rfl rfl rfl get_mapA)) ?_
  refine Ch.s (.d (.agg [(.int .i64 ((x.arcs.getD k default).src)), (.int .i64 ((x.arcs.getD k default).sig)), (.bool ((x.arcs.getD k default).up)), (.int .i64 ((x.arcs.getD k default).dst))])) (.pure (.loadRefA _ _ rfl ag85 sz85 rfl)) ?_
  refine Ch.s (.ptr 5000 0) (.alloc 5000 _ rfl zer85) ?_
  refine Ch.s (.d (.int .i64 ((k : Nat) : Int))) (.pure (.assign _ rfl rfl)) ?_
  refine Ch.s .junk (.storePtr _ _ _ rfl rfl rfl (.aggD _) sz85 (Nat.le_of_ble_eq_true rfl)) ?_
  refine Ch.nil ?_
  refine T_take 3 ((((x.arcs.getD k default).src)).toNat) 7000002 7000003 rfl get_mapA rfl rfl (fun u1 => ?_)
  refine T_regionD hc (by kernel_rfl) ?_
  refine ChD.s (.row 3) [] (.pure (.move _ rfl rfl)) ?_
  refine ChD.s (.ptr 5000 0) [] (.pure (.fldPtr _ _ _ rfl fld85_0 rfl)) ?_
  refine ChD.s (.d (.int .i64 ((x.arcs.getD k default).src))) [5000] (.pure (.loadPtr1 _ _ rfl ag3 rfl rfl rfl)) ?_
  refine ChD.s (.row 3) [] (.pure (.move _ rfl rfl)) ?_
  refine ChD.s (.ptr 5000 0) [] (.pure (.fldPtr _ _ _ rfl fld85_0 rfl)) ?_
  refine ChD.s (.d (.int .i64 ((x.arcs.getD k default).src))) [5000] (.pure (.loadPtr1 _ _ rfl ag3 rfl rfl rfl)) ?_
  refine ChD.s (.el 3 1 ((((x.arcs.getD k default).src)).toNat) 0) [3, 7000002, 7000003] (.pure (.idxRow _ _ _ 43 ((((x.arcs.getD k default).src)).toNat) rfl Try.underlying28 sz43 rfl rfl rfl (by omega) (by first | omega | (simp only [List.length_map, List.length_set]; omega) | (simp; omega)))) ?_
  refine ChD.s (.row 7000002) [3, 7000002, 7000003] (.pure (.loadHole (n := 7000002) (m := 7000003) (u := u1) _ _ rfl ag43 rfl rfl (get_set (by first | omega | (simp only [List.length_map, List.length_set]; omega) | (simp; omega))) rfl rfl)) ?_
  refine ChD.s (.d (.int .i64 ((k : Nat) : Int))) [] (.pure (.move _ rfl rfl)) ?_
  refine ChD.s (.row 27000) [] (.slice 27000 _ 3 _ rfl sty43 (xs := [.tmp 26]) rfl rfl (.cons (.d _) .nil) rfl rfl (by decide)) ?_
  refine ChD.s (.row 28000) [27000, 7000002] (.append 28000 _ _ _ 3 rfl sty43 (by decide) (.rowK rfl) (.inr ⟨_, rfl, rfl⟩) (.row rfl rfl) rfl (by first | omega | (simp only [List.length_append, List.length_map, List.length_cons, List.length_nil]; omega) | (simp; omega) | (simp; done))) ?_
  refine ChD.s (.el 3 1 ((((x.arcs.getD k default).src)).toNat) 0) [3, 7000002, 7000003] (.pure (.idxRow _ _ _ 43 ((((x.arcs.getD k default).src)).toNat) rfl Try.underlying28 sz43 rfl rfl rfl (by omega) (by first | omega | (simp only [List.length_map, List.length_set]; omega) | (simp; omega)))) ?_
  refine ChD.s .junk [3, 28000, 7000002, 7000003] (.storeElK (y' := (.slice true 1 ((((nxTo x k).getD ((((x.arcs.getD k default).src)).toNat) default).map (fun n : Int => D.int .i64 n)) ++ [(.int .i64 ((k : Nat) : Int))]))) _ _ _ rfl rfl rfl (.row rfl) rfl rfl rfl sz43 rfl (get_set (by first | omega | (simp only [List.length_map, List.length_set]; omega) | (simp; omega))) rfl rfl) ?_
  refine ChD.nil (And.intro ?_ (by kernel_rfl))
  refine T_region hc ?_
  refine Ch.s (.d (.int .i64 (((k : Nat) : Int) + 1))) (.pure (.int _ _ _ _ _ rfl rfl rfl intV_addA)) ?_
  refine Ch.s (.d (.int .i64 (((k : Nat) : Int) + 1))) (.pure (.move _ rfl rfl)) ?_
  refine Ch.nil ?_
  refine Exists.intro (k + 1) (And.intro (by omega) (And.intro (by first | omega | (dsimp only; omega)) (Wk.of rfl rfl (And.intro rfl (And.intro rfl (And.intro rfl (And.intro (vI (by first | rfl | omega | (simp; done) | (simp; omega))) trivial)))) (And.intro (oR (by first | (rw [nxTo, List.map_replicate]; rfl) | (rw [nxTo]; exact set_holeI))) trivial))))
 ·
  replace h1 := of_decide_eq_false h1
  try have hek := hen _ (getD_mem (l := x.arcs) (j := k) (d := default) (by omega))
  refine T_exit ?_
  refine T_seq ?_
  refine T_region hc ?_
  refine Ch.s (.row 3) (.pure (.move _ rfl rfl)) ?_
  refine Ch.s (.row 3) (.pure (.assign _ rfl rfl)) ?_
  refine Ch.nil ?_
  refine T_ret ?_
  refine And.intro (.inr rfl) ?_
  exact Exists.intro [(.row 3)] (Exists.intro [] (Exists.intro [3] (And.intro (.cons (.tmp 2 rfl) .nil) (And.intro (.cons (.any _) .nil) (And.intro (Exp.of (congrArg (D.slice true 1) (by rw [show x.arcs.length = k by omega])) (.row rfl)) (And.intro rfl rfl))))))

set_option maxHeartbeats 2000000 in
theorem sp_impl_setBlock (x : Sgr) (s r : Lab) (hb : x.bulk ≤ 1048576) (hx : SgOk x) : Sp Try.prog 48 [(.agg [(.slice false 2 (x.sigs.map Sgn.d)), (.slice false 1 (x.codes.map D.str)), (.slice false 4 (x.arcs.map Arc.d))]), (.agg [(.int .i64 s.sig), (.bool (s.up))]), (.agg [(.int .i64 r.sig), (.bool (r.up))])] [.any, .any, .any] (.slice true 1 ((blkL x s r).map (fun n : Int => D.int .i64 n))) := by
 refine Sp_intro (lend := true) Try.func48 rfl rfl rfl (fun _ => rfl) (fun c hc hX => ?_)
 obtain ⟨hp0, hp1, hp2⟩ := Sgr.parts hb
 have hn0 := bulkF_len hp0
 have hn1 := bulk_len hp1
 have hx1 := bulk_mem hp1
 have hn2 := bulkF_len hp2; have hxl := hx.len; have hxf := hx.few; have hen := hx.ends; have hsl : (swS x s.sig s.up).length ≤ x.codes.length := swTo_le x s.sig s.up x.arcs.length; have hnl := nxTo_len x x.arcs.length
 refine T_seq ?_
 refine T_region hc ?_
 refine Ch.s (.ptr 3000 0) (.box 3000 _ _ rfl (.aggD _)) ?_
 refine Ch.s (.ptr 4000 0) (.box 4000 _ _ rfl (.aggD _)) ?_
 refine Ch.s (.ptr 5000 0) (.box 5000 _ _ rfl (.aggD _)) ?_
 refine Ch.s (.c (.slice none 0 0)) (.pure (.assign _ rfl rfl)) ?_
 refine Ch.nil ?_
 refine T_seq ?_
 refine T_regionD hc (by kernel_rfl) ?_
 refine ChD.s (.agg [(.d (.slice false 2 (x.sigs.map Sgn.d))), (.d (.slice false 1 (x.codes.map D.str))), (.d (.slice false 4 (x.arcs.map Arc.d)))]) [3000] (.pure (.loadPtrA _ _ rfl ag34 sz34 rfl rfl (Nat.le_of_ble_eq_true rfl) rfl)) ?_
 refine ChD.s (.agg [(.d (.int .i64 s.sig)), (.d (.bool (s.up)))]) [4000] (.pure (.loadPtrA _ _ rfl ag46 sz46 rfl rfl (Nat.le_of_ble_eq_true rfl) rfl)) ?_
 refine ChD.s (.row 18000) [] (.call 18000 84 _ _ _ en84 rfl (.inl rfl) (.cons (.lend (.agg (.cons (.d _) (.cons (.d _) (.cons (.d _) .nil))) rfl)) (.cons (.lend (.agg (.cons (.d _) (.cons (.d _) .nil)) rfl)) .nil)) rfl (sol (solid_row (fun _ => rfl) _) rfl) (sp_impl_switched x s (by first | assumption | omega | (rw [List.length_take]; omega) | (have := bulkF_mem hb _ (getD_mem (d := default) (by omega)); assumption) | (unfold bulkS at *; omega) | (simp_all; done)) (by assumption)) (.skip _ _ (.skip _ _ .nil)) rfl) ?_
 refine ChD.s (.ptr 3000 1) [] (.pure (.fldPtr _ _ _ rfl fld34_1 rfl)) ?_
 refine ChD.s (.d (.slice false 1 (x.codes.map D.str))) [3000] (.pure (.loadPtr1 _ _ rfl ag23 rfl rfl rfl)) ?_
 refine ChD.s (.d (.int .i64 ((x.codes.length : Nat) : Int))) [] (.pure (.len _ _ 9 rfl Try.underlying23 (.sh _ _) (by simp))) ?_
 refine ChD.s (.row 22000) [] (.make 22000 _ 4 _ _ (x.codes.length) (x.codes.length) rfl sty99 rfl rfl rfl rfl (by first | omega | (simp only [List.length_map, List.length_append, List.length_take, List.length_drop, List.length_cons, List.length_nil]; omega) | (simp; omega) | (simp; done)) (by first | omega | (simp only [List.length_map, List.length_append, List.length_take, List.length_drop, List.length_cons, List.length_nil]; omega) | (simp; omega) | (simp; done)) (by first | omega | (simp only [List.length_map, List.length_append, List.length_take, List.length_drop, List.length_cons, List.length_nil]; omega) | (simp; omega) | (simp; done)) (zeroD_mk (zd := (.bool false)) zr4 (by intro S w; rw [DR]; exact ⟨rfl, rfl⟩) rfl)) ?_
 refine ChD.s (.agg [(.d (.slice false 2 (x.sigs.map Sgn.d))), (.d (.slice false 1 (x.codes.map D.str))), (.d (.slice false 4 (x.arcs.map Arc.d)))]) [3000] (.pure (.loadPtrA _ _ rfl ag34 sz34 rfl rfl (Nat.le_of_ble_eq_true rfl) rfl)) ?_
 refine ChD.s (.row 24000) [] (.call 24000 85 _ _ _ en85 rfl (.inl rfl) (.cons (.lend (.agg (.cons (.d _) (.cons (.d _) (.cons (.d _) .nil))) rfl)) .nil) rfl (sol (solid_row intsU_sol _) rfl) (sp_impl_nextArcs x (by first | assumption | omega | (rw [List.length_take]; omega) | (have := bulkF_mem hb _ (getD_mem (d := default) (by omega)); assumption) | (unfold bulkS at *; omega) | (simp_all; done)) (by assumption)) (.skip _ _ .nil) rfl) ?_
 refine ChD.s (.row 18000) [] (.pure (.assign _ rfl rfl)) ?_
 refine ChD.s (.row 22000) [] (.pure (.assign _ rfl rfl)) ?_
 refine ChD.s (.row 24000) [] (.pure (.assign _ rfl rfl)) ?_
 refine ChD.nil (And.intro ?_ (by kernel_rfl))
 refine T_seq ?_
 refine T_seq ?_
 refine T_region hc ?_
 refine Ch.s (.row 18000) (.pure (.move _ rfl rfl)) ?_
 refine Ch.s (.d (.int .i64 (((swS x s.sig s.up).length : Nat) : Int))) (.pure (.len _ _ 3 rfl Try.underlying43 (.row rfl) (by simp))) ?_
 refine Ch.s (.d (.int .i64 0)) (.pure (.move _ rfl rfl)) ?_
 refine Ch.nil ?_
 refine T_block ?_
 refine T_loop (ι := Nat) (fun k => { n := 82, sl := [(3, (.ptr 3000 0)), (5, (.ptr 5000 0)), (7, (.row 18000)), (8, (.row 8)), (9, (.row 24000)), (25, (.row 18000)), (26, (.d (.int .i64 (((swS x s.sig s.up).length : Nat) : Int)))), (27, (.d (.int .i64 ((k : Nat) : Int))))], hp := [(8, (some (.row 1 ((seenTo x.codes.length (swS x s.sig s.up) k).map D.bool)))), (3000, (some (.box [(.d (.slice false 2 (x.sigs.map Sgn.d))), (.d (.slice false 1 (x.codes.map D.str))), (.d (.slice false 4 (x.arcs.map Arc.d)))]))), (5000, (some (.box [(.d (.int .i64 r.sig)), (.d (.bool (r.up)))]))), (18000, (some (.row 1 ((swS x s.sig s.up).map (fun n : Int => D.int .i64 n))))), (24000, (some (.row 1 ((nxTo x x.arcs.length).map intsU))))], pin := [] }) (fun k => k ≤ (swS x s.sig s.up).length) (fun k => (swS x s.sig s.up).length - k) ⟨0, (by omega), (Wk.ren [(8, 22000)] rfl rfl rfl rfl (And.intro rfl (And.intro rfl (And.intro rfl (And.intro rfl (And.intro rfl (And.intro rfl (And.intro rfl (And.intro (vI (by first | rfl | omega | (simp; done) | (simp; omega))) trivial)))))))) (And.intro (oR (by first | (rw [List.map_replicate.symm]; rfl) | (rw [← seenTo_succ (by omega), List.map_set]; done))) (And.intro rfl (And.intro rfl (And.intro rfl (And.intro rfl trivial))))))⟩ (fun k hp0 => ?_)
 have hsn := seenTo_len x.codes.length (swS x s.sig s.up) k
 refine T_seq ?_
 refine T_region hc ?_
 refine Ch.s (.d (.bool (decide (((k : Nat) : Int) < (((swS x s.sig s.up).length : Nat) : Int))))) (.pure (.int _ _ _ _ _ rfl rfl rfl rfl)) ?_
 refine Ch.nil ?_
 refine T_seq ?_
 refine T_cond (b := (decide (((k : Nat) : Int) < (((swS x s.sig s.up).length : Nat) : Int)))) rfl (fun h1 => ?_) (fun h1 => ?_)
 ·
  replace h1 := of_decide_eq_true h1
  try have hsk := swTo_in x s.sig s.up x.arcs.length _ (getD_mem (l := swS x s.sig s.up) (j := k) (d := default) (by omega))
  refine T_skip ?_
  refine T_seq ?_
  refine T_block ?_
  refine T_seq ?_
  refine T_region hc ?_
  refine Ch.s (.el 18000 1 k 0) (.pure (.idxRow _ _ _ 3 (k) rfl Try.underlying43 sz3 rfl rfl rfl rfl (by first | omega | (simp only [List.length_map, List.length_set]; omega) | (simp; omega)))) ?_
  refine Ch.s (.d (.int .i64 ((swS x s.sig s.up).getD k default))) (.pure (.loadEl1 _ _ rfl ag3 rfl rfl get_mapA rfl rfl rfl)) ?_
  refine Ch.s (.d (.int .i64 ((swS x s.sig s.up).getD k default))) (.pure (.assign _ rfl rfl)) ?_
  refine Ch.nil ?_
  refine T_region hc ?_
  refine Ch.s (.row 8) (.pure (.move _ rfl rfl)) ?_
  refine Ch.s (.d (.int .i64 ((swS x s.sig s.up).getD k default))) (.pure (.move _ rfl rfl)) ?_
  refine Ch.s (.el 8 1 ((((swS x s.sig s.up).getD k default)).toNat) 0) (.pure (.idxRow _ _ _ 4 ((((swS x s.sig s.up).getD k default)).toNat) rfl Try.underlying99 sz4 rfl rfl rfl (by omega) (by first | omega | (simp only [List.length_map, List.length_set]; omega) | (simp; omega)))) ?_
  refine Ch.s .junk (.storeEl (y' := (.bool true)) _ _ _ rfl rfl rfl (.d _) rfl sz4 rfl get_mapA rfl rfl) ?_
  refine Ch.nil ?_
  refine T_region hc ?_
  refine Ch.s (.d (.int .i64 (((k : Nat) : Int) + 1))) (.pure (.int _ _ _ _ _ rfl rfl rfl intV_addA)) ?_
  refine Ch.s (.d (.int .i64 (((k : Nat) : Int) + 1))) (.pure (.move _ rfl rfl)) ?_
  refine Ch.nil ?_
  refine Exists.intro (k + 1) (And.intro (by omega) (And.intro (by first | omega | (dsimp only; omega)) (Wk.of rfl rfl (And.intro rfl (And.intro rfl (And.intro rfl (And.intro rfl (And.intro rfl (And.intro rfl (And.intro rfl (And.intro (vI (by first | rfl | omega | (simp; done) | (simp; omega))) trivial)))))))) (And.intro (oR (by first | (rw [List.map_replicate.symm]; rfl) | (rw [← seenTo_succ (by omega), List.map_set]; done))) (And.intro rfl (And.intro rfl (And.intro rfl (And.intro rfl trivial))))))))
 ·
  replace h1 := of_decide_eq_false h1
  try have hsk := swTo_in x s.sig s.up x.arcs.length _ (getD_mem (l := swS x s.sig s.up) (j := k) (d := default) (by omega))
  refine T_exit ?_
  refine T_seq ?_
  refine T_seq ?_
  refine T_region hc ?_
  refine Ch.s (.d (.int .i64 0)) (.pure (.assign _ rfl rfl)) ?_
  refine Ch.nil ?_
  refine T_block ?_
  refine T_loop (ι := (List Int × List Bool) × Nat) (fun q => { n := 82, sl := [(3, (.ptr 3000 0)), (5, (.ptr 5000 0)), (7, (.row 7)), (8, (.row 8)), (9, (.row 9)), (12, (.d (.int .i64 ((q.2 : Nat) : Int))))], hp := [(7, (some (.row 1 (q.1.1.map (fun n : Int => D.int .i64 n))))), (8, (some (.row 1 (q.1.2.map D.bool)))), (9, (some (.row 1 ((nxTo x x.arcs.length).map intsU)))), (3000, (some (.box [(.d (.slice false 2 (x.sigs.map Sgn.d))), (.d (.slice false 1 (x.codes.map D.str))), (.d (.slice false 4 (x.arcs.map Arc.d)))]))), (5000, (some (.box [(.d (.int .i64 r.sig)), (.d (.bool (r.up)))])))], pin := [] }) (fun q => WkInv x (blP r) (swS x s.sig s.up) q) (fun q => x.codes.length - q.2) ⟨(((swS x s.sig s.up), seenTo x.codes.length (swS x s.sig s.up) k), 0), (WkInv.zero (swTo_rising x _ _ _) (swTo_in x _ _ _) (by show (swS x s.sig s.up).length ≤ k; omega)), (Wk.ren [(7, 18000), (9, 24000)] rfl rfl rfl rfl (And.intro rfl (And.intro rfl (And.intro rfl (And.intro rfl (And.intro rfl (And.intro (vI (by first | rfl | omega | (simp; done) | (simp; omega))) trivial)))))) (And.intro (oR (by first | rfl | (rw [show m = ((nxTo x x.arcs.length).getD (q.1.1.getD q.2 default).toNat default).length by omega]))) (And.intro (oR (by first | rfl | (rw [show m = ((nxTo x x.arcs.length).getD (q.1.1.getD q.2 default).toNat default).length by omega]))) (And.intro rfl (And.intro rfl (And.intro rfl trivial))))))⟩ (fun q hp1 => ?_)
  have hol := hp1.inv.wl.len; have hsl2 := hp1.inv.len
  refine T_seq ?_
  refine T_seq ?_
  refine T_region hc ?_
  refine Ch.s (.d (.int .i64 ((q.2 : Nat) : Int))) (.pure (.move _ rfl rfl)) ?_
  refine Ch.s (.row 7) (.pure (.move _ rfl rfl)) ?_
  refine Ch.s (.d (.int .i64 ((q.1.1.length : Nat) : Int))) (.pure (.len _ _ 3 rfl Try.underlying43 (.row rfl) (by simp))) ?_
  refine Ch.s (.d (.bool (decide (((q.2 : Nat) : Int) < ((q.1.1.length : Nat) : Int))))) (.pure (.int _ _ _ _ _ rfl rfl rfl rfl)) ?_
  refine Ch.nil ?_
  refine T_cond (b := (decide (((q.2 : Nat) : Int) < ((q.1.1.length : Nat) : Int)))) rfl (fun h2 => ?_) (fun h2 => ?_)
  ·
   replace h2 := of_decide_eq_true h2
   try have hqi := hp1.inv.wl.inn _ (getD_mem (l := q.1.1) (j := q.2) (d := default) (by omega))
   refine T_skip ?_
   refine T_seq ?_
   refine T_block ?_
   refine T_seq ?_
   refine T_take 9 (((q.1.1.getD q.2 default)).toNat) 7000002 7000003 rfl get_mapA rfl rfl (fun u1 => ?_)
   refine T_region hc ?_
   refine Ch.s (.row 9) (.pure (.move _ rfl rfl)) ?_
   refine Ch.s (.row 7) (.pure (.move _ rfl rfl)) ?_
   refine Ch.s (.d (.int .i64 ((q.2 : Nat) : Int))) (.pure (.move _ rfl rfl)) ?_
   refine Ch.s (.el 7 1 q.2 0) (.pure (.idxRow _ _ _ 3 (q.2) rfl Try.underlying43 sz3 rfl rfl rfl rfl (by first | omega | (simp only [List.length_map, List.length_set]; omega) | (simp; omega)))) ?_
   refine Ch.s (.d (.int .i64 (q.1.1.getD q.2 default))) (.pure (.loadEl1 _ _ rfl ag3 rfl rfl get_mapA rfl rfl rfl)) ?_
   refine Ch.s (.el 9 1 (((q.1.1.getD q.2 default)).toNat) 0) (.pure (.idxRow _ _ _ 43 (((q.1.1.getD q.2 default)).toNat) rfl Try.underlying28 sz43 rfl rfl rfl (by omega) (by first | omega | (simp only [List.length_map, List.length_set]; omega) | (simp; omega)))) ?_
   refine Ch.s (.row 7000002) (.pure (.loadHole (n := 7000002) (m := 7000003) (u := u1) _ _ rfl ag43 rfl rfl (get_set (by first | omega | (simp only [List.length_map, List.length_set]; omega) | (simp; omega))) rfl rfl)) ?_
   refine Ch.s (.d (.int .i64 ((((nxTo x x.arcs.length).getD (((q.1.1.getD q.2 default)).toNat) default).length : Nat) : Int))) (.pure (.len _ _ 3 rfl Try.underlying43 (.row rfl) (by simp))) ?_
   refine Ch.s (.d (.int .i64 0)) (.pure (.move _ rfl rfl)) ?_
   refine Ch.nil ?_
   refine T_block ?_
   refine T_loop (ι := Nat) (fun m => { n := 82, sl := [(3, (.ptr 3000 0)), (5, (.ptr 5000 0)), (7, (.row 7)), (8, (.row 8)), (9, (.row 9)), (12, (.d (.int .i64 ((q.2 : Nat) : Int)))), (47, (.row 7000002)), (48, (.d (.int .i64 ((((nxTo x x.arcs.length).getD (((q.1.1.getD q.2 default)).toNat) default).length : Nat) : Int)))), (49, (.d (.int .i64 ((m : Nat) : Int))))], hp := [(7, (some (.row 1 (((walkTo x (blP r) q.1.1 q.1.2 ((nxTo x x.arcs.length).getD (q.1.1.getD q.2 default).toNat default) m).1).map (fun n : Int => D.int .i64 n))))), (8, (some (.row 1 (((walkTo x (blP r) q.1.1 q.1.2 ((nxTo x x.arcs.length).getD (q.1.1.getD q.2 default).toNat default) m).2).map D.bool)))), (9, (some (.row 1 ((((nxTo x x.arcs.length).map intsU)).set (((q.1.1.getD q.2 default)).toNat) (.hole u1))))), (3000, (some (.box [(.d (.slice false 2 (x.sigs.map Sgn.d))), (.d (.slice false 1 (x.codes.map D.str))), (.d (.slice false 4 (x.arcs.map Arc.d)))]))), (5000, (some (.box [(.d (.int .i64 r.sig)), (.d (.bool (r.up)))]))), (7000002, (some (.row 1 (((nxTo x x.arcs.length).getD (((q.1.1.getD q.2 default)).toNat) default).map (fun n : Int => D.int .i64 n))))), (7000003, (some (.head 7000002 u1)))], pin := [] }) (fun m => m ≤ ((nxTo x x.arcs.length).getD (q.1.1.getD q.2 default).toNat default).length) (fun m => ((nxTo x x.arcs.length).getD (q.1.1.getD q.2 default).toNat default).length - m) ⟨0, (by omega), (Wk.of rfl rfl (And.intro rfl (And.intro rfl (And.intro rfl (And.intro rfl (And.intro rfl (And.intro rfl (And.intro rfl (And.intro rfl (And.intro (vI (by first | rfl | omega | (simp; done) | (simp; omega))) trivial))))))))) (And.intro (oR (by first | rfl | (rw [walkTo_succ (by omega), walk_yes (by assumption) (by assumption)]; dsimp only; rw [List.map_append]; rfl) | (rw [walkTo_succ (by omega), walk_lab (by assumption)]) | (rw [walkTo_succ (by omega), walk_seen (by assumption)]))) (And.intro (oR (by first | rfl | (rw [walkTo_succ (by omega), walk_yes (by assumption) (by assumption)]; dsimp only; rw [List.map_set]; done) | (rw [walkTo_succ (by omega), walk_lab (by assumption)]) | (rw [walkTo_succ (by omega), walk_seen (by assumption)]))) (And.intro rfl (And.intro rfl (And.intro rfl (And.intro rfl (And.intro rfl trivial))))))))⟩ (fun m hp2 => ?_)
   have hnx := nx_le x x.arcs.length (Nat.le_refl _) (q.1.1.getD q.2 default).toNat; obtain ⟨hw1, hw2, hw3⟩ := Wk2.steps (o := q.1.1) (s := q.1.2) hp1.inv hen (nx_all hen (by omega) hp1.inv.wl.inn) m hp2; have hwl := hw1.wl.len; have hws := hw1.len; have hnt := nx_all hen (k := q.2) (by omega) hp1.inv.wl.inn
   refine T_seq ?_
   refine T_region hc ?_
   refine Ch.s (.d (.bool (decide (((m : Nat) : Int) < ((((nxTo x x.arcs.length).getD (((q.1.1.getD q.2 default)).toNat) default).length : Nat) : Int))))) (.pure (.int _ _ _ _ _ rfl rfl rfl rfl)) ?_
   refine Ch.nil ?_
   refine T_seq ?_
   refine T_cond (b := (decide (((m : Nat) : Int) < ((((nxTo x x.arcs.length).getD (((q.1.1.getD q.2 default)).toNat) default).length : Nat) : Int)))) rfl (fun h3 => ?_) (fun h3 => ?_)
   ·
    replace h3 := of_decide_eq_true h3
    try have htm := hnt _ (getD_mem (l := ((nxTo x x.arcs.length).getD (q.1.1.getD q.2 default).toNat default)) (j := m) (d := default) (by omega))
    try have htk := htm.1
    try have het := hen _ (getD_mem (l := x.arcs) (j := (((nxTo x x.arcs.length).getD (q.1.1.getD q.2 default).toNat default).getD m default).toNat) (d := default) htk.2)
    refine T_skip ?_
    refine T_seq ?_
    refine T_block ?_
    refine T_seq ?_
    refine T_region hc ?_
    refine Ch.s (.el 7000002 1 m 0) (.pure (.idxRow _ _ _ 3 (m) rfl Try.underlying43 sz3 rfl rfl rfl rfl (by first | omega | (simp only [List.length_map, List.length_set]; omega) | (simp; omega)))) ?_
    refine Ch.s (.d (.int .i64 (((nxTo x x.arcs.length).getD (((q.1.1.getD q.2 default)).toNat) default).getD m default))) (.pure (.loadEl1 _ _ rfl ag3 rfl rfl get_mapA rfl rfl rfl)) ?_
    refine Ch.s (.d (.int .i64 (((nxTo x x.arcs.length).getD (((q.1.1.getD q.2 default)).toNat) default).getD m default))) (.pure (.assign _ rfl rfl)) ?_
    refine Ch.nil ?_
    refine T_seq ?_
    refine T_region hc ?_
    refine Ch.s (.ptr 3000 2) (.pure (.fldPtr _ _ _ rfl fld34_2 rfl)) ?_
    refine Ch.s (.d (.slice false 4 (x.arcs.map Arc.d))) (.pure (.loadPtr1 _ _ rfl ag32 rfl rfl rfl)) ?_
    refine Ch.s (.d (.int .i64 (((nxTo x x.arcs.length).getD (((q.1.1.getD q.2 default)).toNat) default).getD m default))) (.pure (.move _ rfl rfl)) ?_
    refine Ch.s (.d (.ref (.agg [(.int .i64 ((x.arcs.getD (((((nxTo x x.arcs.length).getD (((q.1.1.getD q.2 default)).toNat) default).getD m default)).toNat) default).src)), (.int .i64 ((x.arcs.getD (((((nxTo x x.arcs.length).getD (((q.1.1.getD q.2 default)).toNat) default).getD m default)).toNat) default).sig)), (.bool ((x.arcs.getD (((((nxTo x x.arcs.length).getD (((q.1.1.getD q.2 default)).toNat) default).getD m default)).toNat) default).up)), (.int .i64 ((x.arcs.getD (((((nxTo x x.arcs.length).getD (((q.1.1.getD q.2 default)).toNat) default).getD m default)).toNat) default).dst))]))) (.pure (.idx _ _ _ 85 (((((nxTo x x.arcs.length).getD (((q.1.1.getD q.2 default)).toNat) default).getD m default)).toNat) rfl Try.underlying32 sz85 rfl rfl (by omega) get_mapA)) ?_
    refine Ch.s (.d (.agg [(.int .i64 ((x.arcs.getD (((((nxTo x x.arcs.length).getD (((q.1.1.getD q.2 default)).toNat) default).getD m default)).toNat) default).src)), (.int .i64 ((x.arcs.getD (((((nxTo x x.arcs.length).getD (((q.1.1.getD q.2 default)).toNat) default).getD m default)).toNat) default).sig)), (.bool ((x.arcs.getD (((((nxTo x x.arcs.length).getD (((q.1.1.getD q.2 default)).toNat) default).getD m default)).toNat) default).up)), (.int .i64 ((x.arcs.getD (((((nxTo x x.arcs.length).getD (((q.1.1.getD q.2 default)).toNat) default).getD m default)).toNat) default).dst))])) (.pure (.loadRefA _ _ rfl ag85 sz85 rfl)) ?_
    refine Ch.s (.ptr 15000 0) (.alloc 15000 _ rfl zer85) ?_
    refine Ch.s .junk (.storePtr _ _ _ rfl rfl rfl (.aggD _) sz85 (Nat.le_of_ble_eq_true rfl)) ?_
    refine Ch.nil ?_
    refine T_seq ?_
    refine T_regionD hc (by kernel_rfl) ?_
    refine ChD.s (.agg [(.d (.int .i64 ((x.arcs.getD (((((nxTo x x.arcs.length).getD (((q.1.1.getD q.2 default)).toNat) default).getD m default)).toNat) default).src))), (.d (.int .i64 ((x.arcs.getD (((((nxTo x x.arcs.length).getD (((q.1.1.getD q.2 default)).toNat) default).getD m default)).toNat) default).sig))), (.d (.bool ((x.arcs.getD (((((nxTo x x.arcs.length).getD (((q.1.1.getD q.2 default)).toNat) default).getD m default)).toNat) default).up))), (.d (.int .i64 ((x.arcs.getD (((((nxTo x x.arcs.length).getD (((q.1.1.getD q.2 default)).toNat) default).getD m default)).toNat) default).dst)))]) [15000] (.pure (.loadPtrA _ _ rfl ag85 sz85 rfl rfl (Nat.le_of_ble_eq_true rfl) rfl)) ?_
    refine ChD.s (.d (.agg [(.int .i64 ((Lab.mk (x.arcs.getD (((((nxTo x x.arcs.length).getD (((q.1.1.getD q.2 default)).toNat) default).getD m default)).toNat) default).sig (x.arcs.getD (((((nxTo x x.arcs.length).getD (((q.1.1.getD q.2 default)).toNat) default).getD m default)).toNat) default).up).sig)), (.bool ((Lab.mk (x.arcs.getD (((((nxTo x x.arcs.length).getD (((q.1.1.getD q.2 default)).toNat) default).getD m default)).toNat) default).sig (x.arcs.getD (((((nxTo x x.arcs.length).getD (((q.1.1.getD q.2 default)).toNat) default).getD m default)).toNat) default).up).up))])) [] (.call 59000 86 _ _ _ en86 rfl (.inl rfl) (.cons (.lend (.agg (.cons (.d _) (.cons (.d _) (.cons (.d _) (.cons (.d _) .nil)))) rfl)) .nil) rfl rfl (sp_impl_labelOfArc (x.arcs.getD (((((nxTo x x.arcs.length).getD (((q.1.1.getD q.2 default)).toNat) default).getD m default)).toNat) default)) (.skip _ _ .nil) rfl) ?_
    refine ChD.s (.agg [(.d (.int .i64 r.sig)), (.d (.bool (r.up)))]) [5000] (.pure (.loadPtrA _ _ rfl ag46 sz46 rfl rfl (Nat.le_of_ble_eq_true rfl) rfl)) ?_
    refine ChD.s (.d (.bool (!(decide ((Lab.mk (x.arcs.getD (((((nxTo x x.arcs.length).getD (((q.1.1.getD q.2 default)).toNat) default).getD m default)).toNat) default).sig (x.arcs.getD (((((nxTo x x.arcs.length).getD (((q.1.1.getD q.2 default)).toNat) default).getD m default)).toNat) default).up) = r))))) [] (.pure (.neA _ _ _ _ rfl (eqa46 _ _ _ _) (.d _) (.v [(.int .i64 r.sig), (.bool (r.up))]) (Lab.eqv (Lab.mk (x.arcs.getD (((((nxTo x x.arcs.length).getD (((q.1.1.getD q.2 default)).toNat) default).getD m default)).toNat) default).sig (x.arcs.getD (((((nxTo x x.arcs.length).getD (((q.1.1.getD q.2 default)).toNat) default).getD m default)).toNat) default).up) r))) ?_
    refine ChD.s (.d (.bool (!(decide ((Lab.mk (x.arcs.getD (((((nxTo x x.arcs.length).getD (((q.1.1.getD q.2 default)).toNat) default).getD m default)).toNat) default).sig (x.arcs.getD (((((nxTo x x.arcs.length).getD (((q.1.1.getD q.2 default)).toNat) default).getD m default)).toNat) default).up) = r))))) [] (.pure (.move _ rfl rfl)) ?_
    cases h4 : (decide ((Lab.mk (x.arcs.getD (((((nxTo x x.arcs.length).getD (((q.1.1.getD q.2 default)).toNat) default).getD m default)).toNat) default).sig (x.arcs.getD (((((nxTo x x.arcs.length).getD (((q.1.1.getD q.2 default)).toNat) default).getD m default)).toNat) default).up) = r)) with
    | true =>
     replace h4 := of_decide_eq_true h4
     refine ChD.skip rfl rfl ?_
     refine ChD.skip rfl rfl ?_
     refine ChD.skip rfl rfl ?_
     refine ChD.skip rfl rfl ?_
     refine ChD.skip rfl rfl ?_
     refine ChD.skip rfl rfl ?_
     refine ChD.s (.d (.bool false)) [] (.pure (.pickF _ _ _ rfl rfl rfl)) ?_
     refine ChD.nil (And.intro ?_ (by kernel_rfl))
     refine T_cond (b := false) rfl (fun h => nomatch h) (fun _ => ?_)
     refine T_skip ?_
     refine T_region hc ?_
     refine Ch.s (.d (.int .i64 (((m : Nat) : Int) + 1))) (.pure (.int _ _ _ _ _ rfl rfl rfl intV_addA)) ?_
     refine Ch.s (.d (.int .i64 (((m : Nat) : Int) + 1))) (.pure (.move _ rfl rfl)) ?_
     refine Ch.nil ?_
     refine Exists.intro (m + 1) (And.intro (by omega) (And.intro (by first | omega | (dsimp only; omega)) (Wk.of rfl rfl (And.intro rfl (And.intro rfl (And.intro rfl (And.intro rfl (And.intro rfl (And.intro rfl (And.intro rfl (And.intro rfl (And.intro (vI (by first | rfl | omega | (simp; done) | (simp; omega))) trivial))))))))) (And.intro (oR (by first | rfl | (rw [walkTo_succ (by omega), walk_yes (by assumption) (by assumption)]; dsimp only; rw [List.map_append]; rfl) | (rw [walkTo_succ (by omega), walk_lab (by assumption)]) | (rw [walkTo_succ (by omega), walk_seen (by assumption)]))) (And.intro (oR (by first | rfl | (rw [walkTo_succ (by omega), walk_yes (by assumption) (by assumption)]; dsimp only; rw [List.map_set]; done) | (rw [walkTo_succ (by omega), walk_lab (by assumption)]) | (rw [walkTo_succ (by omega), walk_seen (by assumption)]))) (And.intro rfl (And.intro rfl (And.intro rfl (And.intro rfl (And.intro rfl trivial))))))))))
    | false =>
     replace h4 := of_decide_eq_false h4
     refine ChD.s (.row 8) [] (.pure (.move _ rfl rfl)) ?_
     refine ChD.s (.ptr 15000 3) [] (.pure (.fldPtr _ _ _ rfl fld85_3 rfl)) ?_
     refine ChD.s (.d (.int .i64 ((x.arcs.getD (((((nxTo x x.arcs.length).getD (((q.1.1.getD q.2 default)).toNat) default).getD m default)).toNat) default).dst))) [15000] (.pure (.loadPtr1 _ _ rfl ag3 rfl rfl rfl)) ?_
     refine ChD.s (.el 8 1 ((((x.arcs.getD (((((nxTo x x.arcs.length).getD (((q.1.1.getD q.2 default)).toNat) default).getD m default)).toNat) default).dst)).toNat) 0) [8] (.pure (.idxRow _ _ _ 4 ((((x.arcs.getD (((((nxTo x x.arcs.length).getD (((q.1.1.getD q.2 default)).toNat) default).getD m default)).toNat) default).dst)).toNat) rfl Try.underlying99 sz4 rfl rfl rfl (by omega) (by first | omega | (simp only [List.length_map, List.length_set]; omega) | (simp; omega)))) ?_
     refine ChD.s (.d (.bool ((((walkTo x (blP r) q.1.1 q.1.2 ((nxTo x x.arcs.length).getD (q.1.1.getD q.2 default).toNat default) m).2).getD ((((x.arcs.getD (((((nxTo x x.arcs.length).getD (((q.1.1.getD q.2 default)).toNat) default).getD m default)).toNat) default).dst)).toNat) default)))) [8] (.pure (.loadEl1 _ _ rfl ag4 rfl rfl get_mapA rfl rfl rfl)) ?_
     refine ChD.s (.d (.bool (!((((walkTo x (blP r) q.1.1 q.1.2 ((nxTo x x.arcs.length).getD (q.1.1.getD q.2 default).toNat default) m).2).getD ((((x.arcs.getD (((((nxTo x x.arcs.length).getD (((q.1.1.getD q.2 default)).toNat) default).getD m default)).toNat) default).dst)).toNat) default))))) [] (.pure (.not _ _ rfl rfl)) ?_
     refine ChD.s (.d (.bool (!((((walkTo x (blP r) q.1.1 q.1.2 ((nxTo x x.arcs.length).getD (q.1.1.getD q.2 default).toNat default) m).2).getD ((((x.arcs.getD (((((nxTo x x.arcs.length).getD (((q.1.1.getD q.2 default)).toNat) default).getD m default)).toNat) default).dst)).toNat) default))))) [] (.pure (.pickT _ _ _ rfl rfl rfl)) ?_
     refine ChD.nil (And.intro ?_ (by kernel_rfl))
     refine T_cond (b := (!((((walkTo x (blP r) q.1.1 q.1.2 ((nxTo x x.arcs.length).getD (q.1.1.getD q.2 default).toNat default) m).2).getD ((((x.arcs.getD (((((nxTo x x.arcs.length).getD (((q.1.1.getD q.2 default)).toNat) default).getD m default)).toNat) default).dst)).toNat) default)))) rfl (fun h5 => ?_) (fun h5 => ?_)
     ·
      replace h5 := nott h5
      refine T_seq ?_
      refine T_region hc ?_
      refine Ch.s (.row 8) (.pure (.move _ rfl rfl)) ?_
      refine Ch.s (.ptr 15000 3) (.pure (.fldPtr _ _ _ rfl fld85_3 rfl)) ?_
      refine Ch.s (.d (.int .i64 ((x.arcs.getD (((((nxTo x x.arcs.length).getD (((q.1.1.getD q.2 default)).toNat) default).getD m default)).toNat) default).dst))) (.pure (.loadPtr1 _ _ rfl ag3 rfl rfl rfl)) ?_
      refine Ch.s (.el 8 1 ((((x.arcs.getD (((((nxTo x x.arcs.length).getD (((q.1.1.getD q.2 default)).toNat) default).getD m default)).toNat) default).dst)).toNat) 0) (.pure (.idxRow _ _ _ 4 ((((x.arcs.getD (((((nxTo x x.arcs.length).getD (((q.1.1.getD q.2 default)).toNat) default).getD m default)).toNat) default).dst)).toNat) rfl Try.underlying99 sz4 rfl rfl rfl (by omega) (by first | omega | (simp only [List.length_map, List.length_set]; omega) | (simp; omega)))) ?_
      refine Ch.s .junk (.storeEl (y' := (.bool true)) _ _ _ rfl rfl rfl (.d _) rfl sz4 rfl get_mapA rfl rfl) ?_
      refine Ch.nil ?_
      refine T_region hc ?_
      refine Ch.s (.row 7) (.pure (.move _ rfl rfl)) ?_
      refine Ch.s (.ptr 15000 3) (.pure (.fldPtr _ _ _ rfl fld85_3 rfl)) ?_
      refine Ch.s (.d (.int .i64 ((x.arcs.getD (((((nxTo x x.arcs.length).getD (((q.1.1.getD q.2 default)).toNat) default).getD m default)).toNat) default).dst))) (.pure (.loadPtr1 _ _ rfl ag3 rfl rfl rfl)) ?_
      refine Ch.s (.row 77000) (.slice 77000 _ 3 _ rfl sty43 (xs := [.tmp 76]) rfl rfl (.cons (.d _) .nil) rfl rfl (by decide)) ?_
      refine Ch.step (v := (.row 78000)) rfl (.append 78000 _ _ _ 3 rfl sty43 (by decide) (.rowK rfl) (.inr ⟨_, rfl, rfl⟩) (.row rfl rfl) rfl (by first | omega | (simp only [List.length_append, List.length_map, List.length_cons, List.length_nil]; omega) | (simp; omega) | (simp; done))) rfl rfl ?_
      refine Ch.s (.row 78000) (.pure (.assign _ rfl rfl)) ?_
      refine Ch.nil ?_
      refine T_region hc ?_
      refine Ch.s (.d (.int .i64 (((m : Nat) : Int) + 1))) (.pure (.int _ _ _ _ _ rfl rfl rfl intV_addA)) ?_
      refine Ch.s (.d (.int .i64 (((m : Nat) : Int) + 1))) (.pure (.move _ rfl rfl)) ?_
      refine Ch.nil ?_
      refine Exists.intro (m + 1) (And.intro (by omega) (And.intro (by first | omega | (dsimp only; omega)) (Wk.ren [(7, 78000)] rfl rfl rfl rfl (And.intro rfl (And.intro rfl (And.intro rfl (And.intro rfl (And.intro rfl (And.intro rfl (And.intro rfl (And.intro rfl (And.intro (vI (by first | rfl | omega | (simp; done) | (simp; omega))) trivial))))))))) (And.intro (oR (by first | rfl | (rw [walkTo_succ (by omega), walk_yes (by assumption) (by assumption)]; dsimp only; rw [List.map_append]; rfl) | (rw [walkTo_succ (by omega), walk_lab (by assumption)]) | (rw [walkTo_succ (by omega), walk_seen (by assumption)]))) (And.intro (oR (by first | rfl | (rw [walkTo_succ (by omega), walk_yes (by assumption) (by assumption)]; dsimp only; rw [List.map_set]; done) | (rw [walkTo_succ (by omega), walk_lab (by assumption)]) | (rw [walkTo_succ (by omega), walk_seen (by assumption)]))) (And.intro rfl (And.intro rfl (And.intro rfl (And.intro rfl (And.intro rfl trivial))))))))))
     ·
      replace h5 := notf h5
      refine T_skip ?_
      refine T_region hc ?_
      refine Ch.s (.d (.int .i64 (((m : Nat) : Int) + 1))) (.pure (.int _ _ _ _ _ rfl rfl rfl intV_addA)) ?_
      refine Ch.s (.d (.int .i64 (((m : Nat) : Int) + 1))) (.pure (.move _ rfl rfl)) ?_
      refine Ch.nil ?_
      refine Exists.intro (m + 1) (And.intro (by omega) (And.intro (by first | omega | (dsimp only; omega)) (Wk.of rfl rfl (And.intro rfl (And.intro rfl (And.intro rfl (And.intro rfl (And.intro rfl (And.intro rfl (And.intro rfl (And.intro rfl (And.intro (vI (by first | rfl | omega | (simp; done) | (simp; omega))) trivial))))))))) (And.intro (oR (by first | rfl | (rw [walkTo_succ (by omega), walk_yes (by assumption) (by assumption)]; dsimp only; rw [List.map_append]; rfl) | (rw [walkTo_succ (by omega), walk_lab (by assumption)]) | (rw [walkTo_succ (by omega), walk_seen (by assumption)]))) (And.intro (oR (by first | rfl | (rw [walkTo_succ (by omega), walk_yes (by assumption) (by assumption)]; dsimp only; rw [List.map_set]; done) | (rw [walkTo_succ (by omega), walk_lab (by assumption)]) | (rw [walkTo_succ (by omega), walk_seen (by assumption)]))) (And.intro rfl (And.intro rfl (And.intro rfl (And.intro rfl (And.intro rfl trivial))))))))))
   ·
    replace h3 := of_decide_eq_false h3
    try have htm := hnt _ (getD_mem (l := ((nxTo x x.arcs.length).getD (q.1.1.getD q.2 default).toNat default)) (j := m) (d := default) (by omega))
    try have htk := htm.1
    try have het := hen _ (getD_mem (l := x.arcs) (j := (((nxTo x x.arcs.length).getD (q.1.1.getD q.2 default).toNat default).getD m default).toNat) (d := default) htk.2)
    refine T_exit ?_
    refine T_region hc ?_
    refine Ch.s (.d (.int .i64 ((q.2 : Nat) : Int))) (.pure (.move _ rfl rfl)) ?_
    refine Ch.s (.d (.int .i64 (((q.2 : Nat) : Int) + 1))) (.pure (.int _ _ _ _ _ rfl rfl rfl intV_addA)) ?_
    refine Ch.s (.d (.int .i64 (((q.2 : Nat) : Int) + 1))) (.pure (.assign _ rfl rfl)) ?_
    refine Ch.nil ?_
    refine Exists.intro ((walkTo x (blP r) q.1.1 q.1.2 ((nxTo x x.arcs.length).getD (q.1.1.getD q.2 default).toNat default) (((nxTo x x.arcs.length).getD (q.1.1.getD q.2 default).toNat default).length), q.2 + 1)) (And.intro (hp1.step hen (by omega) rfl) (And.intro (by dsimp only; omega) (Wk.trans (Wk.give 9 (((q.1.1.getD q.2 default)).toNat) 7000002 7000003 rfl (get_set (by first | omega | (simp only [List.length_map, List.length_set]; omega) | (simp; omega))) rfl rfl rfl (set_back (f := intsU) (by omega))) (Wk.of rfl rfl (And.intro rfl (And.intro rfl (And.intro rfl (And.intro rfl (And.intro rfl (And.intro (vI (by first | rfl | omega | (simp; done) | (simp; omega))) trivial)))))) (And.intro (oR (by first | rfl | (rw [show m = ((nxTo x x.arcs.length).getD (q.1.1.getD q.2 default).toNat default).length by omega]))) (And.intro (oR (by first | rfl | (rw [show m = ((nxTo x x.arcs.length).getD (q.1.1.getD q.2 default).toNat default).length by omega]))) (And.intro rfl (And.intro rfl (And.intro rfl trivial)))))))))
  ·
   replace h2 := of_decide_eq_false h2
   try have hqi := hp1.inv.wl.inn _ (getD_mem (l := q.1.1) (j := q.2) (d := default) (by omega))
   refine T_exit ?_
   refine T_seq ?_
   refine T_region hc ?_
   refine Ch.s (.row 7) (.pure (.move _ rfl rfl)) ?_
   refine Ch.step (v := (.row 81000)) rfl (.call 81000 87 _ _ _ en87 rfl (.inl rfl) (.cons (.row rfl) .nil) rfl (sol (solid_row (fun _ => rfl) _) rfl) (sp_impl_tidy q.1.1 (by first | assumption | omega | (rw [List.length_take]; omega) | (have := bulkF_mem hb _ (getD_mem (d := default) (by omega)); assumption) | (unfold bulkS at *; omega) | (simp_all; done))) (.skip _ _ .nil) rfl) rfl rfl ?_
   refine Ch.s (.row 81000) (.pure (.assign _ rfl rfl)) ?_
   refine Ch.nil ?_
   refine T_ret ?_
   refine And.intro (.inr rfl) ?_
   exact Exists.intro [(.row 81000)] (Exists.intro [] (Exists.intro [81000] (And.intro (.cons (.tmp 6 rfl) .nil) (And.intro (.cons (.any _) (.cons (.any _) (.cons (.any _) .nil))) (And.intro (Exp.of (congrArg (D.slice true 1) (by rw [hp1.end hen (swTo_rising x _ _ _) (swTo_in x _ _ _) (by omega)]; rfl)) (.row rfl)) (And.intro rfl rfl))))))

theorem fld42_0 : FieldIs Try.prog 42 0 0 1 false := FieldIs.mk Try.underlying42 rfl rfl sz3 ag3 rfl

theorem fld42_1 : FieldIs Try.prog 42 1 1 1 false := FieldIs.mk Try.underlying42 rfl rfl sz4 ag4 rfl

theorem en80 : Enters Try.prog 80 := ⟨_, Try.func80, by kernel_rfl, rfl⟩

theorem en81 : Enters Try.prog 81 := ⟨_, Try.func81, by kernel_rfl, rfl⟩

theorem en82 : Enters Try.prog 82 := ⟨_, Try.func82, by kernel_rfl, rfl⟩

theorem en36 : Enters Try.prog 36 := ⟨_, Try.func36, by kernel_rfl, rfl⟩

theorem en79 : Enters Try.prog 79 := ⟨_, Try.func79, by kernel_rfl, rfl⟩

theorem en45 : Enters Try.prog 45 := ⟨_, Try.func45, by kernel_rfl, rfl⟩

theorem en46 : Enters Try.prog 46 := ⟨_, Try.func46, by kernel_rfl, rfl⟩

theorem en47 : Enters Try.prog 47 := ⟨_, Try.func47, by kernel_rfl, rfl⟩

theorem en48 : Enters Try.prog 48 := ⟨_, Try.func48, by kernel_rfl, rfl⟩

theorem ag26 : AggIs Try.prog 26 true := by unfold AggIs; kernel_rfl

theorem sz26 : SizeIs Try.prog 26 3 := by unfold SizeIs; kernel_rfl

theorem en8 : Enters Try.prog 8 := ⟨_, Try.func8, by kernel_rfl, rfl⟩

theorem en10 : Enters Try.prog 10 := ⟨_, Try.func10, by kernel_rfl, rfl⟩

theorem ag42 : AggIs Try.prog 42 true := by unfold AggIs; kernel_rfl

theorem sz42 : SizeIs Try.prog 42 2 := by unfold SizeIs; kernel_rfl

theorem en18 : Enters Try.prog 18 := ⟨_, Try.func18, by kernel_rfl, rfl⟩

theorem en19 : Enters Try.prog 19 := ⟨_, Try.func19, by kernel_rfl, rfl⟩

theorem en13 : Enters Try.prog 13 := ⟨_, Try.func13, by kernel_rfl, rfl⟩

theorem sp_laws_toLabel (x : Lab) (hb : x.bulk ≤ 1048576) : Sp Try.prog 18 [(.agg [(.int .i64 x.sig), (.bool (x.up))])] [.any] (.agg [(.int .i64 x.sig), (.bool (x.up))]) := by
 refine Sp_intro (lend := true) Try.func18 rfl rfl rfl (fun _ => rfl) (fun c hc hX => ?_)
 refine T_seq ?_
 refine T_region hc ?_
 refine Ch.s (.ptr 1000 0) (.box 1000 _ _ rfl (.aggD _)) ?_
 refine Ch.s (.ptr 2000 0) (.alloc 2000 _ rfl zer46) ?_
 refine Ch.nil ?_
 refine T_seq ?_
 refine T_region hc ?_
 refine Ch.s (.ptr 3000 0) (.alloc 3000 _ rfl zer46) ?_
 refine Ch.nil ?_
 refine T_seq ?_
 refine T_region hc ?_
 refine Ch.s (.ptr 1000 0) (.pure (.fldPtr _ _ _ rfl fld42_0 rfl)) ?_
 refine Ch.s (.d (.int .i64 x.sig)) (.pure (.loadPtr1 _ _ rfl ag3 rfl rfl rfl)) ?_
 refine Ch.s (.ptr 3000 0) (.pure (.fldPtr _ _ _ rfl fld46_0 rfl)) ?_
 refine Ch.s .junk (.storePtr _ _ _ rfl rfl rfl (.one _ rfl) sz3 (Nat.le_of_ble_eq_true rfl)) ?_
 refine Ch.nil ?_
 refine T_seq ?_
 refine T_region hc ?_
 refine Ch.s (.ptr 1000 1) (.pure (.fldPtr _ _ _ rfl fld42_1 rfl)) ?_
 refine Ch.s (.d (.bool (x.up))) (.pure (.loadPtr1 _ _ rfl ag4 rfl rfl rfl)) ?_
 refine Ch.s (.ptr 3000 1) (.pure (.fldPtr _ _ _ rfl fld46_1 rfl)) ?_
 refine Ch.s .junk (.storePtr _ _ _ rfl rfl rfl (.one _ rfl) sz4 (Nat.le_of_ble_eq_true rfl)) ?_
 refine Ch.nil ?_
 refine T_seq ?_
 refine T_region hc ?_
 refine Ch.s (.agg [(.d (.int .i64 x.sig)), (.d (.bool (x.up)))]) (.pure (.loadPtrA _ _ rfl ag46 sz46 rfl rfl (Nat.le_of_ble_eq_true rfl) rfl)) ?_
 refine Ch.s .junk (.storePtr _ _ _ rfl rfl rfl (.agg _ rfl) sz46 (Nat.le_of_ble_eq_true rfl)) ?_
 refine Ch.nil ?_
 refine T_ret ?_
 refine And.intro (.inr rfl) ?_
 exact Exists.intro [(.agg [(.d (.int .i64 x.sig)), (.d (.bool (x.up)))])] (Exists.intro [] (Exists.intro [] (And.intro (.cons (.cellA _ _ rfl rfl ag46 sz46) .nil) (And.intro (.cons (.any _) .nil) (And.intro (.agg (.cons (.d _) (.cons (.d _) .nil)) rfl) (And.intro rfl rfl))))))

def sbB (x : Sgr) (s r : Lab) : Bool := sgB x && (withinB s.sig 0 ((x.sigs.length : Int) - 1) && (withinB r.sig 0 ((x.sigs.length : Int) - 1) && !decide (s = r)))

def sbV (x : Sgr) (s r : Lab) : List Int := if sbB x s r then blkL x s r else []

theorem sbB_has {x : Sgr} {s r : Lab} (h : sbB x s r = true) : sgB x = true ∧ hasSigB x s.sig = true ∧ hasSigB x r.sig = true := by
  unfold sbB at h
  simp only [Bool.and_eq_true] at h
  refine ⟨h.1, ?_, ?_⟩
  · rw [hasSigB, h.1, h.2.1]; rfl
  · rw [hasSigB, h.1, h.2.2.1]; rfl

theorem sbB_first {x : Sgr} {s r : Lab} (h : hasSigB x s.sig = false) : sbB x s r = false := by
  unfold hasSigB at h
  unfold sbB
  cases h1 : sgB x with
  | false => rfl
  | true => rw [h1, Bool.true_and] at h; rw [h]; rfl

theorem sbB_second {x : Sgr} {s r : Lab} (h : hasSigB x r.sig = false) : sbB x s r = false := by
  unfold hasSigB at h
  unfold sbB
  cases h1 : sgB x with
  | false => rfl
  | true => rw [h1, Bool.true_and] at h; rw [h, Bool.false_and, Bool.and_false]; rfl

theorem sbB_third {x : Sgr} {s r : Lab} {b : Bool} (h1 : hasSigB x s.sig = true) (h2 : hasSigB x r.sig = true) (h3 : decide (s = r) = b) : sbB x s r = !b := by
  unfold hasSigB at h1 h2
  rw [Bool.and_eq_true] at h1 h2
  rw [sbB, h1.1, h1.2, h2.2, h3]; rfl

theorem blkL_le {x : Sgr} (hen : ends x.codes.length x.arcs) (s r : Lab) : (blkL x s r).length ≤ x.codes.length := by
  obtain ⟨h1, h2⟩ := reachL_rising (blP r) hen (swTo_rising x s.sig s.up x.arcs.length) (swTo_in x _ _ _) x.codes.length
  exact (rising_len h1 h2).2

def sideCh (block : List Int) (k : Nat) : UInt8 := if hasI block (k : Int) then 49 else 48

def sideTo (block : List Int) (k : Nat) : List UInt8 := (List.range k).map (sideCh block)

theorem sideTo_len (block : List Int) (k : Nat) : (sideTo block k).length = k := by simp [sideTo]

theorem sideTo_succ (block : List Int) (k : Nat) : sideTo block k ++ [sideCh block k] = sideTo block (k + 1) := by simp [sideTo, List.range_succ]

theorem sideTo_get {block : List Int} {k j : Nat} (h : j < k) : (sideTo block k).getD j 0 = sideCh block j := by
  unfold sideTo
  simp [h]

def crossI (block : List Int) (a : Arc) : Bool := !hasI block a.src && hasI block a.dst

def crossO (block : List Int) (a : Arc) : Bool := hasI block a.src && !hasI block a.dst

def crossS (block : List Int) (s : List UInt8) (a : Arc) : List UInt8 := if crossI block a then s.set a.dst.toNat 43 else if crossO block a then s.set a.dst.toNat 45 else s

def crossTo (x : Sgr) (block : List Int) (m : Nat) : List UInt8 := (x.arcs.take m).foldl (crossS block) (sideTo block x.codes.length)

theorem crossTo_succ {x : Sgr} {block : List Int} {m : Nat} (h : m < x.arcs.length) : crossTo x block (m + 1) = crossS block (crossTo x block m) (x.arcs.getD m default) := by
  have hg : x.arcs.getD m default = x.arcs[m] := by simp [h]
  unfold crossTo
  rw [List.take_succ_eq_append_getElem h, List.foldl_append, hg]; rfl

theorem crossS_len (block : List Int) (s : List UInt8) (a : Arc) : (crossS block s a).length = s.length := by
  unfold crossS
  split
  · rw [List.length_set]
  · split
    · rw [List.length_set]
    · rfl

theorem cross_len (block : List Int) : ∀ (l : List Arc) (s : List UInt8), (l.foldl (crossS block) s).length = s.length
  | [], _ => rfl
  | a :: l, s => by rw [List.foldl_cons, cross_len block l, crossS_len]

theorem crossTo_len (x : Sgr) (block : List Int) (m : Nat) : (crossTo x block m).length = x.codes.length := by rw [crossTo, cross_len, sideTo_len]

def inB2 (x : Sgr) (a : Arc) : Bool := decide (a.sig = -1) || inputB x a.sig

def markd (c : UInt8) : Bool := decide (c = 43) || decide (c = 45)

def stayB (block : List Int) (a : Arc) : Bool := decide (hasI block a.src = hasI block a.dst)

def spread (x : Sgr) (block : List Int) (s : List UInt8) (a : Arc) : List UInt8 := if markd (s.getD a.src.toNat 0) && (inB2 x a && stayB block a) then s.set a.dst.toNat (s.getD a.src.toNat 0) else s

def spIt (x : Sgr) (block : List Int) (k : Nat) : List UInt8 := itN (x.arcs.foldl (spread x block)) k (crossTo x block x.arcs.length)

def spTo (x : Sgr) (block : List Int) (k m : Nat) : List UInt8 := (x.arcs.take m).foldl (spread x block) (spIt x block k)

theorem spTo_zero (x : Sgr) (block : List Int) (k : Nat) : spTo x block k 0 = spIt x block k := rfl

theorem spTo_next {x : Sgr} {block : List Int} {k m : Nat} (h : x.arcs.length ≤ m) : spTo x block k m = spIt x block (k + 1) := by
  rw [spTo, List.take_of_length_le h]; rfl

theorem spTo_succ {x : Sgr} {block : List Int} {k m : Nat} (h : m < x.arcs.length) : spTo x block k (m + 1) = spread x block (spTo x block k m) (x.arcs.getD m default) := by
  have hg : x.arcs.getD m default = x.arcs[m] := by simp [h]
  unfold spTo
  rw [List.take_succ_eq_append_getElem h, List.foldl_append, hg]; rfl

def sideOk (x : Sgr) (block : List Int) (s : List UInt8) : Prop := s.length = x.codes.length ∧ ∀ j : Nat, j < x.codes.length → s.getD j 0 = sideCh block j ∨ s.getD j 0 = if hasI block (j : Int) then 43 else 45

theorem getD_set0 {l : List UInt8} {i j : Nat} {y : UInt8} : (l.set i y).getD j 0 = if i = j ∧ i < l.length then y else l.getD j 0 := by
  rw [List.getD_eq_getElem?_getD, List.getElem?_set]
  by_cases h : i = j
  · subst h
    by_cases h2 : i < l.length
    · simp [h2]
    · simp [h2]
  · simp [h]

theorem side_cross {x : Sgr} {block : List Int} (hen : ends x.codes.length x.arcs) : ∀ m, m ≤ x.arcs.length → sideOk x block (crossTo x block m)
  | 0, _ => ⟨by rw [crossTo_len], fun j hj => .inl (sideTo_get hj)⟩
  | m + 1, hm => by
    obtain ⟨h1, h2⟩ := side_cross hen m (by omega)
    have he := hen _ (getD_mem (l := x.arcs) (j := m) (d := default) (by omega))
    refine ⟨by rw [crossTo_len], fun j hj => ?_⟩
    rw [crossTo_succ (by omega)]
    unfold crossS
    split
    · rename_i hc
      rw [getD_set0]
      split
      · rename_i hh
        right
        unfold crossI at hc
        rw [Bool.and_eq_true] at hc
        rw [show ((j : Nat) : Int) = (x.arcs.getD m default).dst by omega, hc.2]; rfl
      · exact h2 j hj
    · split
      · rename_i hc
        rw [getD_set0]
        split
        · rename_i hh
          right
          unfold crossO at hc
          rw [Bool.and_eq_true, Bool.not_eq_true'] at hc
          rw [show ((j : Nat) : Int) = (x.arcs.getD m default).dst by omega, hc.2]; rfl
        · exact h2 j hj
      · exact h2 j hj

theorem sideCh_not {block : List Int} {j : Nat} : markd (sideCh block j) = false := by
  unfold sideCh
  split <;> decide

def mkN (s : List UInt8) : Nat := s.countP markd

theorem spread_grow (x : Sgr) (block : List Int) (hen : ends x.codes.length x.arcs) : Grow (spread x block) x.arcs mkN (sideOk x block) x.codes.length := by
  have key : ∀ s e, e ∈ x.arcs → sideOk x block s → spread x block s e = s ∨ (sideOk x block (spread x block s e) ∧ mkN s + 1 ≤ mkN (spread x block s e)) := by
    intro s e he ⟨h1, h2⟩
    have hee := hen e he
    unfold spread
    split
    · rename_i hc
      rw [Bool.and_eq_true, Bool.and_eq_true] at hc
      have hst : hasI block e.src = hasI block e.dst := by
        have := hc.2.2
        unfold stayB at this
        exact of_decide_eq_true this
      have hs := h2 e.src.toNat hee.1.2
      have hd := h2 e.dst.toNat hee.2.2
      rw [show ((e.src.toNat : Nat) : Int) = e.src by omega] at hs
      rw [show ((e.dst.toNat : Nat) : Int) = e.dst by omega, ← hst] at hd
      have hval : s.getD e.src.toNat 0 = if hasI block e.src then 43 else 45 := by
        rcases hs with hs | hs
        · rw [hs, sideCh_not] at hc
          exact absurd hc.1 (by decide)
        · exact hs
      rcases hd with hd | hd
      · right
        have hdl : e.dst.toNat < s.length := by omega
        refine ⟨⟨by rw [List.length_set]; exact h1, fun j hj => ?_⟩, ?_⟩
        · rw [getD_set0]
          split
          · rename_i hh
            right
            rw [hval, show ((j : Nat) : Int) = e.dst by omega, hst]
          · exact h2 j hj
        · unfold mkN
          rw [List.countP_set (h := hdl)]
          have hg : s.getD e.dst.toNat 0 = s[e.dst.toNat] := by simp [hdl]
          rw [← hg, hd, sideCh_not, hc.1]
          simp
      · left
        rw [hval, ← hd]
        apply List.ext_getElem
        · rw [List.length_set]
        · intro q h3 h4
          rw [List.getElem_set]
          split
          · rename_i hq
            subst hq
            simp [h4]
          · rfl
    · exact .inl rfl
  refine ⟨fun s e he hs => ?_, fun s e he hs => ?_, fun s e he hs hle => ?_, fun s hs => ?_⟩
  · rcases key s e he hs with h | h
    · rw [h]; exact hs
    · exact h.1
  · rcases key s e he hs with h | h
    · rw [h]; exact Nat.le_refl _
    · omega
  · rcases key s e he hs with h | h
    · exact h
    · omega
  · rw [← hs.1]; exact List.countP_le_length

theorem itN_stay {σ : Type} {f : σ → σ} {s : σ} {k : Nat} (h : f (itN f k s) = itN f k s) : ∀ d, itN f (k + d) s = itN f k s
  | 0 => rfl
  | d + 1 => by
    show f (itN f (k + d) s) = _
    rw [itN_stay h d, h]

theorem itN_fix {σ : Type} {f : σ → σ} {s : σ} {j n : Nat} (h1 : f (itN f j s) = itN f j s) (h2 : f (itN f n s) = itN f n s) : itN f j s = itN f n s := by
  rcases Nat.le_total j n with h | h
  · have := itN_stay h1 (n - j)
    rw [show j + (n - j) = n by omega] at this
    exact this.symm
  · have := itN_stay h2 (j - n)
    rw [show n + (j - n) = j by omega] at this
    exact this

theorem foldl_stay {σ ε : Type} {g : σ → ε → σ} : ∀ {l : List ε} {s : σ}, (∀ e ∈ l, g s e = s) → l.foldl g s = s
  | [], _, _ => rfl
  | e :: l, s, h => by rw [List.foldl_cons, h e List.mem_cons_self, foldl_stay fun b hb => h b (List.mem_cons_of_mem _ hb)]

def signsF (x : Sgr) (block : List Int) : List UInt8 := spIt x block x.codes.length

theorem spIt_ok {x : Sgr} {block : List Int} (hen : ends x.codes.length x.arcs) (k : Nat) : sideOk x block (spIt x block k) :=
  ((spread_grow x block hen).steps (side_cross hen _ (Nat.le_refl _)) k).1

theorem spTo_ok {x : Sgr} {block : List Int} (hen : ends x.codes.length x.arcs) (k : Nat) : ∀ m, m ≤ x.arcs.length → sideOk x block (spTo x block k m) ∧ mkN (spIt x block k) ≤ mkN (spTo x block k m)
  | 0, _ => ⟨spIt_ok hen k, Nat.le_refl _⟩
  | m + 1, hm => by
    obtain ⟨h1, h2⟩ := spTo_ok hen k m (by omega)
    have hmm := getD_mem (l := x.arcs) (j := m) (d := default) (by omega)
    rw [spTo_succ (by omega)]
    have := (spread_grow x block hen).more _ _ hmm h1
    exact ⟨(spread_grow x block hen).keep _ _ hmm h1, by omega⟩

theorem signs_fix {x : Sgr} {block : List Int} (hen : ends x.codes.length x.arcs) : x.arcs.foldl (spread x block) (signsF x block) = signsF x block :=
  foldl_stay ((spread_grow x block hen).fix (side_cross hen _ (Nat.le_refl _))).2

theorem signs_end {x : Sgr} {block : List Int} (hen : ends x.codes.length x.arcs) {k : Nat} (h : spIt x block (k + 1) = spIt x block k) : spIt x block (k + 1) = signsF x block := by
  rw [h]
  exact itN_fix h (signs_fix hen)

theorem sp_same {x : Sgr} {block : List Int} (hen : ends x.codes.length x.arcs) {k m : Nat} (hm : x.arcs.length ≤ m) (h : ¬ mkN (spIt x block k) < mkN (spTo x block k m)) : spIt x block (k + 1) = spIt x block k := by
  rw [spTo_next hm] at h
  obtain ⟨_, h2, h3⟩ := (spread_grow x block hen).fold _ (spIt_ok hen k)
  have h4 : mkN (spIt x block (k + 1)) ≤ mkN (spIt x block k) := by omega
  exact (h3 h4).1

theorem sp_spec_l10Is (a : Arc) (sig : Int) (up : Bool) : Sp Try.prog 80 [(.agg [(.int .i64 a.src), (.int .i64 a.sig), (.bool (a.up)), (.int .i64 a.dst)]), (.int .i64 sig), (.bool (up))] [.any, .any, .any] (.bool (isEd sig up a)) := by
 refine Sp_intro (lend := true) Try.func80 rfl rfl rfl (fun _ => rfl) (fun c hc hX => ?_)
 refine T_seq ?_
 refine T_region hc ?_
 refine Ch.s (.ptr 3000 0) (.box 3000 _ _ rfl (.aggD _)) ?_
 refine Ch.s (.d (.bool false)) (.pure (.assign _ rfl rfl)) ?_
 refine Ch.nil ?_
 refine T_seq ?_
 refine T_region hc ?_
 refine Ch.s (.ptr 3000 1) (.pure (.fldPtr _ _ _ rfl fld85_1 rfl)) ?_
 refine Ch.s (.d (.int .i64 a.sig)) (.pure (.loadPtr1 _ _ rfl ag3 rfl rfl rfl)) ?_
 refine Ch.s (.d (.int .i64 sig)) (.pure (.move _ rfl rfl)) ?_
 refine Ch.s (.d (.bool (decide (a.sig = sig)))) (.pure (.int _ _ _ _ _ rfl rfl rfl rfl)) ?_
 refine Ch.s (.d (.bool (decide (a.sig = sig)))) (.pure (.move _ rfl rfl)) ?_
 cases h1 : (decide (a.sig = sig)) with
 | true =>
  replace h1 := of_decide_eq_true h1
  refine Ch.s (.ptr 3000 2) (.pure (.fldPtr _ _ _ rfl fld85_2 rfl)) ?_
  refine Ch.s (.d (.bool (a.up))) (.pure (.loadPtr1 _ _ rfl ag4 rfl rfl rfl)) ?_
  refine Ch.s (.d (.bool (up))) (.pure (.move _ rfl rfl)) ?_
  refine Ch.s (.d (.bool (decide ((a.up) = (up))))) (.pure (.eqB _ _ _ _ rfl Try.underlying4 rfl rfl)) ?_
  refine Ch.s (.d (.bool (decide ((a.up) = (up))))) (.pure (.pickT _ _ _ rfl rfl rfl)) ?_
  refine Ch.s (.d (.bool (decide ((a.up) = (up))))) (.pure (.assign _ rfl rfl)) ?_
  refine Ch.nil ?_
  refine T_ret ?_
  refine And.intro (.inr rfl) ?_
  exact Exists.intro [(.d (.bool (decide ((a.up) = (up)))))] (Exists.intro [] (Exists.intro [] (And.intro (.cons (.tmp 6 rfl) .nil) (And.intro (.cons (.any _) (.cons (.any _) (.cons (.any _) .nil))) (And.intro (Exp.of (congrArg D.bool (by first | (unfold isEd; simp only [*, decide_true, decide_false, Bool.true_and, Bool.false_and]; done) | (unfold isEd; simp_all; done))) (.d _)) (And.intro rfl rfl))))))
 | false =>
  replace h1 := of_decide_eq_false h1
  refine Ch.skip rfl rfl ?_
  refine Ch.skip rfl rfl ?_
  refine Ch.skip rfl rfl ?_
  refine Ch.skip rfl rfl ?_
  refine Ch.s (.d (.bool false)) (.pure (.pickF _ _ _ rfl rfl rfl)) ?_
  refine Ch.s (.d (.bool false)) (.pure (.assign _ rfl rfl)) ?_
  refine Ch.nil ?_
  refine T_ret ?_
  refine And.intro (.inr rfl) ?_
  exact Exists.intro [(.d (.bool false))] (Exists.intro [] (Exists.intro [] (And.intro (.cons (.tmp 6 rfl) .nil) (And.intro (.cons (.any _) (.cons (.any _) (.cons (.any _) .nil))) (And.intro (Exp.of (congrArg D.bool (by first | (unfold isEd; simp only [*, decide_true, decide_false, Bool.true_and, Bool.false_and]; done) | (unfold isEd; simp_all; done))) (.d _)) (And.intro rfl rfl))))))

set_option maxHeartbeats 2000000 in
theorem sp_spec_l12Block (x : Sgr) (s r : Lab) (hb : x.bulk ≤ 1048576) (hx : SgOk x) : Sp Try.prog 46 [(.agg [(.slice false 2 (x.sigs.map Sgn.d)), (.slice false 1 (x.codes.map D.str)), (.slice false 4 (x.arcs.map Arc.d))]), (.agg [(.int .i64 s.sig), (.bool (s.up))]), (.agg [(.int .i64 r.sig), (.bool (r.up))])] [.any, .any, .any] (.slice true 1 ((blkL x s r).map (fun n : Int => D.int .i64 n))) := by
 refine Sp_intro (lend := true) Try.func46 rfl rfl rfl (fun _ => rfl) (fun c hc hX => ?_)
 obtain ⟨hp0, hp1, hp2⟩ := Sgr.parts hb
 have hn0 := bulkF_len hp0
 have hn1 := bulk_len hp1
 have hx1 := bulk_mem hp1
 have hn2 := bulkF_len hp2; have hxl := hx.len; have hxf := hx.few; have hen := hx.ends
 refine T_seq ?_
 refine T_region hc ?_
 refine Ch.s (.ptr 3000 0) (.box 3000 _ _ rfl (.aggD _)) ?_
 refine Ch.s (.ptr 4000 0) (.box 4000 _ _ rfl (.aggD _)) ?_
 refine Ch.s (.ptr 5000 0) (.box 5000 _ _ rfl (.aggD _)) ?_
 refine Ch.s (.c (.slice none 0 0)) (.pure (.assign _ rfl rfl)) ?_
 refine Ch.nil ?_
 refine T_seq ?_
 refine T_region hc ?_
 refine Ch.s (.c (.slice none 0 0)) (.pure (.assign _ rfl rfl)) ?_
 refine Ch.nil ?_
 refine T_seq ?_
 refine T_seq ?_
 refine T_region hc ?_
 refine Ch.s (.ptr 3000 2) (.pure (.fldPtr _ _ _ rfl fld34_2 rfl)) ?_
 refine Ch.s (.d (.slice false 4 (x.arcs.map Arc.d))) (.pure (.loadPtr1 _ _ rfl ag32 rfl rfl rfl)) ?_
 refine Ch.s (.d (.int .i64 ((x.arcs.length : Nat) : Int))) (.pure (.len _ _ 85 rfl Try.underlying32 (.sh _ _) (by simp))) ?_
 refine Ch.s (.d (.int .i64 0)) (.pure (.move _ rfl rfl)) ?_
 refine Ch.nil ?_
 refine T_block ?_
 refine T_loop (ι := Nat) (fun k => { n := 62, sl := [(3, (.ptr 3000 0)), (4, (.ptr 4000 0)), (5, (.ptr 5000 0)), (7, (.row 7)), (13, (.d (.slice false 4 (x.arcs.map Arc.d)))), (14, (.d (.int .i64 ((x.arcs.length : Nat) : Int)))), (15, (.d (.int .i64 ((k : Nat) : Int))))], hp := [(7, (some (.row 1 ((swTo x s.sig s.up k).map (fun n : Int => D.int .i64 n))))), (3000, (some (.box [(.d (.slice false 2 (x.sigs.map Sgn.d))), (.d (.slice false 1 (x.codes.map D.str))), (.d (.slice false 4 (x.arcs.map Arc.d)))]))), (4000, (some (.box [(.d (.int .i64 s.sig)), (.d (.bool (s.up)))]))), (5000, (some (.box [(.d (.int .i64 r.sig)), (.d (.bool (r.up)))])))], pin := [] }) (fun k => k ≤ x.arcs.length) (fun k => x.arcs.length - k) ⟨0, (by omega), (Wk.trans (Wk.nilrow 7 900007 1 rfl rfl rfl) (Wk.ren [(7, 900007)] rfl rfl rfl rfl (And.intro rfl (And.intro rfl (And.intro rfl (And.intro rfl (And.intro rfl (And.intro rfl (And.intro (vI (by first | rfl | omega | (simp; done) | (simp; omega))) trivial))))))) (And.intro (oR (by first | (rw [swTo_zero]; rfl) | (rw [swTo_yes hen (by omega) (by assumption)]; done) | (exact congrArg (List.map _) (swTo_no (by omega) (by assumption))))) (And.intro rfl (And.intro rfl (And.intro rfl trivial))))))⟩ (fun k hp0 => ?_)
 have hq := swTo_le x s.sig s.up k; have hrs := swTo_rising x s.sig s.up k
 refine T_seq ?_
 refine T_region hc ?_
 refine Ch.s (.d (.bool (decide (((k : Nat) : Int) < ((x.arcs.length : Nat) : Int))))) (.pure (.int _ _ _ _ _ rfl rfl rfl rfl)) ?_
 refine Ch.nil ?_
 refine T_seq ?_
 refine T_cond (b := (decide (((k : Nat) : Int) < ((x.arcs.length : Nat) : Int)))) rfl (fun h1 => ?_) (fun h1 => ?_)
 ·
  replace h1 := of_decide_eq_true h1
  try have hek := hen _ (getD_mem (l := x.arcs) (j := k) (d := default) (by omega))
  refine T_skip ?_
  refine T_seq ?_
  refine T_block ?_
  refine T_seq ?_
  refine T_region hc ?_
  refine Ch.s (.d (.ref (.agg [(.int .i64 ((x.arcs.getD k default).src)), (.int .i64 ((x.arcs.getD k default).sig)), (.bool ((x.arcs.getD k default).up)), (.int .i64 ((x.arcs.getD k default).dst))]))) (.pure (.idx _ _ _ 85 (k) rfl Try.underlying32 sz85 rfl rfl rfl get_mapA)) ?_
  refine Ch.s (.d (.agg [(.int .i64 ((x.arcs.getD k default).src)), (.int .i64 ((x.arcs.getD k default).sig)), (.bool ((x.arcs.getD k default).up)), (.int .i64 ((x.arcs.getD k default).dst))])) (.pure (.loadRefA _ _ rfl ag85 sz85 rfl)) ?_
  refine Ch.s (.ptr 9000 0) (.alloc 9000 _ rfl zer85) ?_
  refine Ch.s .junk (.storePtr _ _ _ rfl rfl rfl (.aggD _) sz85 (Nat.le_of_ble_eq_true rfl)) ?_
  refine Ch.nil ?_
  refine T_seq ?_
  refine T_region hc ?_
  refine Ch.s (.agg [(.d (.int .i64 ((x.arcs.getD k default).src))), (.d (.int .i64 ((x.arcs.getD k default).sig))), (.d (.bool ((x.arcs.getD k default).up))), (.d (.int .i64 ((x.arcs.getD k default).dst)))]) (.pure (.loadPtrA _ _ rfl ag85 sz85 rfl rfl (Nat.le_of_ble_eq_true rfl) rfl)) ?_
  refine Ch.s (.ptr 4000 0) (.pure (.fldPtr _ _ _ rfl fld46_0 rfl)) ?_
  refine Ch.s (.d (.int .i64 s.sig)) (.pure (.loadPtr1 _ _ rfl ag3 rfl rfl rfl)) ?_
  refine Ch.s (.ptr 4000 1) (.pure (.fldPtr _ _ _ rfl fld46_1 rfl)) ?_
  refine Ch.s (.d (.bool (s.up))) (.pure (.loadPtr1 _ _ rfl ag4 rfl rfl rfl)) ?_
  refine Ch.s (.d (.bool (isEd s.sig (s.up) (x.arcs.getD k default)))) (.call 24000 80 _ _ _ en80 rfl (.inl rfl) (.cons (.lend (.agg (.cons (.d _) (.cons (.d _) (.cons (.d _) (.cons (.d _) .nil)))) rfl)) (.cons (.d _) (.cons (.d _) .nil))) rfl rfl (sp_spec_l10Is (x.arcs.getD k default) s.sig (s.up)) (.skip _ _ (.skip _ _ (.skip _ _ .nil))) rfl) ?_
  refine Ch.nil ?_
  refine T_cond (b := (isEd s.sig (s.up) (x.arcs.getD k default))) rfl (fun h2 => ?_) (fun h2 => ?_)
  ·
   refine T_region hc ?_
   refine Ch.s (.row 7) (.pure (.move _ rfl rfl)) ?_
   refine Ch.s (.ptr 9000 3) (.pure (.fldPtr _ _ _ rfl fld85_3 rfl)) ?_
   refine Ch.s (.d (.int .i64 ((x.arcs.getD k default).dst))) (.pure (.loadPtr1 _ _ rfl ag3 rfl rfl rfl)) ?_
   refine Ch.step (v := (.row 28000)) rfl (.call 28000 81 _ _ _ en81 rfl (.inl rfl) (.cons (.row rfl) (.cons (.d _) .nil)) rfl (sol (solid_row (fun _ => rfl) _) rfl) (sp_spec_l1Put (swTo x s.sig s.up k) ((x.arcs.getD k default).dst) (by first | assumption | omega | (rw [List.length_take]; omega) | (have := bulkF_mem hb _ (getD_mem (d := default) (by omega)); assumption) | (unfold bulkS at *; omega) | (simp_all; done)) (by first | assumption | exact setL_rising _ _)) (.skip _ _ (.skip _ _ .nil)) rfl) rfl rfl ?_
   refine Ch.s (.row 28000) (.pure (.assign _ rfl rfl)) ?_
   refine Ch.nil ?_
   refine T_region hc ?_
   refine Ch.s (.d (.int .i64 (((k : Nat) : Int) + 1))) (.pure (.int _ _ _ _ _ rfl rfl rfl intV_addA)) ?_
   refine Ch.s (.d (.int .i64 (((k : Nat) : Int) + 1))) (.pure (.move _ rfl rfl)) ?_
   refine Ch.nil ?_
   refine Exists.intro (k + 1) (And.intro (by omega) (And.intro (by first | omega | (dsimp only; omega)) (Wk.ren [(7, 28000)] rfl rfl rfl rfl (And.intro rfl (And.intro rfl (And.intro rfl (And.intro rfl (And.intro rfl (And.intro rfl (And.intro (vI (by first | rfl | omega | (simp; done) | (simp; omega))) trivial))))))) (And.intro (oR (by first | (rw [swTo_zero]; rfl) | (rw [swTo_yes hen (by omega) (by assumption)]; done) | (exact congrArg (List.map _) (swTo_no (by omega) (by assumption))))) (And.intro rfl (And.intro rfl (And.intro rfl trivial)))))))
  ·
   refine T_skip ?_
   refine T_region hc ?_
   refine Ch.s (.d (.int .i64 (((k : Nat) : Int) + 1))) (.pure (.int _ _ _ _ _ rfl rfl rfl intV_addA)) ?_
   refine Ch.s (.d (.int .i64 (((k : Nat) : Int) + 1))) (.pure (.move _ rfl rfl)) ?_
   refine Ch.nil ?_
   refine Exists.intro (k + 1) (And.intro (by omega) (And.intro (by first | omega | (dsimp only; omega)) (Wk.of rfl rfl (And.intro rfl (And.intro rfl (And.intro rfl (And.intro rfl (And.intro rfl (And.intro rfl (And.intro (vI (by first | rfl | omega | (simp; done) | (simp; omega))) trivial))))))) (And.intro (oR (by first | (rw [swTo_zero]; rfl) | (rw [swTo_yes hen (by omega) (by assumption)]; done) | (exact congrArg (List.map _) (swTo_no (by omega) (by assumption))))) (And.intro rfl (And.intro rfl (And.intro rfl trivial)))))))
 ·
  replace h1 := of_decide_eq_false h1
  try have hek := hen _ (getD_mem (l := x.arcs) (j := k) (d := default) (by omega))
  refine T_exit ?_
  refine T_seq ?_
  refine T_seq ?_
  refine T_region hc ?_
  refine Ch.s (.ptr 3000 1) (.pure (.fldPtr _ _ _ rfl fld34_1 rfl)) ?_
  refine Ch.s (.d (.slice false 1 (x.codes.map D.str))) (.pure (.loadPtr1 _ _ rfl ag23 rfl rfl rfl)) ?_
  refine Ch.s (.d (.int .i64 ((x.codes.length : Nat) : Int))) (.pure (.len _ _ 9 rfl Try.underlying23 (.sh _ _) (by simp))) ?_
  refine Ch.s (.d (.int .i64 0)) (.pure (.move _ rfl rfl)) ?_
  refine Ch.nil ?_
  refine T_block ?_
  refine T_loop (ι := Nat) (fun p => { n := 62, sl := [(3, (.ptr 3000 0)), (5, (.ptr 5000 0)), (7, (.row 7)), (32, (.d (.int .i64 ((x.codes.length : Nat) : Int)))), (33, (.d (.int .i64 ((p : Nat) : Int))))], hp := [(7, (some (.row 1 ((reachL (blP r) x.arcs p (swS x s.sig s.up)).map (fun n : Int => D.int .i64 n))))), (3000, (some (.box [(.d (.slice false 2 (x.sigs.map Sgn.d))), (.d (.slice false 1 (x.codes.map D.str))), (.d (.slice false 4 (x.arcs.map Arc.d)))]))), (5000, (some (.box [(.d (.int .i64 r.sig)), (.d (.bool (r.up)))])))], pin := [] }) (fun p => p ≤ x.codes.length) (fun p => x.codes.length - p) ⟨0, (by omega), (Wk.of rfl rfl (And.intro rfl (And.intro rfl (And.intro rfl (And.intro rfl (And.intro (vI (by first | rfl | omega | (simp; done) | (simp; omega))) trivial))))) (And.intro (oR (by first | (rw [show k = x.arcs.length by omega]; rfl) | (rw [blkTo_next (by omega)]; done))) (And.intro rfl (And.intro rfl trivial))))⟩ (fun p hp1 => ?_)
  refine T_seq ?_
  refine T_region hc ?_
  refine Ch.s (.d (.bool (decide (((p : Nat) : Int) < ((x.codes.length : Nat) : Int))))) (.pure (.int _ _ _ _ _ rfl rfl rfl rfl)) ?_
  refine Ch.nil ?_
  refine T_seq ?_
  refine T_cond (b := (decide (((p : Nat) : Int) < ((x.codes.length : Nat) : Int)))) rfl (fun h3 => ?_) (fun h3 => ?_)
  ·
   replace h3 := of_decide_eq_true h3
   refine T_skip ?_
   refine T_seq ?_
   refine T_block ?_
   refine T_seq ?_
   refine T_region hc ?_
   refine Ch.s (.ptr 3000 2) (.pure (.fldPtr _ _ _ rfl fld34_2 rfl)) ?_
   refine Ch.s (.d (.slice false 4 (x.arcs.map Arc.d))) (.pure (.loadPtr1 _ _ rfl ag32 rfl rfl rfl)) ?_
   refine Ch.s (.d (.int .i64 ((x.arcs.length : Nat) : Int))) (.pure (.len _ _ 85 rfl Try.underlying32 (.sh _ _) (by simp))) ?_
   refine Ch.s (.d (.int .i64 0)) (.pure (.move _ rfl rfl)) ?_
   refine Ch.nil ?_
   refine T_block ?_
   refine T_loop (ι := Nat) (fun m => { n := 62, sl := [(3, (.ptr 3000 0)), (5, (.ptr 5000 0)), (7, (.row 7)), (32, (.d (.int .i64 ((x.codes.length : Nat) : Int)))), (33, (.d (.int .i64 ((p : Nat) : Int)))), (36, (.d (.slice false 4 (x.arcs.map Arc.d)))), (37, (.d (.int .i64 ((x.arcs.length : Nat) : Int)))), (38, (.d (.int .i64 ((m : Nat) : Int))))], hp := [(7, (some (.row 1 ((blkTo x s r p m).map (fun n : Int => D.int .i64 n))))), (3000, (some (.box [(.d (.slice false 2 (x.sigs.map Sgn.d))), (.d (.slice false 1 (x.codes.map D.str))), (.d (.slice false 4 (x.arcs.map Arc.d)))]))), (5000, (some (.box [(.d (.int .i64 r.sig)), (.d (.bool (r.up)))])))], pin := [] }) (fun m => m ≤ x.arcs.length) (fun m => x.arcs.length - m) ⟨0, (by omega), (Wk.of rfl rfl (And.intro rfl (And.intro rfl (And.intro rfl (And.intro rfl (And.intro rfl (And.intro rfl (And.intro rfl (And.intro (vI (by first | rfl | omega | (simp; done) | (simp; omega))) trivial)))))))) (And.intro (oR (by first | rfl | (rw [blkTo_put (by omega) (by assumption) (by assumption)]; done) | (exact congrArg (List.map _) (blkTo_out (by omega) (by assumption))) | (exact congrArg (List.map _) (blkTo_reset (by omega) (by assumption))))) (And.intro rfl (And.intro rfl trivial))))⟩ (fun m hp2 => ?_)
   obtain ⟨hrb, hib, hlb⟩ := blkTo_ok hen s r p m hp2
   refine T_seq ?_
   refine T_region hc ?_
   refine Ch.s (.d (.bool (decide (((m : Nat) : Int) < ((x.arcs.length : Nat) : Int))))) (.pure (.int _ _ _ _ _ rfl rfl rfl rfl)) ?_
   refine Ch.nil ?_
   refine T_seq ?_
   refine T_cond (b := (decide (((m : Nat) : Int) < ((x.arcs.length : Nat) : Int)))) rfl (fun h4 => ?_) (fun h4 => ?_)
   ·
    replace h4 := of_decide_eq_true h4
    try have hek := hen _ (getD_mem (l := x.arcs) (j := m) (d := default) (by omega))
    refine T_skip ?_
    refine T_seq ?_
    refine T_block ?_
    refine T_seq ?_
    refine T_region hc ?_
    refine Ch.s (.d (.ref (.agg [(.int .i64 ((x.arcs.getD m default).src)), (.int .i64 ((x.arcs.getD m default).sig)), (.bool ((x.arcs.getD m default).up)), (.int .i64 ((x.arcs.getD m default).dst))]))) (.pure (.idx _ _ _ 85 (m) rfl Try.underlying32 sz85 rfl rfl rfl get_mapA)) ?_
    refine Ch.s (.d (.agg [(.int .i64 ((x.arcs.getD m default).src)), (.int .i64 ((x.arcs.getD m default).sig)), (.bool ((x.arcs.getD m default).up)), (.int .i64 ((x.arcs.getD m default).dst))])) (.pure (.loadRefA _ _ rfl ag85 sz85 rfl)) ?_
    refine Ch.s (.ptr 11000 0) (.alloc 11000 _ rfl zer85) ?_
    refine Ch.s .junk (.storePtr _ _ _ rfl rfl rfl (.aggD _) sz85 (Nat.le_of_ble_eq_true rfl)) ?_
    refine Ch.nil ?_
    refine T_seq ?_
    refine T_region hc ?_
    refine Ch.s (.row 7) (.pure (.move _ rfl rfl)) ?_
    refine Ch.s (.ptr 11000 0) (.pure (.fldPtr _ _ _ rfl fld85_0 rfl)) ?_
    refine Ch.s (.d (.int .i64 ((x.arcs.getD m default).src))) (.pure (.loadPtr1 _ _ rfl ag3 rfl rfl rfl)) ?_
    refine Ch.s (.d (.bool (hasI (blkTo x s r p m) ((x.arcs.getD m default).src)))) (.call 45000 82 _ _ _ en82 rfl (.inl rfl) (.cons (.lend (.row rfl (frozs_map (fun _ => rfl) _))) (.cons (.d _) .nil)) rfl rfl (sp_spec_l1Has (blkTo x s r p m) ((x.arcs.getD m default).src) (by first | assumption | omega | (rw [List.length_take]; omega) | (have := bulkF_mem hb _ (getD_mem (d := default) (by omega)); assumption) | (unfold bulkS at *; omega) | (simp_all; done))) (.skip _ _ (.skip _ _ .nil)) rfl) ?_
    refine Ch.s (.d (.bool (hasI (blkTo x s r p m) ((x.arcs.getD m default).src)))) (.pure (.move _ rfl rfl)) ?_
    cases h5 : (hasI (blkTo x s r p m) ((x.arcs.getD m default).src)) with
    | true =>
     try have hek := hen _ (getD_mem (l := x.arcs) (j := m) (d := default) (by omega))
     refine Ch.s (.agg [(.d (.int .i64 ((x.arcs.getD m default).src))), (.d (.int .i64 ((x.arcs.getD m default).sig))), (.d (.bool ((x.arcs.getD m default).up))), (.d (.int .i64 ((x.arcs.getD m default).dst)))]) (.pure (.loadPtrA _ _ rfl ag85 sz85 rfl rfl (Nat.le_of_ble_eq_true rfl) rfl)) ?_
     refine Ch.s (.ptr 5000 0) (.pure (.fldPtr _ _ _ rfl fld46_0 rfl)) ?_
     refine Ch.s (.d (.int .i64 r.sig)) (.pure (.loadPtr1 _ _ rfl ag3 rfl rfl rfl)) ?_
     refine Ch.s (.ptr 5000 1) (.pure (.fldPtr _ _ _ rfl fld46_1 rfl)) ?_
     refine Ch.s (.d (.bool (r.up))) (.pure (.loadPtr1 _ _ rfl ag4 rfl rfl rfl)) ?_
     refine Ch.s (.d (.bool (isEd r.sig (r.up) (x.arcs.getD m default)))) (.call 52000 80 _ _ _ en80 rfl (.inl rfl) (.cons (.lend (.agg (.cons (.d _) (.cons (.d _) (.cons (.d _) (.cons (.d _) .nil)))) rfl)) (.cons (.d _) (.cons (.d _) .nil))) rfl rfl (sp_spec_l10Is (x.arcs.getD m default) r.sig (r.up)) (.skip _ _ (.skip _ _ (.skip _ _ .nil))) rfl) ?_
     refine Ch.s (.d (.bool (!(isEd r.sig (r.up) (x.arcs.getD m default))))) (.pure (.not _ _ rfl rfl)) ?_
     refine Ch.s (.d (.bool (!(isEd r.sig (r.up) (x.arcs.getD m default))))) (.pure (.pickT _ _ _ rfl rfl rfl)) ?_
     refine Ch.nil ?_
     refine T_cond (b := (!(isEd r.sig (r.up) (x.arcs.getD m default)))) rfl (fun h6 => ?_) (fun h6 => ?_)
     ·
      replace h6 := nott h6
      refine T_region hc ?_
      refine Ch.s (.row 7) (.pure (.move _ rfl rfl)) ?_
      refine Ch.s (.ptr 11000 3) (.pure (.fldPtr _ _ _ rfl fld85_3 rfl)) ?_
      refine Ch.s (.d (.int .i64 ((x.arcs.getD m default).dst))) (.pure (.loadPtr1 _ _ rfl ag3 rfl rfl rfl)) ?_
      refine Ch.step (v := (.row 58000)) rfl (.call 58000 81 _ _ _ en81 rfl (.inl rfl) (.cons (.row rfl) (.cons (.d _) .nil)) rfl (sol (solid_row (fun _ => rfl) _) rfl) (sp_spec_l1Put (blkTo x s r p m) ((x.arcs.getD m default).dst) (by first | assumption | omega | (rw [List.length_take]; omega) | (have := bulkF_mem hb _ (getD_mem (d := default) (by omega)); assumption) | (unfold bulkS at *; omega) | (simp_all; done)) (by first | assumption | exact setL_rising _ _)) (.skip _ _ (.skip _ _ .nil)) rfl) rfl rfl ?_
      refine Ch.s (.row 58000) (.pure (.assign _ rfl rfl)) ?_
      refine Ch.nil ?_
      refine T_region hc ?_
      refine Ch.s (.d (.int .i64 (((m : Nat) : Int) + 1))) (.pure (.int _ _ _ _ _ rfl rfl rfl intV_addA)) ?_
      refine Ch.s (.d (.int .i64 (((m : Nat) : Int) + 1))) (.pure (.move _ rfl rfl)) ?_
      refine Ch.nil ?_
      refine Exists.intro (m + 1) (And.intro (by omega) (And.intro (by first | omega | (dsimp only; omega)) (Wk.ren [(7, 58000)] rfl rfl rfl rfl (And.intro rfl (And.intro rfl (And.intro rfl (And.intro rfl (And.intro rfl (And.intro rfl (And.intro rfl (And.intro (vI (by first | rfl | omega | (simp; done) | (simp; omega))) trivial)))))))) (And.intro (oR (by first | rfl | (rw [blkTo_put (by omega) (by assumption) (by assumption)]; done) | (exact congrArg (List.map _) (blkTo_out (by omega) (by assumption))) | (exact congrArg (List.map _) (blkTo_reset (by omega) (by assumption))))) (And.intro rfl (And.intro rfl trivial))))))
     ·
      replace h6 := notf h6
      refine T_skip ?_
      refine T_region hc ?_
      refine Ch.s (.d (.int .i64 (((m : Nat) : Int) + 1))) (.pure (.int _ _ _ _ _ rfl rfl rfl intV_addA)) ?_
      refine Ch.s (.d (.int .i64 (((m : Nat) : Int) + 1))) (.pure (.move _ rfl rfl)) ?_
      refine Ch.nil ?_
      refine Exists.intro (m + 1) (And.intro (by omega) (And.intro (by first | omega | (dsimp only; omega)) (Wk.of rfl rfl (And.intro rfl (And.intro rfl (And.intro rfl (And.intro rfl (And.intro rfl (And.intro rfl (And.intro rfl (And.intro (vI (by first | rfl | omega | (simp; done) | (simp; omega))) trivial)))))))) (And.intro (oR (by first | rfl | (rw [blkTo_put (by omega) (by assumption) (by assumption)]; done) | (exact congrArg (List.map _) (blkTo_out (by omega) (by assumption))) | (exact congrArg (List.map _) (blkTo_reset (by omega) (by assumption))))) (And.intro rfl (And.intro rfl trivial))))))
    | false =>
     try have hek := hen _ (getD_mem (l := x.arcs) (j := m) (d := default) (by omega))
     refine Ch.skip rfl rfl ?_
     refine Ch.skip rfl rfl ?_
     refine Ch.skip rfl rfl ?_
     refine Ch.skip rfl rfl ?_
     refine Ch.skip rfl rfl ?_
     refine Ch.skip rfl rfl ?_
     refine Ch.skip rfl rfl ?_
     refine Ch.s (.d (.bool false)) (.pure (.pickF _ _ _ rfl rfl rfl)) ?_
     refine Ch.nil ?_
     refine T_cond (b := false) rfl (fun h => nomatch h) (fun _ => ?_)
     refine T_skip ?_
     refine T_region hc ?_
     refine Ch.s (.d (.int .i64 (((m : Nat) : Int) + 1))) (.pure (.int _ _ _ _ _ rfl rfl rfl intV_addA)) ?_
     refine Ch.s (.d (.int .i64 (((m : Nat) : Int) + 1))) (.pure (.move _ rfl rfl)) ?_
     refine Ch.nil ?_
     refine Exists.intro (m + 1) (And.intro (by omega) (And.intro (by first | omega | (dsimp only; omega)) (Wk.of rfl rfl (And.intro rfl (And.intro rfl (And.intro rfl (And.intro rfl (And.intro rfl (And.intro rfl (And.intro rfl (And.intro (vI (by first | rfl | omega | (simp; done) | (simp; omega))) trivial)))))))) (And.intro (oR (by first | rfl | (rw [blkTo_put (by omega) (by assumption) (by assumption)]; done) | (exact congrArg (List.map _) (blkTo_out (by omega) (by assumption))) | (exact congrArg (List.map _) (blkTo_reset (by omega) (by assumption))))) (And.intro rfl (And.intro rfl trivial))))))
   ·
    replace h4 := of_decide_eq_false h4
    try have hek := hen _ (getD_mem (l := x.arcs) (j := m) (d := default) (by omega))
    refine T_exit ?_
    refine T_region hc ?_
    refine Ch.s (.d (.int .i64 (((p : Nat) : Int) + 1))) (.pure (.int _ _ _ _ _ rfl rfl rfl intV_addA)) ?_
    refine Ch.s (.d (.int .i64 (((p : Nat) : Int) + 1))) (.pure (.move _ rfl rfl)) ?_
    refine Ch.nil ?_
    refine Exists.intro (p + 1) (And.intro (by omega) (And.intro (by first | omega | (dsimp only; omega)) (Wk.of rfl rfl (And.intro rfl (And.intro rfl (And.intro rfl (And.intro rfl (And.intro (vI (by first | rfl | omega | (simp; done) | (simp; omega))) trivial))))) (And.intro (oR (by first | (rw [show k = x.arcs.length by omega]; rfl) | (rw [blkTo_next (by omega)]; done))) (And.intro rfl (And.intro rfl trivial))))))
  ·
   replace h3 := of_decide_eq_false h3
   refine T_exit ?_
   refine T_seq ?_
   refine T_region hc ?_
   refine Ch.s (.row 7) (.pure (.move _ rfl rfl)) ?_
   refine Ch.s (.row 7) (.pure (.assign _ rfl rfl)) ?_
   refine Ch.nil ?_
   refine T_ret ?_
   refine And.intro (.inr rfl) ?_
   exact Exists.intro [(.row 7)] (Exists.intro [] (Exists.intro [7] (And.intro (.cons (.tmp 6 rfl) .nil) (And.intro (.cons (.any _) (.cons (.any _) (.cons (.any _) .nil))) (And.intro (Exp.of (congrArg (D.slice true 1) (by rw [blkL, show x.codes.length = p by omega])) (.row rfl)) (And.intro rfl rfl))))))

theorem sp_spec_l12Label (x : Sgr) (s : Lab) (hb : x.bulk ≤ 1048576) : Sp Try.prog 79 [(.agg [(.slice false 2 (x.sigs.map Sgn.d)), (.slice false 1 (x.codes.map D.str)), (.slice false 4 (x.arcs.map Arc.d))]), (.agg [(.int .i64 s.sig), (.bool (s.up))])] [.any, .any] (.bool (withinB s.sig 0 ((x.sigs.length : Int) - 1))) := by
 refine Sp_intro (lend := true) Try.func79 rfl rfl rfl (fun _ => rfl) (fun c hc hX => ?_)
 obtain ⟨hp0, hp1, hp2⟩ := Sgr.parts hb
 have hn0 := bulkF_len hp0
 have hn1 := bulk_len hp1
 have hx1 := bulk_mem hp1
 have hn2 := bulkF_len hp2
 refine T_seq ?_
 refine T_region hc ?_
 refine Ch.s (.ptr 2000 0) (.box 2000 _ _ rfl (.aggD _)) ?_
 refine Ch.s (.ptr 3000 0) (.box 3000 _ _ rfl (.aggD _)) ?_
 refine Ch.s (.d (.bool false)) (.pure (.assign _ rfl rfl)) ?_
 refine Ch.nil ?_
 refine T_seq ?_
 refine T_region hc ?_
 refine Ch.s (.ptr 3000 0) (.pure (.fldPtr _ _ _ rfl fld46_0 rfl)) ?_
 refine Ch.s (.d (.int .i64 s.sig)) (.pure (.loadPtr1 _ _ rfl ag3 rfl rfl rfl)) ?_
 refine Ch.s (.ptr 2000 0) (.pure (.fldPtr _ _ _ rfl fld34_0 rfl)) ?_
 refine Ch.s (.d (.slice false 2 (x.sigs.map Sgn.d))) (.pure (.loadPtr1 _ _ rfl ag31 rfl rfl rfl)) ?_
 refine Ch.s (.d (.int .i64 ((x.sigs.length : Nat) : Int))) (.pure (.len _ _ 88 rfl Try.underlying31 (.sh _ _) (by simp))) ?_
 refine Ch.s (.d (.int .i64 (((x.sigs.length : Nat) : Int) - 1))) (.pure (.int _ _ _ _ _ rfl rfl rfl intV_subA)) ?_
 refine Ch.s (.d (.bool (withinB s.sig 0 (((x.sigs.length : Nat) : Int) - 1)))) (.call 11000 68 _ _ _ en68 rfl (.inl rfl) (.cons (.d _) (.cons (.d _) (.cons (.d _) .nil))) rfl rfl (sp_spec_l1In s.sig 0 (((x.sigs.length : Nat) : Int) - 1)) (.skip _ _ (.skip _ _ (.skip _ _ .nil))) rfl) ?_
 refine Ch.s (.d (.bool (withinB s.sig 0 (((x.sigs.length : Nat) : Int) - 1)))) (.pure (.assign _ rfl rfl)) ?_
 refine Ch.nil ?_
 refine T_ret ?_
 refine And.intro (.inr rfl) ?_
 exact Exists.intro [(.d (.bool (withinB s.sig 0 (((x.sigs.length : Nat) : Int) - 1))))] (Exists.intro [] (Exists.intro [] (And.intro (.cons (.tmp 4 rfl) .nil) (And.intro (.cons (.any _) (.cons (.any _) .nil)) (And.intro (Exp.of (congrArg D.bool (by rfl)) (.d _)) (And.intro rfl rfl))))))

theorem sp_spec_l12Asked (x : Sgr) (s r : Lab) (hb : x.bulk ≤ 1048576) : Sp Try.prog 45 [(.agg [(.slice false 2 (x.sigs.map Sgn.d)), (.slice false 1 (x.codes.map D.str)), (.slice false 4 (x.arcs.map Arc.d))]), (.agg [(.int .i64 s.sig), (.bool (s.up))]), (.agg [(.int .i64 r.sig), (.bool (r.up))])] [.any, .any, .any] (.bool (sbB x s r)) := by
 refine Sp_intro (lend := true) Try.func45 rfl rfl rfl (fun _ => rfl) (fun c hc hX => ?_)
 obtain ⟨hp0, hp1, hp2⟩ := Sgr.parts hb
 have hn0 := bulkF_len hp0
 have hn1 := bulk_len hp1
 have hx1 := bulk_mem hp1
 have hn2 := bulkF_len hp2
 refine T_seq ?_
 refine T_region hc ?_
 refine Ch.s (.ptr 3000 0) (.box 3000 _ _ rfl (.aggD _)) ?_
 refine Ch.s (.ptr 4000 0) (.box 4000 _ _ rfl (.aggD _)) ?_
 refine Ch.s (.ptr 5000 0) (.box 5000 _ _ rfl (.aggD _)) ?_
 refine Ch.s (.d (.bool false)) (.pure (.assign _ rfl rfl)) ?_
 refine Ch.nil ?_
 refine T_seq ?_
 refine T_region hc ?_
 refine Ch.s (.agg [(.d (.slice false 2 (x.sigs.map Sgn.d))), (.d (.slice false 1 (x.codes.map D.str))), (.d (.slice false 4 (x.arcs.map Arc.d)))]) (.pure (.loadPtrA _ _ rfl ag34 sz34 rfl rfl (Nat.le_of_ble_eq_true rfl) rfl)) ?_
 refine Ch.s (.d (.bool (sgB x))) (.call 8000 36 _ _ _ en36 rfl (.inl rfl) (.cons (.lend (.agg (.cons (.d _) (.cons (.d _) (.cons (.d _) .nil))) rfl)) .nil) rfl rfl (sp_spec_l5Good x (by first | assumption | omega | (rw [List.length_take]; omega) | (have := bulkF_mem hb _ (getD_mem (d := default) (by omega)); assumption) | (unfold bulkS at *; omega) | (simp_all; done))) (.skip _ _ .nil) rfl) ?_
 refine Ch.s (.d (.bool (sgB x))) (.pure (.move _ rfl rfl)) ?_
 cases h1 : (sgB x) with
 | true =>
  refine Ch.s (.agg [(.d (.slice false 2 (x.sigs.map Sgn.d))), (.d (.slice false 1 (x.codes.map D.str))), (.d (.slice false 4 (x.arcs.map Arc.d)))]) (.pure (.loadPtrA _ _ rfl ag34 sz34 rfl rfl (Nat.le_of_ble_eq_true rfl) rfl)) ?_
  refine Ch.s (.agg [(.d (.int .i64 s.sig)), (.d (.bool (s.up)))]) (.pure (.loadPtrA _ _ rfl ag46 sz46 rfl rfl (Nat.le_of_ble_eq_true rfl) rfl)) ?_
  refine Ch.s (.d (.bool (withinB s.sig 0 ((x.sigs.length : Int) - 1)))) (.call 12000 79 _ _ _ en79 rfl (.inl rfl) (.cons (.lend (.agg (.cons (.d _) (.cons (.d _) (.cons (.d _) .nil))) rfl)) (.cons (.lend (.agg (.cons (.d _) (.cons (.d _) .nil)) rfl)) .nil)) rfl rfl (sp_spec_l12Label x s (by first | assumption | omega | (rw [List.length_take]; omega) | (have := bulkF_mem hb _ (getD_mem (d := default) (by omega)); assumption) | (unfold bulkS at *; omega) | (simp_all; done))) (.skip _ _ (.skip _ _ .nil)) rfl) ?_
  refine Ch.s (.d (.bool (withinB s.sig 0 ((x.sigs.length : Int) - 1)))) (.pure (.pickT _ _ _ rfl rfl rfl)) ?_
  refine Ch.s (.d (.bool (withinB s.sig 0 ((x.sigs.length : Int) - 1)))) (.pure (.move _ rfl rfl)) ?_
  cases h2 : (withinB s.sig 0 ((x.sigs.length : Int) - 1)) with
  | true =>
   refine Ch.s (.agg [(.d (.slice false 2 (x.sigs.map Sgn.d))), (.d (.slice false 1 (x.codes.map D.str))), (.d (.slice false 4 (x.arcs.map Arc.d)))]) (.pure (.loadPtrA _ _ rfl ag34 sz34 rfl rfl (Nat.le_of_ble_eq_true rfl) rfl)) ?_
   refine Ch.s (.agg [(.d (.int .i64 r.sig)), (.d (.bool (r.up)))]) (.pure (.loadPtrA _ _ rfl ag46 sz46 rfl rfl (Nat.le_of_ble_eq_true rfl) rfl)) ?_
   refine Ch.s (.d (.bool (withinB r.sig 0 ((x.sigs.length : Int) - 1)))) (.call 17000 79 _ _ _ en79 rfl (.inl rfl) (.cons (.lend (.agg (.cons (.d _) (.cons (.d _) (.cons (.d _) .nil))) rfl)) (.cons (.lend (.agg (.cons (.d _) (.cons (.d _) .nil)) rfl)) .nil)) rfl rfl (sp_spec_l12Label x r (by first | assumption | omega | (rw [List.length_take]; omega) | (have := bulkF_mem hb _ (getD_mem (d := default) (by omega)); assumption) | (unfold bulkS at *; omega) | (simp_all; done))) (.skip _ _ (.skip _ _ .nil)) rfl) ?_
   refine Ch.s (.d (.bool (withinB r.sig 0 ((x.sigs.length : Int) - 1)))) (.pure (.pickT _ _ _ rfl rfl rfl)) ?_
   refine Ch.s (.d (.bool (withinB r.sig 0 ((x.sigs.length : Int) - 1)))) (.pure (.move _ rfl rfl)) ?_
   cases h3 : (withinB r.sig 0 ((x.sigs.length : Int) - 1)) with
   | true =>
    refine Ch.s (.agg [(.d (.int .i64 s.sig)), (.d (.bool (s.up)))]) (.pure (.loadPtrA _ _ rfl ag46 sz46 rfl rfl (Nat.le_of_ble_eq_true rfl) rfl)) ?_
    refine Ch.s (.agg [(.d (.int .i64 r.sig)), (.d (.bool (r.up)))]) (.pure (.loadPtrA _ _ rfl ag46 sz46 rfl rfl (Nat.le_of_ble_eq_true rfl) rfl)) ?_
    refine Ch.s (.d (.bool (!(decide (s = r))))) (.pure (.neA _ _ _ _ rfl (eqa46 _ _ _ _) (.v [(.int .i64 s.sig), (.bool (s.up))]) (.v [(.int .i64 r.sig), (.bool (r.up))]) (Lab.eqv s r))) ?_
    refine Ch.s (.d (.bool (!(decide (s = r))))) (.pure (.pickT _ _ _ rfl rfl rfl)) ?_
    refine Ch.s (.d (.bool (!(decide (s = r))))) (.pure (.assign _ rfl rfl)) ?_
    refine Ch.nil ?_
    refine T_ret ?_
    refine And.intro (.inr rfl) ?_
    exact Exists.intro [(.d (.bool (!(decide (s = r)))))] (Exists.intro [] (Exists.intro [] (And.intro (.cons (.tmp 6 rfl) .nil) (And.intro (.cons (.any _) (.cons (.any _) (.cons (.any _) .nil))) (And.intro (Exp.of (congrArg D.bool (by first | (rw [sbB, h1]; rfl) | (rw [sbB, h1, h2]; rfl) | (rw [sbB, h1, h2, h3]; rfl))) (.d _)) (And.intro rfl rfl))))))
   | false =>
    refine Ch.skip rfl rfl ?_
    refine Ch.skip rfl rfl ?_
    refine Ch.skip rfl rfl ?_
    refine Ch.s (.d (.bool false)) (.pure (.pickF _ _ _ rfl rfl rfl)) ?_
    refine Ch.s (.d (.bool false)) (.pure (.assign _ rfl rfl)) ?_
    refine Ch.nil ?_
    refine T_ret ?_
    refine And.intro (.inr rfl) ?_
    exact Exists.intro [(.d (.bool false))] (Exists.intro [] (Exists.intro [] (And.intro (.cons (.tmp 6 rfl) .nil) (And.intro (.cons (.any _) (.cons (.any _) (.cons (.any _) .nil))) (And.intro (Exp.of (congrArg D.bool (by first | (rw [sbB, h1]; rfl) | (rw [sbB, h1, h2]; rfl) | (rw [sbB, h1, h2, h3]; rfl))) (.d _)) (And.intro rfl rfl))))))
  | false =>
   refine Ch.skip rfl rfl ?_
   refine Ch.skip rfl rfl ?_
   refine Ch.skip rfl rfl ?_
   refine Ch.s (.d (.bool false)) (.pure (.pickF _ _ _ rfl rfl rfl)) ?_
   refine Ch.s (.d (.bool false)) (.pure (.move _ rfl rfl)) ?_
   refine Ch.skip rfl rfl ?_
   refine Ch.skip rfl rfl ?_
   refine Ch.skip rfl rfl ?_
   refine Ch.s (.d (.bool false)) (.pure (.pickF _ _ _ rfl rfl rfl)) ?_
   refine Ch.s (.d (.bool false)) (.pure (.assign _ rfl rfl)) ?_
   refine Ch.nil ?_
   refine T_ret ?_
   refine And.intro (.inr rfl) ?_
   exact Exists.intro [(.d (.bool false))] (Exists.intro [] (Exists.intro [] (And.intro (.cons (.tmp 6 rfl) .nil) (And.intro (.cons (.any _) (.cons (.any _) (.cons (.any _) .nil))) (And.intro (Exp.of (congrArg D.bool (by first | (rw [sbB, h1]; rfl) | (rw [sbB, h1, h2]; rfl) | (rw [sbB, h1, h2, h3]; rfl))) (.d _)) (And.intro rfl rfl))))))
 | false =>
  refine Ch.skip rfl rfl ?_
  refine Ch.skip rfl rfl ?_
  refine Ch.skip rfl rfl ?_
  refine Ch.s (.d (.bool false)) (.pure (.pickF _ _ _ rfl rfl rfl)) ?_
  refine Ch.s (.d (.bool false)) (.pure (.move _ rfl rfl)) ?_
  refine Ch.skip rfl rfl ?_
  refine Ch.skip rfl rfl ?_
  refine Ch.skip rfl rfl ?_
  refine Ch.s (.d (.bool false)) (.pure (.pickF _ _ _ rfl rfl rfl)) ?_
  refine Ch.s (.d (.bool false)) (.pure (.move _ rfl rfl)) ?_
  refine Ch.skip rfl rfl ?_
  refine Ch.skip rfl rfl ?_
  refine Ch.skip rfl rfl ?_
  refine Ch.s (.d (.bool false)) (.pure (.pickF _ _ _ rfl rfl rfl)) ?_
  refine Ch.s (.d (.bool false)) (.pure (.assign _ rfl rfl)) ?_
  refine Ch.nil ?_
  refine T_ret ?_
  refine And.intro (.inr rfl) ?_
  exact Exists.intro [(.d (.bool false))] (Exists.intro [] (Exists.intro [] (And.intro (.cons (.tmp 6 rfl) .nil) (And.intro (.cons (.any _) (.cons (.any _) (.cons (.any _) .nil))) (And.intro (Exp.of (congrArg D.bool (by first | (rw [sbB, h1]; rfl) | (rw [sbB, h1, h2]; rfl) | (rw [sbB, h1, h2, h3]; rfl))) (.d _)) (And.intro rfl rfl))))))

theorem sp_impl_SetBlock (x : Sgr) (s r : Lab) (hb : x.bulk ≤ 1048576) : Sp Try.prog 19 [(.agg [(.slice false 2 (x.sigs.map Sgn.d)), (.slice false 1 (x.codes.map D.str)), (.slice false 4 (x.arcs.map Arc.d))]), (.agg [(.int .i64 s.sig), (.bool (s.up))]), (.agg [(.int .i64 r.sig), (.bool (r.up))])] [.any, .any, .any] (.tup [(.slice true 1 ((sbV x s r).map (fun n : Int => D.int .i64 n))), (.bool (sbB x s r))]) := by
 refine Sp_intro (lend := true) Try.func19 rfl rfl rfl (fun _ => rfl) (fun c hc hX => ?_)
 obtain ⟨hp0, hp1, hp2⟩ := Sgr.parts hb
 have hn0 := bulkF_len hp0
 have hn1 := bulk_len hp1
 have hx1 := bulk_mem hp1
 have hn2 := bulkF_len hp2
 refine T_seq ?_
 refine T_region hc ?_
 refine Ch.s (.ptr 3000 0) (.box 3000 _ _ rfl (.aggD _)) ?_
 refine Ch.s (.ptr 4000 0) (.box 4000 _ _ rfl (.aggD _)) ?_
 refine Ch.s (.ptr 5000 0) (.box 5000 _ _ rfl (.aggD _)) ?_
 refine Ch.s (.c (.slice none 0 0)) (.pure (.assign _ rfl rfl)) ?_
 refine Ch.s (.d (.bool false)) (.pure (.assign _ rfl rfl)) ?_
 refine Ch.nil ?_
 refine T_seq ?_
 refine T_seq ?_
 refine T_region hc ?_
 refine Ch.s (.agg [(.d (.slice false 2 (x.sigs.map Sgn.d))), (.d (.slice false 1 (x.codes.map D.str))), (.d (.slice false 4 (x.arcs.map Arc.d)))]) (.pure (.loadPtrA _ _ rfl ag34 sz34 rfl rfl (Nat.le_of_ble_eq_true rfl) rfl)) ?_
 refine Ch.s (.ptr 4000 0) (.pure (.fldPtr _ _ _ rfl fld46_0 rfl)) ?_
 refine Ch.s (.d (.int .i64 s.sig)) (.pure (.loadPtr1 _ _ rfl ag3 rfl rfl rfl)) ?_
 refine Ch.s (.d (.bool (hasSigB x s.sig))) (.call 11000 47 _ _ _ en47 rfl (.inl rfl) (.cons (.lend (.agg (.cons (.d _) (.cons (.d _) (.cons (.d _) .nil))) rfl)) (.cons (.d _) .nil)) rfl rfl (sp_impl_hasSignal x s.sig (by first | assumption | omega | (rw [List.length_take]; omega) | (have := bulkF_mem hb _ (getD_mem (d := default) (by omega)); assumption) | (unfold bulkS at *; omega) | (simp_all; done))) (.skip _ _ (.skip _ _ .nil)) rfl) ?_
 refine Ch.s (.d (.bool (!(hasSigB x s.sig)))) (.pure (.not _ _ rfl rfl)) ?_
 refine Ch.s (.d (.bool (!(hasSigB x s.sig)))) (.pure (.move _ rfl rfl)) ?_
 cases h1 : (hasSigB x s.sig) with
 | true =>
  try have hx := sg_has (has_sig h1).1
  refine Ch.s (.agg [(.d (.slice false 2 (x.sigs.map Sgn.d))), (.d (.slice false 1 (x.codes.map D.str))), (.d (.slice false 4 (x.arcs.map Arc.d)))]) (.pure (.loadPtrA _ _ rfl ag34 sz34 rfl rfl (Nat.le_of_ble_eq_true rfl) rfl)) ?_
  refine Ch.s (.ptr 5000 0) (.pure (.fldPtr _ _ _ rfl fld46_0 rfl)) ?_
  refine Ch.s (.d (.int .i64 r.sig)) (.pure (.loadPtr1 _ _ rfl ag3 rfl rfl rfl)) ?_
  refine Ch.s (.d (.bool (hasSigB x r.sig))) (.call 17000 47 _ _ _ en47 rfl (.inl rfl) (.cons (.lend (.agg (.cons (.d _) (.cons (.d _) (.cons (.d _) .nil))) rfl)) (.cons (.d _) .nil)) rfl rfl (sp_impl_hasSignal x r.sig (by first | assumption | omega | (rw [List.length_take]; omega) | (have := bulkF_mem hb _ (getD_mem (d := default) (by omega)); assumption) | (unfold bulkS at *; omega) | (simp_all; done))) (.skip _ _ (.skip _ _ .nil)) rfl) ?_
  refine Ch.s (.d (.bool (!(hasSigB x r.sig)))) (.pure (.not _ _ rfl rfl)) ?_
  refine Ch.s (.d (.bool (!(hasSigB x r.sig)))) (.pure (.pickF _ _ _ rfl rfl rfl)) ?_
  refine Ch.s (.d (.bool (!(hasSigB x r.sig)))) (.pure (.move _ rfl rfl)) ?_
  cases h2 : (hasSigB x r.sig) with
  | true =>
   refine Ch.s (.agg [(.d (.int .i64 s.sig)), (.d (.bool (s.up)))]) (.pure (.loadPtrA _ _ rfl ag46 sz46 rfl rfl (Nat.le_of_ble_eq_true rfl) rfl)) ?_
   refine Ch.s (.agg [(.d (.int .i64 r.sig)), (.d (.bool (r.up)))]) (.pure (.loadPtrA _ _ rfl ag46 sz46 rfl rfl (Nat.le_of_ble_eq_true rfl) rfl)) ?_
   refine Ch.s (.d (.bool (decide (s = r)))) (.pure (.eqA _ _ _ _ rfl (eqa46 _ _ _ _) (.v [(.int .i64 s.sig), (.bool (s.up))]) (.v [(.int .i64 r.sig), (.bool (r.up))]) (Lab.eqv s r))) ?_
   refine Ch.s (.d (.bool (decide (s = r)))) (.pure (.pickF _ _ _ rfl rfl rfl)) ?_
   refine Ch.nil ?_
   refine T_cond (b := (decide (s = r))) rfl (fun h3 => ?_) (fun h3 => ?_)
   ·
    replace h3 := of_decide_eq_true h3
    refine T_seq ?_
    refine T_region hc ?_
    refine Ch.s (.c (.slice none 0 0)) (.pure (.assign _ rfl rfl)) ?_
    refine Ch.s (.d (.bool false)) (.pure (.assign _ rfl rfl)) ?_
    refine Ch.nil ?_
    refine T_ret ?_
    refine And.intro (.inr rfl) ?_
    exact Exists.intro [(.c (.slice none 0 0)), (.d (.bool false))] (Exists.intro [] (Exists.intro [] (And.intro (.cons (.tmp 6 rfl) (.cons (.tmp 7 rfl) .nil)) (And.intro (.cons (.any _) (.cons (.any _) (.cons (.any _) .nil))) (And.intro (.tup (.cons (Exp.of (congrArg (D.slice true 1) (by first | (rw [sbV, sbB_first h1]; rfl) | (rw [sbB_first h1]; done) | (rw [sbV, sbB_second h2]; rfl) | (rw [sbB_second h2]; done) | (rw [sbV, sbB_third h1 h2 (decide_eq_true h3)]; rfl) | (rw [sbB_third h1 h2 (decide_eq_true h3)]; rfl) | (rw [sbV, sbB_third h1 h2 (decide_eq_false h3)]; rfl) | (rw [sbB_third h1 h2 (decide_eq_false h3)]; rfl))) (.nil true 1)) (.cons (Exp.of (congrArg D.bool (by first | (rw [sbV, sbB_first h1]; rfl) | (rw [sbB_first h1]; done) | (rw [sbV, sbB_second h2]; rfl) | (rw [sbB_second h2]; done) | (rw [sbV, sbB_third h1 h2 (decide_eq_true h3)]; rfl) | (rw [sbB_third h1 h2 (decide_eq_true h3)]; rfl) | (rw [sbV, sbB_third h1 h2 (decide_eq_false h3)]; rfl) | (rw [sbB_third h1 h2 (decide_eq_false h3)]; rfl))) (.d _)) .nil))) (And.intro rfl rfl))))))
   ·
    replace h3 := of_decide_eq_false h3
    refine T_skip ?_
    refine T_seq ?_
    refine T_region hc ?_
    refine Ch.s (.agg [(.d (.slice false 2 (x.sigs.map Sgn.d))), (.d (.slice false 1 (x.codes.map D.str))), (.d (.slice false 4 (x.arcs.map Arc.d)))]) (.pure (.loadPtrA _ _ rfl ag34 sz34 rfl rfl (Nat.le_of_ble_eq_true rfl) rfl)) ?_
    refine Ch.s (.agg [(.d (.int .i64 s.sig)), (.d (.bool (s.up)))]) (.pure (.loadPtrA _ _ rfl ag46 sz46 rfl rfl (Nat.le_of_ble_eq_true rfl) rfl)) ?_
    refine Ch.s (.agg [(.d (.int .i64 r.sig)), (.d (.bool (r.up)))]) (.pure (.loadPtrA _ _ rfl ag46 sz46 rfl rfl (Nat.le_of_ble_eq_true rfl) rfl)) ?_
    refine Ch.step (v := (.row 28000)) rfl (.call 28000 48 _ _ _ en48 rfl (.inl rfl) (.cons (.lend (.agg (.cons (.d _) (.cons (.d _) (.cons (.d _) .nil))) rfl)) (.cons (.lend (.agg (.cons (.d _) (.cons (.d _) .nil)) rfl)) (.cons (.lend (.agg (.cons (.d _) (.cons (.d _) .nil)) rfl)) .nil))) rfl (sol (solid_row (fun _ => rfl) _) rfl) (sp_impl_setBlock x s r (by first | assumption | omega | (rw [List.length_take]; omega) | (have := bulkF_mem hb _ (getD_mem (d := default) (by omega)); assumption) | (unfold bulkS at *; omega) | (simp_all; done)) (by assumption)) (.skip _ _ (.skip _ _ (.skip _ _ .nil))) rfl) rfl rfl ?_
    refine Ch.s (.row 28000) (.pure (.assign _ rfl rfl)) ?_
    refine Ch.s (.d (.bool true)) (.pure (.assign _ rfl rfl)) ?_
    refine Ch.nil ?_
    refine T_ret ?_
    refine And.intro (.inr rfl) ?_
    exact Exists.intro [(.row 28000), (.d (.bool true))] (Exists.intro [] (Exists.intro [28000] (And.intro (.cons (.tmp 6 rfl) (.cons (.tmp 7 rfl) .nil)) (And.intro (.cons (.any _) (.cons (.any _) (.cons (.any _) .nil))) (And.intro (.tup (.cons (Exp.of (congrArg (D.slice true 1) (by first | (rw [sbV, sbB_first h1]; rfl) | (rw [sbB_first h1]; done) | (rw [sbV, sbB_second h2]; rfl) | (rw [sbB_second h2]; done) | (rw [sbV, sbB_third h1 h2 (decide_eq_true h3)]; rfl) | (rw [sbB_third h1 h2 (decide_eq_true h3)]; rfl) | (rw [sbV, sbB_third h1 h2 (decide_eq_false h3)]; rfl) | (rw [sbB_third h1 h2 (decide_eq_false h3)]; rfl))) (.row rfl)) (.cons (Exp.of (congrArg D.bool (by first | (rw [sbV, sbB_first h1]; rfl) | (rw [sbB_first h1]; done) | (rw [sbV, sbB_second h2]; rfl) | (rw [sbB_second h2]; done) | (rw [sbV, sbB_third h1 h2 (decide_eq_true h3)]; rfl) | (rw [sbB_third h1 h2 (decide_eq_true h3)]; rfl) | (rw [sbV, sbB_third h1 h2 (decide_eq_false h3)]; rfl) | (rw [sbB_third h1 h2 (decide_eq_false h3)]; rfl))) (.d _)) .nil))) (And.intro rfl rfl))))))
  | false =>
   refine Ch.skip rfl rfl ?_
   refine Ch.skip rfl rfl ?_
   refine Ch.skip rfl rfl ?_
   refine Ch.s (.d (.bool true)) (.pure (.pickT _ _ _ rfl rfl rfl)) ?_
   refine Ch.nil ?_
   refine T_cond (b := true) rfl (fun _ => ?_) (fun h => nomatch h)
   refine T_seq ?_
   refine T_region hc ?_
   refine Ch.s (.c (.slice none 0 0)) (.pure (.assign _ rfl rfl)) ?_
   refine Ch.s (.d (.bool false)) (.pure (.assign _ rfl rfl)) ?_
   refine Ch.nil ?_
   refine T_ret ?_
   refine And.intro (.inr rfl) ?_
   exact Exists.intro [(.c (.slice none 0 0)), (.d (.bool false))] (Exists.intro [] (Exists.intro [] (And.intro (.cons (.tmp 6 rfl) (.cons (.tmp 7 rfl) .nil)) (And.intro (.cons (.any _) (.cons (.any _) (.cons (.any _) .nil))) (And.intro (.tup (.cons (Exp.of (congrArg (D.slice true 1) (by first | (rw [sbV, sbB_first h1]; rfl) | (rw [sbB_first h1]; done) | (rw [sbV, sbB_second h2]; rfl) | (rw [sbB_second h2]; done) | (rw [sbV, sbB_third h1 h2 (decide_eq_true h3)]; rfl) | (rw [sbB_third h1 h2 (decide_eq_true h3)]; rfl) | (rw [sbV, sbB_third h1 h2 (decide_eq_false h3)]; rfl) | (rw [sbB_third h1 h2 (decide_eq_false h3)]; rfl))) (.nil true 1)) (.cons (Exp.of (congrArg D.bool (by first | (rw [sbV, sbB_first h1]; rfl) | (rw [sbB_first h1]; done) | (rw [sbV, sbB_second h2]; rfl) | (rw [sbB_second h2]; done) | (rw [sbV, sbB_third h1 h2 (decide_eq_true h3)]; rfl) | (rw [sbB_third h1 h2 (decide_eq_true h3)]; rfl) | (rw [sbV, sbB_third h1 h2 (decide_eq_false h3)]; rfl) | (rw [sbB_third h1 h2 (decide_eq_false h3)]; rfl))) (.d _)) .nil))) (And.intro rfl rfl))))))
 | false =>
  try have hx := sg_has (has_sig h1).1
  refine Ch.skip rfl rfl ?_
  refine Ch.skip rfl rfl ?_
  refine Ch.skip rfl rfl ?_
  refine Ch.skip rfl rfl ?_
  refine Ch.skip rfl rfl ?_
  refine Ch.s (.d (.bool true)) (.pure (.pickT _ _ _ rfl rfl rfl)) ?_
  refine Ch.s (.d (.bool true)) (.pure (.move _ rfl rfl)) ?_
  refine Ch.skip rfl rfl ?_
  refine Ch.skip rfl rfl ?_
  refine Ch.skip rfl rfl ?_
  refine Ch.s (.d (.bool true)) (.pure (.pickT _ _ _ rfl rfl rfl)) ?_
  refine Ch.nil ?_
  refine T_cond (b := true) rfl (fun _ => ?_) (fun h => nomatch h)
  refine T_seq ?_
  refine T_region hc ?_
  refine Ch.s (.c (.slice none 0 0)) (.pure (.assign _ rfl rfl)) ?_
  refine Ch.s (.d (.bool false)) (.pure (.assign _ rfl rfl)) ?_
  refine Ch.nil ?_
  refine T_ret ?_
  refine And.intro (.inr rfl) ?_
  exact Exists.intro [(.c (.slice none 0 0)), (.d (.bool false))] (Exists.intro [] (Exists.intro [] (And.intro (.cons (.tmp 6 rfl) (.cons (.tmp 7 rfl) .nil)) (And.intro (.cons (.any _) (.cons (.any _) (.cons (.any _) .nil))) (And.intro (.tup (.cons (Exp.of (congrArg (D.slice true 1) (by first | (rw [sbV, sbB_first h1]; rfl) | (rw [sbB_first h1]; done) | (rw [sbV, sbB_second h2]; rfl) | (rw [sbB_second h2]; done) | (rw [sbV, sbB_third h1 h2 (decide_eq_true h3)]; rfl) | (rw [sbB_third h1 h2 (decide_eq_true h3)]; rfl) | (rw [sbV, sbB_third h1 h2 (decide_eq_false h3)]; rfl) | (rw [sbB_third h1 h2 (decide_eq_false h3)]; rfl))) (.nil true 1)) (.cons (Exp.of (congrArg D.bool (by first | (rw [sbV, sbB_first h1]; rfl) | (rw [sbB_first h1]; done) | (rw [sbV, sbB_second h2]; rfl) | (rw [sbB_second h2]; done) | (rw [sbV, sbB_third h1 h2 (decide_eq_true h3)]; rfl) | (rw [sbB_third h1 h2 (decide_eq_true h3)]; rfl) | (rw [sbV, sbB_third h1 h2 (decide_eq_false h3)]; rfl) | (rw [sbB_third h1 h2 (decide_eq_false h3)]; rfl))) (.d _)) .nil))) (And.intro rfl rfl))))))

theorem sz5 : SizeIs Try.prog 5 1 := by unfold SizeIs; kernel_rfl

theorem ag5 : AggIs Try.prog 5 false := by unfold AggIs; kernel_rfl

theorem en127 : Enters Try.prog 127 := ⟨_, Try.func127, by kernel_rfl, rfl⟩

theorem zr5 : (Try.prog.info? 5).bind (·.zero) = some (.int .u8 0) := by kernel_rfl

theorem en88 : Enters Try.prog 88 := ⟨_, Try.func88, by kernel_rfl, rfl⟩

theorem en89 : Enters Try.prog 89 := ⟨_, Try.func89, by kernel_rfl, rfl⟩

theorem en90 : Enters Try.prog 90 := ⟨_, Try.func90, by kernel_rfl, rfl⟩

theorem en91 : Enters Try.prog 91 := ⟨_, Try.func91, by kernel_rfl, rfl⟩

theorem en50 : Enters Try.prog 50 := ⟨_, Try.func50, by kernel_rfl, rfl⟩

theorem en49 : Enters Try.prog 49 := ⟨_, Try.func49, by kernel_rfl, rfl⟩

theorem en23 : Enters Try.prog 23 := ⟨_, Try.func23, by kernel_rfl, rfl⟩

theorem en24 : Enters Try.prog 24 := ⟨_, Try.func24, by kernel_rfl, rfl⟩

theorem getD_at {l : List UInt8} {j : Nat} (h : j < l.length) : l[j] = l.getD j 0 := by simp [h]

theorem side_49 {block : List Int} {n : Nat} {j : Int} (hj : 0 ≤ j ∧ j.toNat < n) : (sideTo block n).getD j.toNat 0 = if hasI block j then 49 else 48 := by
  rw [sideTo_get hj.2, sideCh, show ((j.toNat : Nat) : Int) = j by omega]

theorem side_has {block : List Int} {n : Nat} {j : Int} (hj : 0 ≤ j ∧ j.toNat < n) : ((sideTo block n).getD j.toNat 0 = 49 ↔ hasI block j = true) ∧ ((sideTo block n).getD j.toNat 0 = 48 ↔ hasI block j = false) := by
  rw [side_49 hj]
  cases hasI block j <;> decide

theorem cross_in {x : Sgr} {block : List Int} {k m : Nat} (hk : k = x.codes.length) (hen : ends x.codes.length x.arcs) (hm : m < x.arcs.length) (h1 : (sideTo block k).getD (x.arcs.getD m default).src.toNat 0 = 48) (h2 : (sideTo block k).getD (x.arcs.getD m default).dst.toNat 0 = 49) :
    ((crossTo x block m).map byteD).set (x.arcs.getD m default).dst.toNat (.int .u8 43) = (crossTo x block (m + 1)).map byteD := by
  subst hk
  have he := hen _ (getD_mem (d := default) hm)
  rw [(side_has he.1).2] at h1
  rw [(side_has he.2).1] at h2
  rw [crossTo_succ hm, crossS, crossI, h1, h2, Bool.not_false, Bool.and_self, if_pos rfl, List.map_set]; rfl

theorem cross_out {x : Sgr} {block : List Int} {k m : Nat} (hk : k = x.codes.length) (hen : ends x.codes.length x.arcs) (hm : m < x.arcs.length) (h1 : (sideTo block k).getD (x.arcs.getD m default).src.toNat 0 = 49) (h2 : (sideTo block k).getD (x.arcs.getD m default).dst.toNat 0 = 48) :
    ((crossTo x block m).map byteD).set (x.arcs.getD m default).dst.toNat (.int .u8 45) = (crossTo x block (m + 1)).map byteD := by
  subst hk
  have he := hen _ (getD_mem (d := default) hm)
  rw [(side_has he.1).1] at h1
  rw [(side_has he.2).2] at h2
  rw [crossTo_succ hm, crossS, crossI, crossO, h1, h2, if_neg (by decide), Bool.not_false, Bool.and_self, if_pos rfl, List.map_set]; rfl

theorem cross_no {x : Sgr} {block : List Int} {k m : Nat} (hk : k = x.codes.length) (hen : ends x.codes.length x.arcs) (hm : m < x.arcs.length) (h1 : ¬ ((sideTo block k).getD (x.arcs.getD m default).src.toNat 0 = 48 ∧ (sideTo block k).getD (x.arcs.getD m default).dst.toNat 0 = 49))
    (h2 : ¬ ((sideTo block k).getD (x.arcs.getD m default).src.toNat 0 = 49 ∧ (sideTo block k).getD (x.arcs.getD m default).dst.toNat 0 = 48)) : crossTo x block m = crossTo x block (m + 1) := by
  subst hk
  have he := hen _ (getD_mem (d := default) hm)
  rw [(side_has he.1).2, (side_has he.2).1] at h1
  rw [(side_has he.1).1, (side_has he.2).2] at h2
  rw [crossTo_succ hm, crossS, crossI, crossO]
  cases h3 : hasI block (x.arcs.getD m default).src <;> cases h4 : hasI block (x.arcs.getD m default).dst <;> rw [h3, h4] at h1 h2 <;> simp_all

theorem in_minus {x : Sgr} {a : Arc} (h : a.sig = -1) : inB2 x a = true := by rw [inB2, decide_eq_true h]; rfl

theorem in_else {x : Sgr} {a : Arc} {b : Bool} (h : ¬ a.sig = -1) (h2 : inputB x a.sig = b) : inB2 x a = b := by rw [inB2, decide_eq_false h, h2]; rfl

theorem stay_side {x : Sgr} {block : List Int} {a : Arc} {k : Nat} (hk : k = x.codes.length) (he : (0 ≤ a.src ∧ a.src.toNat < x.codes.length) ∧ (0 ≤ a.dst ∧ a.dst.toNat < x.codes.length)) : decide ((sideTo block k).getD a.src.toNat 0 = (sideTo block k).getD a.dst.toNat 0) = stayB block a := by
  subst hk
  rw [side_49 he.1, side_49 he.2, stayB]
  cases hasI block a.src <;> cases hasI block a.dst <;> decide

theorem mark_of {c : UInt8} (h : c = 43 ∨ c = 45) : markd c = true := by
  rcases h with rfl | rfl <;> decide

theorem mark_no {c : UInt8} (h1 : ¬ c = 43) (h2 : ¬ c = 45) : markd c = false := by
  rw [markd, decide_eq_false h1, decide_eq_false h2]; rfl

theorem sp_yes {x : Sgr} {block : List Int} {k m : Nat} (hm : m < x.arcs.length) (h1 : (spTo x block k m).getD (x.arcs.getD m default).src.toNat default = 43 ∨ (spTo x block k m).getD (x.arcs.getD m default).src.toNat default = 45) (h2 : inB2 x (x.arcs.getD m default) = true) (h3 : stayB block (x.arcs.getD m default) = true) :
    ((spTo x block k m).map byteD).set (x.arcs.getD m default).dst.toNat (byteD ((spTo x block k m).getD (x.arcs.getD m default).src.toNat default)) = (spTo x block k (m + 1)).map byteD := by
  have h4 : markd ((spTo x block k m).getD (x.arcs.getD m default).src.toNat 0) = true := mark_of h1
  rw [spTo_succ hm, spread, h4, h2, h3, Bool.and_self, Bool.and_self, if_pos rfl, List.map_set]; rfl

theorem sp_more {x : Sgr} {block : List Int} (hen : ends x.codes.length x.arcs) {k m : Nat} (hm : m < x.arcs.length) (h1 : (spTo x block k m).getD (x.arcs.getD m default).src.toNat default = 43 ∨ (spTo x block k m).getD (x.arcs.getD m default).src.toNat default = 45) (h2 : inB2 x (x.arcs.getD m default) = true) (h3 : stayB block (x.arcs.getD m default) = true)
    (h4 : ¬ (spTo x block k m).getD (x.arcs.getD m default).dst.toNat default = (spTo x block k m).getD (x.arcs.getD m default).src.toNat default) : true = decide (mkN (spIt x block k) < mkN (spTo x block k (m + 1))) := by
  obtain ⟨a1, a2⟩ := spTo_ok (x := x) (block := block) hen k m (by omega)
  have hmm := getD_mem (l := x.arcs) (j := m) (d := default) hm
  have hee := hen _ hmm
  refine (decide_eq_true ?_).symm
  rw [spTo_succ hm]
  apply Classical.byContradiction
  intro hc
  have hs := (spread_grow x block hen).same _ _ hmm a1 (by omega)
  have h5 : markd ((spTo x block k m).getD (x.arcs.getD m default).src.toNat 0) = true := mark_of h1
  rw [spread, h5, h2, h3, Bool.and_self, Bool.and_self, if_pos rfl] at hs
  apply h4
  have := congrArg (fun l : List UInt8 => l.getD (x.arcs.getD m default).dst.toNat 0) hs
  rw [getD_set0, if_pos ⟨rfl, by rw [a1.1]; exact hee.2.2⟩] at this
  exact this.symm

theorem sp_no1 {x : Sgr} {block : List Int} {k m : Nat} (hm : m < x.arcs.length) (h1 : ¬ (spTo x block k m).getD (x.arcs.getD m default).src.toNat default = 43) (h2 : ¬ (spTo x block k m).getD (x.arcs.getD m default).src.toNat default = 45) : spTo x block k m = spTo x block k (m + 1) := by
  have h4 : markd ((spTo x block k m).getD (x.arcs.getD m default).src.toNat 0) = false := mark_no h1 h2
  rw [spTo_succ hm, spread, h4, Bool.false_and, if_neg (by decide)]

theorem sp_no2 {x : Sgr} {block : List Int} {k m : Nat} (hm : m < x.arcs.length) (h2 : inB2 x (x.arcs.getD m default) = false) : spTo x block k m = spTo x block k (m + 1) := by
  rw [spTo_succ hm, spread, h2, Bool.false_and, Bool.and_false, if_neg (by decide)]

theorem sp_no3 {x : Sgr} {block : List Int} {k m : Nat} (hm : m < x.arcs.length) (h2 : stayB block (x.arcs.getD m default) = false) : spTo x block k m = spTo x block k (m + 1) := by
  rw [spTo_succ hm, spread, h2, Bool.and_false, Bool.and_false, if_neg (by decide)]

theorem sp_no4 {x : Sgr} {block : List Int} {k m : Nat} (hm : m < x.arcs.length) (h : (spTo x block k m).getD (x.arcs.getD m default).dst.toNat default = (spTo x block k m).getD (x.arcs.getD m default).src.toNat default) : spTo x block k m = spTo x block k (m + 1) := by
  rw [spTo_succ hm, spread]
  split
  · apply List.ext_getElem
    · rw [List.length_set]
    · intro q h3 h4
      rw [List.getElem_set]
      split
      · rename_i hq
        subst hq
        change (spTo x block k m).getD _ 0 = (spTo x block k m).getD _ 0 at h
        rw [← h]
        first | exact getD_at h3 | exact (getD_at h3).symm
      · rfl
  · rfl

theorem sp_flag {x : Sgr} {block : List Int} {k m : Nat} (h : spTo x block k m = spTo x block k (m + 1)) : decide (mkN (spIt x block k) < mkN (spTo x block k m)) = decide (mkN (spIt x block k) < mkN (spTo x block k (m + 1))) := by rw [h]

theorem sp_next {x : Sgr} {block : List Int} (hen : ends x.codes.length x.arcs) {k m : Nat} (hm : x.arcs.length ≤ m) : decide (mkN (spIt x block k) < mkN (spTo x block k m)) = true ∨ spIt x block (k + 1) = signsF x block := by
  by_cases h : mkN (spIt x block k) < mkN (spTo x block k m)
  · exact .inl (decide_eq_true h)
  · exact .inr (signs_end hen (sp_same hen hm h))

theorem sp_mu {x : Sgr} {block : List Int} (hen : ends x.codes.length x.arcs) {k m : Nat} (hm : x.arcs.length ≤ m) {b : Bool} (hb : b = true) : 2 * (x.codes.length - mkN (spIt x block (k + 1))) + (decide (mkN (spIt x block k) < mkN (spTo x block k m))).toNat < 2 * (x.codes.length - mkN (spIt x block k)) + b.toNat := by
  subst hb
  have h0 := spTo_next (x := x) (block := block) (k := k) hm
  obtain ⟨_, h1, _⟩ := (spread_grow x block hen).fold _ (spIt_ok hen k)
  have h1' : mkN (spIt x block k) ≤ mkN (spIt x block (k + 1)) := h1
  have h2 := (spread_grow x block hen).top _ (spIt_ok hen (k + 1))
  rw [h0]
  by_cases h : mkN (spIt x block k) < mkN (spIt x block (k + 1))
  · rw [decide_eq_true h]
    show _ + 1 < _ + 1
    omega
  · rw [decide_eq_false h]
    show _ + 0 < _ + 1
    omega

def okP (x : Sgr) (s r : Lab) : Bool := partB x (signsF x (blkL x s r)) && (decide ((0 : Int) < ((blkL x s r).length : Int)) && decide (((blkL x s r).length : Int) < (x.codes.length : Int)))

def ipB (x : Sgr) (s r : Lab) : Bool := sbB x s r && okP x s r

def ipV (x : Sgr) (s r : Lab) : List UInt8 := if ipB x s r then signsF x (blkL x s r) else []

def opV (x : Sgr) (s r : Lab) : List UInt8 := if okP x s r then signsF x (blkL x s r) else []

theorem signsF_len {x : Sgr} (hen : ends x.codes.length x.arcs) (block : List Int) : (signsF x block).length = x.codes.length := (spIt_ok hen _).1

def crossV (block : List Int) (a : Arc) : Int := if crossI block a then 1 else if crossO block a then 2 else 0

theorem crossV_one {block : List Int} {a : Arc} : crossV block a = 1 ↔ crossI block a = true := by
  unfold crossV
  cases crossI block a <;> cases crossO block a <;> decide

theorem crossV_two {block : List Int} {a : Arc} : crossV block a = 2 ↔ crossI block a = false ∧ crossO block a = true := by
  unfold crossV
  cases crossI block a <;> cases crossO block a <;> decide

theorem crossV_zero {block : List Int} {a : Arc} : decide (crossV block a = 0) = stayB block a := by
  unfold crossV crossI crossO stayB
  cases hasI block a.src <;> cases hasI block a.dst <;> decide

def sdFill (block : List Int) (n k : Nat) : List UInt8 := sideTo block k ++ List.replicate (n - k) 0

theorem sdFill_len {block : List Int} {n k : Nat} (h : k ≤ n) : (sdFill block n k).length = n := by
  rw [sdFill, List.length_append, sideTo_len, List.length_replicate]; omega

theorem sdFill_set {block : List Int} {n k : Nat} (h : k < n) {c : UInt8} (hc : sideCh block k = c) : (sdFill block n k).set k c = sdFill block n (k + 1) := by
  unfold sdFill
  rw [← sideTo_succ, List.append_assoc, List.set_append_right (h := by rw [sideTo_len]; exact Nat.le_refl _), sideTo_len, Nat.sub_self, show n - k = (n - (k + 1)) + 1 by omega, List.replicate_succ, List.set_cons_zero, hc]
  rfl

theorem sdFill_one {block : List Int} {n k : Nat} (h : k < n) (hb : hasI block (k : Int) = true) : (((sdFill block n k).map byteD).set k (.int .u8 48)).set k (.int .u8 49) = (sdFill block n (k + 1)).map byteD := by
  rw [List.set_set, ← sdFill_set h (c := 49) (by rw [sideCh, hb]; rfl), List.map_set]; rfl

theorem sdFill_nil {block : List Int} {n k : Nat} (h : k < n) (hb : hasI block (k : Int) = false) : ((sdFill block n k).map byteD).set k (.int .u8 48) = (sdFill block n (k + 1)).map byteD := by
  rw [← sdFill_set h (c := 48) (by rw [sideCh, hb]; rfl), List.map_set]; rfl

theorem sdFill_all {block : List Int} {n k : Nat} (h : k = n) : sdFill block n k = sideTo block n := by
  subst h
  rw [sdFill, Nat.sub_self]; simp

theorem cross_v1 {x : Sgr} {block : List Int} {m : Nat} (hm : m < x.arcs.length) (h : crossV block (x.arcs.getD m default) = 1) : ((crossTo x block m).map byteD).set (x.arcs.getD m default).dst.toNat (.int .u8 43) = (crossTo x block (m + 1)).map byteD := by
  rw [crossTo_succ hm, crossS, crossV_one.1 h, if_pos rfl, List.map_set]; rfl

theorem cross_v2 {x : Sgr} {block : List Int} {m : Nat} (hm : m < x.arcs.length) (h : crossV block (x.arcs.getD m default) = 2) : ((crossTo x block m).map byteD).set (x.arcs.getD m default).dst.toNat (.int .u8 45) = (crossTo x block (m + 1)).map byteD := by
  obtain ⟨h1, h2⟩ := crossV_two.1 h
  rw [crossTo_succ hm, crossS, h1, if_neg (by decide), h2, if_pos rfl, List.map_set]; rfl

theorem cross_v0 {x : Sgr} {block : List Int} {m : Nat} (hm : m < x.arcs.length) (h1 : ¬ crossV block (x.arcs.getD m default) = 1) (h2 : ¬ crossV block (x.arcs.getD m default) = 2) : crossTo x block m = crossTo x block (m + 1) := by
  rw [crossV_one] at h1
  rw [crossV_two] at h2
  rw [crossTo_succ hm, crossS, if_neg h1]
  have h3 : crossI block (x.arcs.getD m default) = false := by simpa using h1
  rw [if_neg (fun h => h2 ⟨h3, h⟩)]

theorem okP_no1 {x : Sgr} {s r : Lab} {q : Nat} (hq : q = x.codes.length) (h : partB x (spIt x (blkL x s r) q) = false) : okP x s r = false := by
  subst hq
  rw [okP, show partB x (signsF x (blkL x s r)) = false from h]; rfl

theorem okP_no2 {x : Sgr} {s r : Lab} (h : ¬ (0 : Int) < ((blkL x s r).length : Int)) : okP x s r = false := by
  rw [okP, decide_eq_false h, Bool.false_and, Bool.and_false]

theorem okP_yes {x : Sgr} {s r : Lab} {q : Nat} (hq : q = x.codes.length) (hl : (spIt x (blkL x s r) q).length = x.codes.length) (h : partB x (spIt x (blkL x s r) q) = true) (h2 : (0 : Int) < ((blkL x s r).length : Int)) : decide (((blkL x s r).length : Int) < ((spIt x (blkL x s r) q).length : Int)) = okP x s r := by
  subst hq
  rw [okP, show partB x (signsF x (blkL x s r)) = true from h, decide_eq_true h2, hl]; rfl

theorem okP_in {x : Sgr} {s r : Lab} {b : Bool} (h : partB x (signsF x (blkL x s r)) = b) (hw : withinB ((blkL x s r).length : Int) 1 ((x.codes.length : Int) - 1) = true) : okP x s r = b := by
  have := within_two hw
  rw [okP, h, decide_eq_true (by omega : (0 : Int) < ((blkL x s r).length : Int)), decide_eq_true (by omega : ((blkL x s r).length : Int) < (x.codes.length : Int)), Bool.and_self, Bool.and_true]

theorem okP_out {x : Sgr} {s r : Lab} (hw : withinB ((blkL x s r).length : Int) 1 ((x.codes.length : Int) - 1) = false) : okP x s r = false := by
  unfold withinB at hw
  rw [okP]
  rw [Bool.eq_false_iff] at hw ⊢
  intro h
  apply hw
  simp only [Bool.and_eq_true, decide_eq_true_iff] at h ⊢
  omega

end Go.AM
