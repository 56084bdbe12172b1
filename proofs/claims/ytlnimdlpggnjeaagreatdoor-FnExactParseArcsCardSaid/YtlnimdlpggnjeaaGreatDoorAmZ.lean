/-
  The abstract machine, part Z: a box whose cells are data is opened; the header of an own slice gets a name.
-/
import Derived.Test.YtlnimdlpggnjeaaGreatDoorAmY
namespace Go.AM

def St.opened (α : St) (id n : Nat) (cs : List D) : St := α.upd { set := (id, .box (imps n cs).1) :: (imps n cs).2.1 }

theorem open_R {c : Ctx} {α : St} {a : Act} {w : World} (id n : Nat) {cs : List D} (ho : α.ob id = some (.boxd cs)) (hf : freshB ((imps n cs).2.1.map Prod.fst) α = true) (hnd : nodupB ((imps n cs).2.1.map Prod.fst) = true)
    (hR : R c α a w) : R c (α.opened id n cs) a w := by
  obtain ⟨β, φ, H⟩ := hR
  have hfr := freshB_spec hf
  have hid := (α.ob_ids ho).1
  have hbx := H.objs id _ ho
  have hFn := H.nodup id _ ho
  rw [OR, DR] at hbx
  obtain ⟨_, g, e, ys, F1, hv, hheap, hF, hds⟩ := hbx
  rw [hF, List.nodup_cons] at hFn
  obtain ⟨hs, i1, i2⟩ := imps_sound (n := n) hds
  obtain ⟨β', φ', p1, p2, p3, p4⟩ := i1.place (nodupB_spec hnd) hFn.2 β φ
  have hnid : id ∉ (imps n cs).2.1.map Prod.fst := fun hm => hfr id hm hid
  let φ2 : Nat → List Nat := fun i => if i = id then [g] else φ' i
  let U : Upd := { set := (id, .box (imps n cs).1) :: (imps n cs).2.1 }
  have hne : ∀ i o, (i, o) ∈ (imps n cs).2.1 → i ≠ id := fun i o hi e => hnid (e ▸ List.mem_map.2 ⟨_, hi, rfl⟩)
  have q1 : φ2 id = [g] := by simp [φ2]
  have q2 : ∀ i, i ≠ id → φ2 i = φ' i := fun i hi => by simp [φ2, hi]
  have b2 : ∀ i ∈ α.ids, β' i = β i := fun i hi => (p1 i (fun hm => hfr i hm hi)).1
  have hin : ∀ i o, (i, o) ∈ U.set → ∀ b ∈ φ2 i, b ∈ φ id := by
    intro i o hi b hb
    rcases List.mem_cons.1 hi with hi | hi
    · cases hi; rw [q1] at hb; rw [hF]; simp at hb; subst hb; simp
    · rw [q2 i (hne i o hi)] at hb; rw [hF]; exact List.mem_cons_of_mem _ ((p3 i o hi).2.2 b hb)
  have hless : ∀ b, Sof c (α.upd U) φ2 b → Sof c α φ b := by
    rintro b (hb | ⟨i, o, hi, hb⟩)
    · exact .inl hb
    · rcases Upd.ob_cases hi with hset | ⟨hi', _, hns⟩
      · exact .inr ⟨id, _, ho, hin i o hset b hb⟩
      · have e1 : i ≠ id := fun e => hns (.box (imps n cs).1) (by rw [e]; exact List.mem_cons_self)
        have e2 : i ∉ (imps n cs).2.1.map Prod.fst := by
          intro hm
          obtain ⟨⟨j, o'⟩, hj, rfl⟩ := List.mem_map.1 hm
          exact hns o' (List.mem_cons_of_mem _ hj)
        rw [q2 i e1, (p1 i e2).2] at hb
        exact .inr ⟨i, o, hi', hb⟩
  have hag : ∀ F, Agree (Sof c α φ) F w w := fun F => ⟨fun _ _ _ => rfl, Nat.le_refl _⟩
  have hok : StepOK c α w β φ U w β' φ2 := by
    refine ⟨rfl, rfl, rfl, Nat.le_refl _, fun _ _ _ => rfl, fun _ _ _ => rfl, b2, ?_, ?_, ?_, ?_, ?_⟩
    · intro i o hi hns
      have e1 : i ≠ id := fun e => hns (.box (imps n cs).1) (by rw [e]; exact List.mem_cons_self)
      have e2 : i ∉ (imps n cs).2.1.map Prod.fst := by
        intro hm
        obtain ⟨⟨j, o'⟩, hj, rfl⟩ := List.mem_map.1 hm
        exact hns o' (List.mem_cons_of_mem _ hj)
      rw [q2 i e1, (p1 i e2).2]
    · intro i o hi _
      rcases List.mem_cons.1 hi with hi | hi
      · cases hi
        rw [q1, b2 _ hid]
        refine ⟨g, e, ys, hv, hheap, ?_, rfl⟩
        exact VRs.move (hag _) (fun b hb => .inl (hless b hb)) (fun _ _ => rfl) (i2 β' p2)
      · rw [q2 i (hne i o hi)]
        obtain ⟨⟨d, hdat, hd⟩, _, _⟩ := p3 i o hi
        exact (Ob.dat_or hdat).2 (DR.less (fun b _ hb => hless b hb) hd)
    · intro i o hi
      rcases List.mem_cons.1 hi with hi | hi
      · cases hi; rw [q1]; simp
      · rw [q2 i (hne i o hi)]; exact (p3 i o hi).2.1
    · intro i k oi ok hi hk hik b hb hb2
      rcases List.mem_cons.1 hi with hi | hi <;> rcases List.mem_cons.1 hk with hk | hk
      · cases hi; cases hk; exact hik rfl
      · cases hi
        rw [q1] at hb; rw [q2 k (hne k ok hk)] at hb2
        simp at hb; subst hb
        exact hFn.1 ((p3 k ok hk).2.2 _ hb2)
      · cases hk
        rw [q1] at hb2; rw [q2 i (hne i oi hi)] at hb
        simp at hb2; subst hb2
        exact hFn.1 ((p3 i oi hi).2.2 _ hb)
      · rw [q2 i (hne i oi hi)] at hb; rw [q2 k (hne k ok hk)] at hb2
        exact p4 i k oi ok hi hk hik b hb hb2
    · intro i o hi b hb
      exact .inr ⟨id, _, ho, hin i o hi b hb, .inr ⟨_, List.mem_cons_self⟩⟩
  have := H.step hok none (by simp) .junk undef (by rw [VR]; trivial)
  exact ⟨β', φ2, this⟩

theorem T_open {P : Program} {c : Ctx} {x : Code} {Q : Exit → St → Prop} {α : St} (id n : Nat) {cs : List D} (ho : α.ob id = some (.boxd cs)) (hf : freshB ((imps n cs).2.1.map Prod.fst) α = true) (hnd : nodupB ((imps n cs).2.1.map Prod.fst) = true)
    (h : T P c x Q (α.opened id n cs)) : T P c x Q α := fun a w hR => h a w (open_R id n ho hf hnd hR)

theorem Ch.opens {P : Program} {all : Array Oper} {K : St → Prop} {l : List Oper} {α : St} (id n : Nat) {cs : List D} (ho : α.ob id = some (.boxd cs)) (hf : freshB ((imps n cs).2.1.map Prod.fst) α = true) (hnd : nodupB ((imps n cs).2.1.map Prod.fst) = true)
    (h : Ch P all K l (α.opened id n cs)) : Ch P all K l α := .ghost (ι := Unit) (fun _ => α.opened id n cs) (fun _ _ _ hR => ⟨(), open_R id n ho hf hnd hR⟩) (fun _ => h)

def St.headed (α : St) (id m : Nat) (u : Value) : St := α.upd { set := [(m, .head id u)], new := [m] }

theorem head_Rel {c : Ctx} {α : St} {a : Act} {w : World} {β φ} (id m : Nat) {sz : Nat} {xs : List D} (ho : α.ob id = some (.row sz xs)) (hm : m ∉ α.ids) (H : Rel c α a w β φ) : R c (α.headed id m (β id)) a w := by
  have hid := (α.ob_ids ho).1
  have hne : ∀ i ∈ α.ids, i ≠ m := fun i hi e => hm (e ▸ hi)
  let U : Upd := { set := [(m, .head id (β id))], new := [m] }
  let φ' : Nat → List Nat := fun i => if i = m then [] else φ i
  have hless : ∀ b, Sof c (α.upd U) φ' b → Sof c α φ b := by
    rintro b (hb | ⟨i, o, hi, hb⟩)
    · exact .inl hb
    · rcases Upd.ob_cases hi with hset | ⟨hi', _, hns⟩
      · simp [U] at hset
        obtain ⟨rfl, rfl⟩ := hset
        simp [φ'] at hb
      · have e1 : i ≠ m := fun e => hns (.head id (β id)) (by simp [U, e])
        simp [φ', e1] at hb
        exact .inr ⟨i, o, hi', hb⟩
  have hok : StepOK c α w β φ U w β φ' := by
    refine ⟨rfl, rfl, rfl, Nat.le_refl _, fun _ _ _ => rfl, fun _ _ _ => rfl, fun _ _ => rfl, ?_, ?_, ?_, ?_, ?_⟩
    · intro i o hi _
      have e1 := hne i (α.ob_ids hi).1
      simp [φ', e1]
    · intro i o hi _
      simp [U] at hi
      obtain ⟨rfl, rfl⟩ := hi
      exact ⟨rfl, by simp [φ']⟩
    · intro i o hi
      simp [U] at hi
      obtain ⟨rfl, rfl⟩ := hi
      simp [φ']
    · intro i k oi ok hi hk hik
      simp [U] at hi hk
      exact absurd (hi.1.trans hk.1.symm) hik
    · intro i o hi b hb
      simp [U] at hi
      obtain ⟨rfl, rfl⟩ := hi
      simp [φ'] at hb
  have := H.step hok none (by simp) .junk undef (by rw [VR]; trivial)
  exact ⟨β, φ', this⟩

theorem T_head {P : Program} {c : Ctx} {x : Code} {Q : Exit → St → Prop} {α : St} (id m : Nat) {sz : Nat} {xs : List D} (ho : α.ob id = some (.row sz xs)) (hf : freshB [m] α = true) (h : ∀ u, T P c x Q (α.headed id m u)) : T P c x Q α := by
  rintro a w ⟨β, φ, H⟩
  exact h _ a w (head_Rel id m ho (freshB_spec hf m (by simp)) H)

theorem set_same {a : Array Value} {s : Nat} (h : s < a.size) : a.setIfInBounds s (a.getD s undef) = a := by
  apply Array.ext_getElem?
  intro i
  by_cases hi : s = i
  · subst hi; simp [h]
  · rw [Array.getElem?_setIfInBounds_ne hi]

def St.ghosted (α : St) (m : Nat) (d : D) (u : Value) : St := α.upd { set := [(m, .ghost d u)], new := [m] }

theorem ghost_Rel {c : Ctx} {α : St} {a : Act} {w : World} {β φ} (m : Nat) {d : D} {u : Value} (hm : m ∉ α.ids) (hd : DR (Sof c α φ) w d u []) (H : Rel c α a w β φ) : ∃ φ', Rel c (α.ghosted m d u) a w β φ' ∧ ∀ b, Sof c (α.ghosted m d u) φ' b → Sof c α φ b := by
  have hne : ∀ i ∈ α.ids, i ≠ m := fun i hi e => hm (e ▸ hi)
  let U : Upd := { set := [(m, .ghost d u)], new := [m] }
  let φ' : Nat → List Nat := fun i => if i = m then [] else φ i
  have hless : ∀ b, Sof c (α.upd U) φ' b → Sof c α φ b := by
    rintro b (hb | ⟨i, o, hi, hb⟩)
    · exact .inl hb
    · rcases Upd.ob_cases hi with hset | ⟨hi', _, hns⟩
      · simp [U] at hset
        obtain ⟨rfl, rfl⟩ := hset
        simp [φ'] at hb
      · have e1 : i ≠ m := fun e => hns (.ghost d u) (by simp [U, e])
        simp [φ', e1] at hb
        exact .inr ⟨i, o, hi', hb⟩
  have hok : StepOK c α w β φ U w β φ' := by
    refine ⟨rfl, rfl, rfl, Nat.le_refl _, fun _ _ _ => rfl, fun _ _ _ => rfl, fun _ _ => rfl, ?_, ?_, ?_, ?_, ?_⟩
    · intro i o hi _
      have e1 := hne i (α.ob_ids hi).1
      simp [φ', e1]
    · intro i o hi _
      simp [U] at hi
      obtain ⟨rfl, rfl⟩ := hi
      exact ⟨DR.less (fun b _ hb => hless b hb) hd, by simp [φ']⟩
    · intro i o hi
      simp [U] at hi
      obtain ⟨rfl, rfl⟩ := hi
      simp [φ']
    · intro i k oi ok hi hk hik
      simp [U] at hi hk
      exact absurd (hi.1.trans hk.1.symm) hik
    · intro i o hi b hb
      simp [U] at hi
      obtain ⟨rfl, rfl⟩ := hi
      simp [φ'] at hb
  have := H.step hok none (by simp) .junk undef (by rw [VR]; trivial)
  exact ⟨φ', this, hless⟩

theorem T_name {P : Program} {c : Ctx} {x : Code} {Q : Exit → St → Prop} {α : St} (s m : Nat) {d : D} (hs : α.get s = .d d) (h1 : d.one = true) (hsn : Nat.blt s α.n = true) (hf : freshB [m] α = true) (h : ∀ u, T P c x Q ((α.ghosted m d u).put (some s) (.d (.hole u)))) : T P c x Q α := by
  rintro a w ⟨β, φ, H⟩
  have hv := H.slots s
  rw [hs, VR] at hv
  obtain ⟨φ', H', _⟩ := ghost_Rel m (freshB_spec hf m (by simp)) hv H
  have hlt : s < a.tmps.size := by rw [H.size]; exact Nat.le_of_ble_eq_true hsn
  have h2 := H'.pure (some s) (fun d hd => by cases hd; exact Nat.le_of_ble_eq_true hsn) (.d (.hole (a.tmps.getD s undef))) (a.tmps.getD s undef) (by rw [VR, DR]; exact ⟨⟨rfl, cells_of_one h1 hv⟩, rfl⟩)
  have e : a.put (some s) (a.tmps.getD s undef) = a := by
    unfold Act.put
    cases a with
    | mk tmps defers =>
      simp only [Act.mk.injEq, and_true]
      exact set_same hlt
  rw [e] at h2
  exact h _ a w ⟨β, φ', h2⟩

theorem see_R {c : Ctx} {α : St} {a : Act} {w : World} (s m : Nat) {d : D} {u : Value} (hs : α.get s = .d (.hole u)) (hm : α.ob m = some (.ghost d u)) (hsn : Nat.blt s α.n = true) (hR : R c α a w) : R c (α.put (some s) (.d d)) a w := by
  obtain ⟨β, φ, H⟩ := hR
  have hv := H.slots s
  rw [hs, VR, DR] at hv
  have hg := (H.objs m _ hm).1
  have hlt : s < a.tmps.size := by rw [H.size]; exact Nat.le_of_ble_eq_true hsn
  have h2 := H.pure (some s) (fun d hd => by cases hd; exact Nat.le_of_ble_eq_true hsn) (.d d) (a.tmps.getD s undef) (by rw [VR, hv.1.1]; exact hg)
  have e : a.put (some s) (a.tmps.getD s undef) = a := by
    unfold Act.put
    cases a with
    | mk tmps defers =>
      simp only [Act.mk.injEq, and_true]
      exact set_same hlt
  rw [e] at h2
  exact ⟨β, φ, h2⟩
theorem Ch.see {P : Program} {all : Array Oper} {K : St → Prop} {l : List Oper} {α : St} (s m : Nat) {d : D} {u : Value} (hs : α.get s = .d (.hole u)) (hm : α.ob m = some (.ghost d u)) (hsn : Nat.blt s α.n = true) (h : Ch P all K l (α.put (some s) (.d d))) : Ch P all K l α :=
  .ghost (ι := Unit) (fun _ => α.put (some s) (.d d)) (fun _ _ _ hR => ⟨(), see_R s m hs hm hsn hR⟩) (fun _ => h)

def St.gs (α : St) : List Nat → List D → List Value → St
  | m :: ms, d :: ds, u :: us => (α.ghosted m d u).gs ms ds us
  | _, _, _ => α
def freshGs (α : St) : List Nat → List D → List Value → Bool
  | m :: ms, d :: ds, u :: us => freshB [m] α && freshGs (α.ghosted m d u) ms ds us
  | _, _, _ => true
theorem gs_Rel {c : Ctx} {a : Act} {w : World} : ∀ {ms : List Nat} {ds : List D} {us : List Value} {α : St} {β φ}, freshGs α ms ds us = true → (∀ b, Sof c α φ b → c.S b) → DRs c.S w ds us [] → Rel c α a w β φ → R c (α.gs ms ds us) a w
  | m :: ms, d :: ds, u :: us, α, β, φ, hf, hs, hd, H => by
    rw [freshGs, Bool.and_eq_true] at hf
    rw [DRs] at hd
    obtain ⟨v, vs, F1, F2, he, hF, h1, h2⟩ := hd
    cases he
    obtain ⟨rfl, rfl⟩ := List.append_eq_nil_iff.1 hF.symm
    obtain ⟨φ', H', hs'⟩ := ghost_Rel m (freshB_spec hf.1 m (by simp)) (DR.less (fun b _ hb => hs b hb) h1) H
    rw [St.gs]
    exact gs_Rel hf.2 (fun b hb => hs b (hs' b hb)) h2 H'
  | [], _, _, _, _, _, _, _, _, H => ⟨_, _, H⟩
  | _ :: _, [], _, _, _, _, _, _, _, H => ⟨_, _, H⟩
  | _ :: _, _ :: _, [], _, _, _, _, _, _, H => ⟨_, _, H⟩
theorem SpG_intro {P : Program} {f : FuncId} {fn : Func} {body : Code} (hf : P.funcs[f]? = some fn) (hb : fn.body = some body) {ds ds' : List D} {r : D} {gds : List D} {us : List Value} (ms : List Nat)
    (hlen : Nat.ble ds.length fn.ntmps = true) (hids : nodupB ((imps 1 ds).2.1.map Prod.fst) = true) (hfm : freshGs (startSt fn.ntmps ds) ms gds us = true)
    (h : ∀ c, CtxOK c → T P c body (fun e α => (e = .normal ∨ e = .ret) ∧ Ret P fn.results.toList (imps 1 ds).1 ds' r false α) ((startSt fn.ntmps ds).gs ms gds us)) : SpQ (fun S w _ => DRs S w gds us []) P f ds ds' r :=
  Sp_introQ (lend := false) (α0 := (startSt fn.ntmps ds).gs ms gds us) hf hb hlen hids (fun h => nomatch h) (fun _ _ _ _ _ _ H hsub hQ _ => gs_Rel hfm hsub hQ H) (fun c hc _ => h c hc)

theorem Wk.opens {c : Ctx} {α : St} (id n : Nat) {cs : List D} (ho : α.ob id = some (.boxd cs)) (hf : freshB ((imps n cs).2.1.map Prod.fst) α = true) (hnd : nodupB ((imps n cs).2.1.map Prod.fst) = true) : Wk c α (α.opened id n cs) := fun _ _ hR => open_R id n ho hf hnd hR

theorem SpU_intro {P : Program} {f : FuncId} {fn : Func} {body : Code} (hf : P.funcs[f]? = some fn) (hb : fn.body = some body) {sz : Nat} {xs : List D} {ds ds' : List D} {r : D} {u : Value} (m : Nat)
    (hlen : Nat.ble (D.slice true sz xs :: ds).length fn.ntmps = true) (hids : nodupB ((imps 1 (.slice true sz xs :: ds)).2.1.map Prod.fst) = true) (hfm : freshB [m] (startSt fn.ntmps (.slice true sz xs :: ds)) = true)
    (h : ∀ c, CtxOK c → T P c body (fun e α => (e = .normal ∨ e = .ret) ∧ Ret P fn.results.toList (imps 1 (.slice true sz xs :: ds)).1 ds' r false α) ((startSt fn.ntmps (.slice true sz xs :: ds)).headed 1 m u)) :
    SpQ (fun _ _ vs => vs.head? = some u) P f (.slice true sz xs :: ds) ds' r := by
  refine Sp_introQ (lend := false) (α0 := (startSt fn.ntmps (.slice true sz xs :: ds)).headed 1 m u) hf hb hlen hids (fun h => nomatch h) ?_ (fun c hc _ => h c hc)
  intro c a w β φ vs H _ hQ hfirst
  have h0 := H.slots 0
  have hg : (startSt fn.ntmps (.slice true sz xs :: ds)).get 0 = .row 1 := rfl
  rw [hg, VR] at h0
  have hu : β 1 = u := by
    rw [← h0.1, ← hfirst]
    cases vs with
    | nil => cases hQ
    | cons v vs => simpa using hQ
  have := head_Rel 1 m (sz := sz) (xs := xs) rfl (freshB_spec hfm m (by simp)) H
  rwa [hu] at this

theorem Ch.heads {P : Program} {all : Array Oper} {K : St → Prop} {l : List Oper} {α : St} (id m : Nat) {sz : Nat} {xs : List D} (ho : α.ob id = some (.row sz xs)) (hf : freshB [m] α = true) (h : ∀ u, Ch P all K l (α.headed id m u)) : Ch P all K l α :=
  .ghost (ι := Value) (fun u => α.headed id m u) (fun _ _ _ ⟨β, _, H⟩ => ⟨β id, head_Rel id m ho (freshB_spec hf m (by simp)) H⟩) h

theorem sp_keepRow {τ : Type} [Inhabited τ] {enc : τ → Value} {f : τ → D} (h : EncD enc f) {P : Program} {fn : FuncId} {u : Value} (xs : List τ)
    (h0 : ∀ (p : Option Addr) (cap : Nat) (w : World), Calls P fn #[Value.slice p 0 cap] w fun e w' => e = .returned (.slice p 0 cap) ∧ w' = w)
    (h1 : ∀ (blk cap : Nat) (w : World), Sort.Holds enc w blk 0 xs.toArray → xs.length ≤ cap → cap ≤ 9223372036854775807 →
      Calls P fn #[Value.slice (some ⟨blk, 0, none⟩) xs.length cap] w fun e w' => e = .returned (.slice (some ⟨blk, 0, none⟩) xs.length cap) ∧ ∃ q, w' = Sort.putRow enc (Sort.ahead w q) blk 0 xs.toArray) :
    SpQ (fun _ _ vs => vs.head? = some u) P fn [.slice true 1 (xs.map f)] [.slice true 1 (xs.map f)] (.hole u) := by
  intro S w vs Fs hQ hSlt hdr hnd hFS
  rw [DRs] at hdr
  obtain ⟨v1, vs1, F1, F2, rfl, rfl, d1, d2⟩ := hdr
  rw [DRs] at d2
  obtain ⟨rfl, rfl⟩ := d2
  obtain rfl : v1 = u := by simpa using hQ
  have d1' := d1
  rw [DR] at d1
  obtain ⟨us, G1, G2, rfl, ho, hd, _, _⟩ := d1
  obtain ⟨rfl, rfl⟩ := h.rds.1 hd
  rw [List.length_map] at ho
  rcases ho with ⟨⟨a0, rfl⟩, hl, _, rfl⟩ | ⟨g, c, cur, e, fr, rfl, ⟨h2, h2b⟩, h3, hf, h5, h6, h7, rfl⟩
  · obtain rfl : xs = [] := List.eq_nil_of_length_eq_zero hl
    refine (h0 a0 0 w).mono fun e w' ⟨he, hw⟩ => ?_
    subst hw; subst he
    refine ⟨_, [], [], rfl, ?_, ?_, by simp, by simp, Keep.refl _ _⟩
    · rw [DRs]; exact ⟨_, [], [], [], rfl, rfl, by rw [List.map_nil]; exact empty_reads 1 _, by rw [DRs]; exact ⟨rfl, rfl⟩⟩
    · rw [DR]; exact ⟨⟨rfl, rfl, rfl⟩, rfl⟩
  · rw [h.flat] at h7
    refine (h1 g c w (own_holds h3 hf h5 h2 h7) h2 h2b).mono fun e' w' ⟨he, q, hw⟩ => ?_
    subst hw; subst he
    obtain ⟨k1, k2⟩ := own_put (S := fun b => S b ∨ b ∈ [g] ++ []) h h3 hf h5 q #[] xs xs.length (Nat.le_refl _) (by omega) h2b
    rw [Sort.grow_empty] at k1 k2
    rw [List.take_length] at k1
    refine ⟨_, [], [g], rfl, ?_, ?_, by simp, fun b hb => .inl (by simpa using hb), by simpa using k2⟩
    · rw [DRs]; exact ⟨_, [], [g], [], rfl, rfl, k1, by rw [DRs]; exact ⟨rfl, rfl⟩⟩
    · rw [DR]; exact ⟨⟨rfl, rfl, rfl⟩, rfl⟩

theorem get_setM {τ : Type} [Inhabited τ] {f : τ → D} {l : List τ} {i j : Nat} {v : τ} (h : j < l.length) : ((l.map f).set i (f v))[j]? = some (f ((l.set i v).getD j default)) := by
  rw [← List.map_set]
  exact get_map f (by rw [List.length_set]; exact h)
theorem get_last {l : List D} {a : D} {j : Nat} (h : l.length = j) : (l ++ [a])[j]? = some a := by subst h; simp
theorem set_last {l : List D} {a b : D} {j : Nat} (h : l.length = j) : (l ++ [a]).set j b = l ++ [b] := by subst h; simp

theorem Ev.callFz {P : Program} {ρ : Operand → V} {h : Nat → Option Ob} {o : Oper} (n : Nat) (f fx args ats) {caps ds ds' r r'} (he : Enters P f) (ho : o.op = .call { callee := .value fx, args := args, argTypes := ats }) (hf : FnV (ρ fx) f caps) (hx : Exps h h (args.toList.map ρ ++ caps) ds [])
    (hsolid : r.solid = true) (hsp : Sp P f ds ds' r) (hfz : r.froz = r') (hnew : (imp n r').2.1 = []) : Ev P ρ h o (imp n r').1 {} := by
  subst hfz; exact .callF n f fx args ats he ho hf hx hsolid hsp hnew
theorem tup_froz {cs ds : List D} (h : frozs cs = ds) : (D.tup cs).froz = .tup ds := by rw [D.froz, h]

theorem Wk.share {c : Ctx} {α : St} (hc : CtxOK c) (hX : c.X = []) (s id sz : Nat) {xs ys : List D} (hs : α.get s = .row id) (ho : α.ob id = some (.row sz xs)) (hy : frozs xs = ys) :
    Wk c α { α with sl := (s, .d (.slice false sz ys)) :: α.sl, hp := (id, none) :: α.hp } := by
  subst hy
  rintro a w ⟨β, φ, H⟩
  have hget : ∀ i o, look none ((id, none) :: α.hp) i = some o → i ≠ id ∧ α.ob i = some o := by
    intro i o h
    rw [look_cons] at h
    by_cases e : id = i
    · rw [if_pos e] at h; cases h
    · rw [if_neg e] at h; exact ⟨Ne.symm e, h⟩
  have hless : ∀ b, Sof c { α with sl := (s, .d (.slice false sz (frozs xs))) :: α.sl, hp := (id, none) :: α.hp } φ b → Sof c α φ b ∧ b ∉ φ id := by
    rintro b (hb | ⟨i, o, hi, hb⟩)
    · refine ⟨.inl hb, fun hm => ?_⟩
      rcases H.mine id _ ho b hm with h1 | h1
      · have := hc b hb; omega
      · rw [hX] at h1; exact absurd h1 List.not_mem_nil
    · obtain ⟨hne, hi'⟩ := hget i o hi
      exact ⟨.inr ⟨i, o, hi', hb⟩, H.apart i id o _ hi' ho hne b hb⟩
  have hag : ∀ F, Agree (Sof c α φ) F w w := fun F => ⟨fun _ _ _ => rfl, Nat.le_refl _⟩
  refine ⟨β, φ, H.defers, H.size, ?_, ?_, fun i o h => H.nodup i o (hget i o h).2, fun i j oi oj hi hj => H.apart i j oi oj (hget i oi hi).2 (hget j oj hj).2, fun i o h => H.mine i o (hget i o h).2, H.keep, H.heads⟩
  · intro i
    show VR _ w β (look .junk ((s, V.d (.slice false sz (frozs xs))) :: α.sl) i) _
    rw [look_cons]
    by_cases e : s = i
    · rw [if_pos e]
      subst e
      have h1 := H.slots s
      rw [hs, VR] at h1
      have h2 := H.objs id _ ho
      rw [VR, h1.1]
      exact DR.froz (d := .slice true sz xs) (fun b _ hb => hless b hb) h2
    · rw [if_neg e]
      exact (H.slots i).move (hag _) (fun b hb => .inl (hless b hb).1) (fun _ _ => rfl)
  · intro i o h
    exact (H.objs i o (hget i o h).2).move (hag _) (fun b hb => .inl (hless b hb).1) (fun _ _ => rfl)

end Go.AM
