/-
  The abstract machine, part K: contracts, and calls by contract.
-/
import Derived.Test.YtlnimdlpggnjeaaGreatDoorAmJ
namespace Go.AM

def Sp (P : Program) (f : FuncId) (ds ds' : List D) (r : D) : Prop :=
  ∀ (S : Nat → Prop) (w : World) (vs : List Value) (Fs : List Nat), (∀ b, S b → b < w.heap.size) → DRs S w ds vs Fs → Fs.Nodup → (∀ b ∈ Fs, S b) →
    Calls P f vs.toArray w fun e w' => ∃ v F Fs', e = .returned v ∧ DRs (fun b => S b ∨ b ∈ Fs' ++ F) w' ds' vs Fs' ∧ DR (fun b => S b ∨ b ∈ Fs' ++ F) w' r v F ∧
      (Fs' ++ F).Nodup ∧ (∀ b ∈ Fs' ++ F, b ∈ Fs ∨ w.heap.size ≤ b) ∧ Keep Fs w w'

def SpQ (Q : (Nat → Prop) → World → List Value → Prop) (P : Program) (f : FuncId) (ds ds' : List D) (r : D) : Prop :=
  ∀ (S : Nat → Prop) (w : World) (vs : List Value) (Fs : List Nat), Q S w vs → (∀ b, S b → b < w.heap.size) → DRs S w ds vs Fs → Fs.Nodup → (∀ b ∈ Fs, S b) →
    Calls P f vs.toArray w fun e w' => ∃ v F Fs', e = .returned v ∧ DRs (fun b => S b ∨ b ∈ Fs' ++ F) w' ds' vs Fs' ∧ DR (fun b => S b ∨ b ∈ Fs' ++ F) w' r v F ∧
      (Fs' ++ F).Nodup ∧ (∀ b ∈ Fs' ++ F, b ∈ Fs ∨ w.heap.size ≤ b) ∧ Keep Fs w w'
theorem Sp.q {P f ds ds' r} (h : Sp P f ds ds' r) : SpQ (fun _ _ _ => True) P f ds ds' r := fun S w vs Fs _ => h S w vs Fs

def FnV (v : V) (f : FuncId) (caps : List V) : Prop := v = .fn f caps ∨ ∃ cs, v = .d (.fn f cs) ∧ caps = cs.map .d

theorem VRs_ds {S : Nat → Prop} {w : World} {β : Nat → Value} : ∀ {cs : List D} {vs : List Value}, DRs S w cs vs [] → VRs S w β (cs.map .d) vs
  | [], vs, h => by rw [DRs] at h; rw [List.map_nil, VRs]; exact h.1
  | d :: cs, vs, h => by
    rw [DRs] at h
    obtain ⟨v, vs', F1, F2, rfl, hF, h1, h2⟩ := h
    obtain ⟨rfl, rfl⟩ := List.append_eq_nil_iff.1 hF.symm
    rw [List.map_cons, VRs]
    exact ⟨v, vs', rfl, by rw [VR]; exact h1, VRs_ds h2⟩

theorem FnV.sound {S : Nat → Prop} {w : World} {β : Nat → Value} {v : V} {f : FuncId} {caps : List V} {x : Value} (h : FnV v f caps) (hr : VR S w β v x) : ∃ cvs, x = .func (.func f) #[] (List.toArray cvs) ∧ VRs S w β caps cvs := by
  rcases h with rfl | ⟨cs, rfl, rfl⟩
  · rw [VR] at hr; exact hr
  · rw [VR, DR] at hr
    obtain ⟨_, vs, h1, h2⟩ := hr
    exact ⟨vs, h1, VRs_ds h2⟩

inductive Back : List V → List D → List (Nat × Ob) → Prop
  | nil : Back [] [] []
  | skip (v : V) (d : D) {vs ds sets} (r : Back vs ds sets) : Back (v :: vs) (d :: ds) sets
  | row (id sz : Nat) (xs : List D) {vs ds sets} (r : Back vs ds sets) : Back (.row id :: vs) (.slice true sz xs :: ds) ((id, .row sz xs) :: sets)
  | box (id : Nat) (cs : List D) {vs ds sets} (r : Back vs ds sets) : Back (.ptr id 0 :: vs) (.box cs :: ds) ((id, .boxd cs) :: sets)
  | agg {us es sets1} (h : Back us es sets1) {vs ds sets} (r : Back vs ds sets) : Back (.agg us :: vs) (.agg es :: ds) (sets1 ++ sets)

theorem Back.sound {S S' : Nat → Prop} {w w' : World} {β : Nat → Value} : ∀ {vs ds sets}, Back vs ds sets → ∀ {xs F}, VRs S w β vs xs → DRs S' w' ds xs F → ∃ hs F', Held S' w' sets hs F' ∧ Heads β sets hs ∧ F'.Sublist F
  | _, _, _, .nil, xs, F, hv, hd => ⟨[], [], .nil, ⟨rfl, by simp⟩, List.nil_sublist _⟩
  | _, _, _, .skip v d r, xs, F, hv, hd => by
    rw [VRs] at hv; rw [DRs] at hd
    obtain ⟨x, xs', rfl, h1, h2⟩ := hv
    obtain ⟨y, ys, F1, F2, he, rfl, h3, h4⟩ := hd
    cases he
    obtain ⟨hs, F', g1, g2, g3⟩ := Back.sound r h2 h4
    exact ⟨hs, F', g1, g2, g3.trans (List.sublist_append_right _ _)⟩
  | _, _, _, .row id sz zs r, xs, F, hv, hd => by
    rw [VRs] at hv; rw [DRs] at hd
    obtain ⟨x, xs', rfl, h1, h2⟩ := hv
    obtain ⟨y, ys, F1, F2, he, rfl, h3, h4⟩ := hd
    cases he
    obtain ⟨hs, F', g1, g2, g3⟩ := Back.sound r h2 h4
    rw [VR] at h1
    refine ⟨(x, F1) :: hs, F1 ++ F', .cons x (by rfl) h3 g1, ⟨by simp [g2.1], ?_⟩, List.Sublist.append (List.Sublist.refl _) g3⟩
    intro p hp
    rcases List.mem_cons.1 hp with rfl | hp
    · exact h1.1.symm
    · exact g2.2 p hp
  | _, _, _, .box id cs r, xs, F, hv, hd => by
    rw [VRs] at hv; rw [DRs] at hd
    obtain ⟨x, xs', rfl, h1, h2⟩ := hv
    obtain ⟨y, ys, F1, F2, he, rfl, h3, h4⟩ := hd
    cases he
    obtain ⟨hs, F', g1, g2, g3⟩ := Back.sound r h2 h4
    rw [VR] at h1
    obtain ⟨g, e1, e2⟩ := h1
    refine ⟨(x, F1) :: hs, F1 ++ F', .cons x (by rfl) h3 g1, ⟨by simp [g2.1], ?_⟩, List.Sublist.append (List.Sublist.refl _) g3⟩
    intro p hp
    rcases List.mem_cons.1 hp with rfl | hp
    · exact e1.trans e2.symm
    · exact g2.2 p hp
  | _, _, _, .agg h r, xs, F, hv, hd => by
    rw [VRs] at hv; rw [DRs] at hd
    obtain ⟨x, xs', rfl, h1, h2⟩ := hv
    obtain ⟨y, ys, F1, F2, he, rfl, h3, h4⟩ := hd
    cases he
    rw [VR] at h1; rw [DR] at h3
    obtain ⟨us, rfl, h5⟩ := h1
    obtain ⟨_, us', he, h6⟩ := h3
    have : us' = us := by simpa using (Value.agg.inj he).symm
    subst this
    obtain ⟨hs1, F1', k1, k2, k3⟩ := Back.sound h h5 h6
    obtain ⟨hs, F', g1, g2, g3⟩ := Back.sound r h2 h4
    refine ⟨hs1 ++ hs, F1' ++ F', k1.append g1, ⟨by simp [k2.1, g2.1], ?_⟩, List.Sublist.append k3 g3⟩
    intro p hp
    rw [List.zip_append k2.1] at hp
    rcases List.mem_append.1 hp with hp | hp
    · exact k2.2 p hp
    · exact g2.2 p hp

theorem Held.place {S : Nat → Prop} {w : World} {l : List (Nat × Ob)} {hs F} (hl : Held S w l hs F) (hn : (l.map Prod.fst).Nodup) (hF : F.Nodup) (β : Nat → Value) (φ : Nat → List Nat) :
    ∃ (β' : Nat → Value) (φ' : Nat → List Nat), (∀ id, id ∉ l.map Prod.fst → β' id = β id ∧ φ' id = φ id) ∧ Heads β' l hs ∧
      (∀ id o, (id, o) ∈ l → (∃ d, o.dat = some d ∧ DR S w d (β' id) (φ' id)) ∧ (φ' id).Nodup ∧ ∀ b ∈ φ' id, b ∈ F) ∧
      (∀ i j oi oj, (i, oi) ∈ l → (j, oj) ∈ l → i ≠ j → ∀ b ∈ φ' i, b ∉ φ' j) := by
  induction hl with
  | nil => exact ⟨β, φ, fun _ _ => ⟨rfl, rfl⟩, ⟨rfl, by simp⟩, by simp, by simp⟩
  | @cons id o d l hs F F' v hdat h r ih =>
    rw [List.map_cons, List.nodup_cons] at hn
    rw [List.nodup_append] at hF
    obtain ⟨β', φ', h1, h2, h3, h4⟩ := ih hn.2 hF.2.1
    have hid : ∀ o, (id, o) ∉ l := fun o ho => hn.1 (List.mem_map.2 ⟨_, ho, rfl⟩)
    refine ⟨fun i => if i = id then v else β' i, fun i => if i = id then F else φ' i, ?_, ⟨by simp [h2.1], ?_⟩, ?_, ?_⟩
    · intro i hi
      simp only [List.map_cons, List.mem_cons, not_or] at hi
      show (if i = id then v else β' i) = β i ∧ (if i = id then F else φ' i) = φ i
      rw [if_neg hi.1, if_neg hi.1]; exact h1 i hi.2
    · intro p hp
      rcases List.mem_cons.1 hp with rfl | hp
      · simp
      · have hne : p.1.1 ≠ id := fun e => hn.1 (List.mem_map.2 ⟨p.1, (List.of_mem_zip hp).1, e⟩)
        show (if p.1.1 = id then v else β' p.1.1) = _
        rw [if_neg hne]; exact h2.2 p hp
    · intro i o hio
      rcases List.mem_cons.1 hio with he | hio
      · cases he
        simp only [if_pos]
        exact ⟨⟨d, hdat, h⟩, hF.1, fun b hb => List.mem_append_left _ hb⟩
      · have hne : i ≠ id := fun e => hid o (e ▸ hio)
        simp only [if_neg hne]
        obtain ⟨g1, g2, g3⟩ := h3 i o hio
        exact ⟨g1, g2, fun b hb => List.mem_append_right _ (g3 b hb)⟩
    · intro i j oi oj hi hj hij b hb hb'
      rcases List.mem_cons.1 hi with he | hi <;> rcases List.mem_cons.1 hj with he' | hj
      · cases he; cases he'; exact hij rfl
      · cases he
        have hne : j ≠ id := fun e => hid oj (e ▸ hj)
        simp only [if_pos, if_neg hne] at hb hb'
        exact hF.2.2 b hb b ((h3 j oj hj).2.2 b hb') rfl
      · cases he'
        have hne : i ≠ id := fun e => hid oi (e ▸ hi)
        simp only [if_pos, if_neg hne] at hb hb'
        exact hF.2.2 b hb' b ((h3 i oi hi).2.2 b hb) rfl
      · have hne : j ≠ id := fun e => hid oj (e ▸ hj)
        have hne' : i ≠ id := fun e => hid oi (e ▸ hi)
        simp only [if_neg hne, if_neg hne'] at hb hb'
        exact h4 i j oi oj hi hj hij b hb hb'

def Enters (P : Program) (f : FuncId) : Prop := ∃ fn, P.funcs[f]? = some fn ∧ (fn.name == "runtime.NumGoroutine") = false ∧ fn.body.isNone = false

section
variable {P : Program} {c : Ctx} {α : St} {a : Act} {w : World} {β : Nat → Value} {φ : Nat → List Nat} {ρ : Operand → V} {h : Nat → Option Ob} {o : Oper}

theorem run_call {f : FuncId} (he : Enters P f) {fx : Operand} {args : Array Operand} {ats : Array TypeId} {cvs : List Value} (ho : o.op = .call { callee := .value fx, args := args, argTypes := ats }) (hf : a.eval fx = .func (.func f) #[] cvs.toArray) :
    (execOp a.eval o).run P w = .ok (.enter f (args.toList.map a.eval ++ cvs).toArray) w := by
  obtain ⟨fn, h1, h2, h3⟩ := he
  have harr : args.map a.eval ++ cvs.toArray = (args.toList.map a.eval ++ cvs).toArray := by
    apply Array.ext'; simp
  have h2' : ¬ fn.name = "runtime.NumGoroutine" := by simpa using h2
  have h3' : ¬ fn.body = none := fun e => by rw [e] at h3; cases h3
  simp [execOp, ho, resolve, hf, Deferred.ofValue, invoke, callFunc, h1, h2', h3', harr]

theorem goes_enter {f : FuncId} {vs : List Value} {α' : St} (hr : (execOp a.eval o).run P w = .ok (.enter f vs.toArray) w)
    (hc : Calls P f vs.toArray w fun e w' => ∃ v, e = .returned v ∧ R c α' (a.put o.dst v) w') : Goes P c o a w α' := by
  intro K Q hK
  unfold Oper.wp
  rw [hr]
  exact hc.mono fun e w' ⟨v, he, hR⟩ => by subst he; exact hK _ _ hR

theorem VRs_map (E : Env (Sof c α φ) w β φ ρ h a.eval) : ∀ (xs : List Operand), VRs (Sof c α φ) w β (xs.map ρ) (xs.map a.eval)
  | [] => by rw [List.map_nil, List.map_nil, VRs]
  | x :: xs => by rw [List.map_cons, List.map_cons, VRs]; exact ⟨_, _, rfl, E.slots x, VRs_map E xs⟩

theorem given (_H : Rel c α a w β φ) {ks : List Nat} (hks : ∀ k ∈ ks, ∃ ok, α.ob k = some ok) : ∀ b ∈ ks.flatMap φ, ∃ k ∈ ks, ∃ ok, α.ob k = some ok ∧ b ∈ φ k := by
  intro b hb
  obtain ⟨k, hk1, hm⟩ := List.mem_flatMap.1 hb
  obtain ⟨ok, hok⟩ := hks k hk1
  exact ⟨k, hk1, ok, hok, hm⟩

theorem goes_callQ (hS : ∀ b, c.S b → b < c.w0.heap.size) (H : Rel c α a w β φ) (E : Env (Sof c α φ) w β φ ρ h a.eval) (hh : ∀ id ob, h id = some ob → α.ob id = some ob) (hd : ∀ d, o.dst = some d → d < α.n)
    {f : FuncId} (he : Enters P f) {fx : Operand} {args : Array Operand} {ats : Array TypeId} {caps : List V} {ds ds' : List D} {r : D} {ks : List Nat} {hb : Nat → Option Ob} {sets : List (Nat × Ob)} {n : Nat}
    (ho : o.op = .call { callee := .value fx, args := args, argTypes := ats }) (hf : FnV (ρ fx) f caps) (hx : Exps h hb (args.toList.map ρ ++ caps) ds ks) (hk : ks.Nodup)
    (hlend : ((r.solid && solids ds') = true ∧ ∀ id ob, hb id = some ob → h id = some ob ∧ id ∉ ks) ∨ ∀ id, hb id = none)
    {Qv : (Nat → Prop) → World → List Value → Prop} (hsp : SpQ Qv P f ds ds' r) (hQ : ∀ S' vs, (∀ b, S' b → Sof c α φ b) → VRs (Sof c α φ) w β (args.toList.map ρ ++ caps) vs → Qv S' w vs) (hback : Back (args.toList.map ρ ++ caps) ds' sets) (hids : ((sets ++ (imp n r).2.1).map Prod.fst).Nodup) (hnew : ∀ p ∈ (imp n r).2.1, p.1 ∉ α.ids) :
    Goes P c o a w (α.app o.dst (imp n r).1 { kill := ks, set := sets ++ (imp n r).2.1, new := (imp n r).2.1.map Prod.fst }) := by
  have hfe := E.slots fx
  obtain ⟨cvs, hfe, hcaps⟩ := hf.sound hfe
  have hvs : VRs (Sof c α φ) w β (args.toList.map ρ ++ caps) (args.toList.map a.eval ++ cvs) := VRs_append (VRs_map E _) hcaps
  have hks : ∀ k ∈ ks, ∃ ok, α.ob k = some ok := fun k hk' => by
    obtain ⟨ok, h1⟩ := Exps.ids hx k hk'
    exact ⟨ok, hh _ _ h1⟩
  have hFs := given H hks
  have hFn := flatMap_nodup H hk hks
  have hlt : ∀ id ob, α.ob id = some ob → ∀ b ∈ φ id, b < w.heap.size := fun id ob hob b hb => (H.objs id ob hob).lt b hb
  have hpick : ∃ S' : Nat → Prop, (∀ b, S' b → Sof c α φ b) ∧ (∀ b ∈ ks.flatMap φ, S' b) ∧ Open (Sof c α φ) S' w β φ hb ∧ ((r.solid && solids ds') = true ∨ ∀ b, Sof c α φ b → S' b) := by
    rcases hlend with ⟨hsol, hl⟩ | hl
    · refine ⟨fun b => b ∈ ks.flatMap φ, ?_, fun b hb => hb, ⟨?_, fun id ob hob => E.objs id ob (hl id ob hob).1, ?_⟩, .inl hsol⟩
      · intro b hb
        obtain ⟨k, _, ok, hok, hm⟩ := hFs b hb
        exact .inr ⟨k, ok, hok, hm⟩
      · intro b _ hb
        obtain ⟨k, _, ok, hok, hm⟩ := hFs b hb
        exact .inr ⟨k, ok, hok, hm⟩
      · intro id ob hob b hb hb'
        obtain ⟨k, hk1, ok, hok, hm⟩ := hFs b hb'
        obtain ⟨h1, h2⟩ := hl id ob hob
        exact H.apart id k ob ok (hh _ _ h1) hok (fun e => h2 (e ▸ hk1)) b hb hm
    · refine ⟨Sof c α φ, fun _ h => h, ?_, ⟨fun _ _ h => h, fun id ob hob => by rw [hl] at hob; (cases hob), fun id ob hob => by rw [hl] at hob; (cases hob)⟩, .inr fun _ h => h⟩
      intro b hb
      obtain ⟨k, _, ok, hok, hm⟩ := hFs b hb
      exact .inr ⟨k, ok, hok, hm⟩
  obtain ⟨S', hS1, hS2, hopen, hsol⟩ := hpick
  have hdr := Exps.sound (S' := S') (fun b _ h => hS1 b h) E.objs hopen hx hvs
  have hSlt : ∀ b, S' b → b < w.heap.size := by
    intro b hb
    rcases hS1 b hb with h1 | ⟨id, ob, hob, hm⟩
    · exact Nat.lt_of_lt_of_le (hS b h1) H.keep.size
    · exact hlt id ob hob b hm
  refine goes_enter (run_call he ho hfe) ((hsp S' w _ _ (hQ S' _ hS1 hvs) hSlt hdr hFn hS2).mono ?_)
  rintro e w' ⟨v, F, Fs', rfl, g1, g2, g3, g4, g5⟩
  refine ⟨v, rfl, ?_⟩
  have hstrong : DR (fun b => Sof c α φ b ∨ b ∈ Fs' ++ F) w' r v F ∧ DRs (fun b => Sof c α φ b ∨ b ∈ Fs' ++ F) w' ds' (args.toList.map a.eval ++ cvs) Fs' := by
    rcases hsol with h1 | h1
    · rw [Bool.and_eq_true] at h1
      exact ⟨DR.solid h1.1 g2, DRs.solid h1.2 g1⟩
    · exact ⟨DR.less (fun b _ hb => hb.imp (h1 b) (fun y => y)) g2, DRs.less (fun b _ hb => hb.imp (h1 b) (fun y => y)) g1⟩
  obtain ⟨g2', g1'⟩ := hstrong
  obtain ⟨hs1, F1, b1, b2, b3⟩ := Back.sound hback hvs g1'
  obtain ⟨hs2, i1, i2⟩ := imp_sound (n := n) g2'
  have hheld := b1.append i1
  have hsubl : (F1 ++ F).Sublist (Fs' ++ F) := List.Sublist.append b3 (List.Sublist.refl _)
  obtain ⟨β', φ', p1, p2, p3, p4⟩ := hheld.place hids (hsubl.nodup g3) β φ
  obtain ⟨p2a, p2b⟩ := Heads.left b1.len p2
  have hFb : ∀ b ∈ F1 ++ F, w.heap.size ≤ b ∨ ∃ k ∈ ks, ∃ ok, α.ob k = some ok ∧ b ∈ φ k := by
    intro b hb
    rcases g4 b (hsubl.subset hb) with h1 | h1
    · exact .inr (hFs b h1)
    · exact .inl h1
  have hhead : ∀ id ∈ α.ids, β' id = β id := by
    intro id hid
    by_cases hm : id ∈ (sets ++ (imp n r).2.1).map Prod.fst
    · rw [List.map_append, List.mem_append] at hm
      rcases hm with hm | hm
      · obtain ⟨⟨j, oj⟩, hj, rfl⟩ := List.mem_map.1 hm
        obtain ⟨q, hq, hqe⟩ : ∃ q ∈ sets.zip hs1, q.1 = (j, oj) := by
          obtain ⟨i, hi⟩ := List.mem_iff_getElem?.1 hj
          have hil : i < sets.length := (List.getElem?_eq_some_iff.1 hi).1
          have hil2 : i < hs1.length := by rw [← b2.1]; exact hil
          refine ⟨((j, oj), hs1[i]), List.mem_iff_getElem?.2 ⟨i, ?_⟩, rfl⟩
          rw [List.getElem?_zip_eq_some]
          exact ⟨hi, by simp [hil2]⟩
        have e1 := p2a.2 q hq
        have e2 := b2.2 q hq
        rw [hqe] at e1 e2
        simp only at e1 e2 ⊢
        rw [e1, ← e2]
      · obtain ⟨p, hp, rfl⟩ := List.mem_map.1 hm
        exact absurd hid (hnew p hp)
    · exact (p1 id hm).1
  have hSfin : ∀ b, Sof c (α.upd { kill := ks, set := sets ++ (imp n r).2.1, new := (imp n r).2.1.map Prod.fst }) φ' b → Sof c α φ b ∨ b ∈ Fs' ++ F := by
    rintro b (hb | ⟨j, oj, hj, hb⟩)
    · exact .inl (.inl hb)
    · rcases Upd.ob_cases hj with hset | ⟨hj', _, hns⟩
      · exact .inr (hsubl.subset ((p3 j oj hset).2.2 b hb))
      · have hm : j ∉ (sets ++ (imp n r).2.1).map Prod.fst := by
          intro hm
          obtain ⟨⟨j', o'⟩, hp, rfl⟩ := List.mem_map.1 hm
          exact hns o' hp
        rw [(p1 j hm).2] at hb
        exact .inl (.inr ⟨j, oj, hj', hb⟩)
  have hsok : StepOK c α w β φ { kill := ks, set := sets ++ (imp n r).2.1, new := (imp n r).2.1.map Prod.fst } w' β' φ' := by
    refine ⟨g5.os, g5.tape, g5.output, g5.size, ?_, ?_, hhead, ?_, ?_, fun id ob hset => (p3 id ob hset).2.1, fun i j oi oj hi hj hij => p4 i j oi oj hi hj hij, ?_⟩
    · intro b hb hx'
      refine g5.block b hb fun hm => ?_
      obtain ⟨k, hk1, ok, hok, hm'⟩ := hFs b hm
      rcases hx' with hx' | ⟨j, oj, hj, hnk, hns, hbj⟩
      · exact hx' (.inr ⟨k, ok, hok, hm'⟩)
      · exact H.apart j k oj ok hj hok (fun e => hnk (e ▸ hk1)) b hbj hm'
    · intro b hb hx'
      refine g5.block b (Nat.lt_of_lt_of_le hb H.keep.size) fun hm => ?_
      obtain ⟨k, _, ok, hok, hm'⟩ := hFs b hm
      rcases H.mine k ok hok b hm' with h1 | h1
      · omega
      · exact hx' h1
    · intro id ob _ hns
      refine (p1 id fun hm => ?_).2
      obtain ⟨⟨j', o'⟩, hp, rfl⟩ := List.mem_map.1 hm
      exact hns o' hp
    · intro id ob hset hlive
      obtain ⟨⟨d0, hdat, hdr1⟩, _, _⟩ := p3 id ob hset
      rw [Ob.dat_or hdat]
      exact DR.less (fun b _ hb => hSfin b hb) hdr1
    · intro id ob hset b hb
      rcases hFb b ((p3 id ob hset).2.2 b hb) with h1 | ⟨k, hk1, ok, hok, hm⟩
      · exact .inl h1
      · exact .inr ⟨k, ok, hok, hm, .inl hk1⟩
  refine ⟨β', φ', H.step hsok o.dst hd (imp n r).1 v ?_⟩
  exact VR.move (w := w') ⟨fun _ _ _ => rfl, Nat.le_refl _⟩ (fun b hb => .inl (hSfin b hb)) (fun _ _ => rfl) (i2 β' p2b)

theorem goes_call (hS : ∀ b, c.S b → b < c.w0.heap.size) (H : Rel c α a w β φ) (E : Env (Sof c α φ) w β φ ρ h a.eval) (hh : ∀ id ob, h id = some ob → α.ob id = some ob) (hd : ∀ d, o.dst = some d → d < α.n)
    {f : FuncId} (he : Enters P f) {fx : Operand} {args : Array Operand} {ats : Array TypeId} {caps : List V} {ds ds' : List D} {r : D} {ks : List Nat} {hb : Nat → Option Ob} {sets : List (Nat × Ob)} {n : Nat}
    (ho : o.op = .call { callee := .value fx, args := args, argTypes := ats }) (hf : FnV (ρ fx) f caps) (hx : Exps h hb (args.toList.map ρ ++ caps) ds ks) (hk : ks.Nodup)
    (hlend : ((r.solid && solids ds') = true ∧ ∀ id ob, hb id = some ob → h id = some ob ∧ id ∉ ks) ∨ ∀ id, hb id = none)
    (hsp : Sp P f ds ds' r) (hback : Back (args.toList.map ρ ++ caps) ds' sets) (hids : ((sets ++ (imp n r).2.1).map Prod.fst).Nodup) (hnew : ∀ p ∈ (imp n r).2.1, p.1 ∉ α.ids) :
    Goes P c o a w (α.app o.dst (imp n r).1 { kill := ks, set := sets ++ (imp n r).2.1, new := (imp n r).2.1.map Prod.fst }) :=
  goes_callQ hS H E hh hd he ho hf hx hk hlend hsp.q (fun _ _ _ _ => trivial) hback hids hnew

theorem goes_callF (hS : ∀ b, c.S b → b < c.w0.heap.size) (H : Rel c α a w β φ) (E : Env (Sof c α φ) w β φ ρ h a.eval) (hd : ∀ d, o.dst = some d → d < α.n)
    {f : FuncId} (he : Enters P f) {fx : Operand} {args : Array Operand} {ats : Array TypeId} {caps : List V} {ds ds' : List D} {r : D} {n : Nat}
    (ho : o.op = .call { callee := .value fx, args := args, argTypes := ats }) (hf : FnV (ρ fx) f caps) (hx : Exps h h (args.toList.map ρ ++ caps) ds [])
    (hsolid : r.solid = true) (hsp : Sp P f ds ds' r) (hnew : (imp n r.froz).2.1 = []) :
    Goes P c o a w (α.app o.dst (imp n r.froz).1 {}) := by
  have hfe := E.slots fx
  obtain ⟨cvs, hfe, hcaps⟩ := hf.sound hfe
  have hvs : VRs (Sof c α φ) w β (args.toList.map ρ ++ caps) (args.toList.map a.eval ++ cvs) := VRs_append (VRs_map E _) hcaps
  have hopen : Open (Sof c α φ) (fun _ => False) w β φ h := ⟨fun _ _ h => h.elim, E.objs, fun _ _ _ _ _ h => h⟩
  have hdr := Exps.sound (S' := fun _ => False) (fun b _ h => h.elim) E.objs hopen hx hvs
  refine goes_enter (run_call he ho hfe) ((hsp (fun _ => False) w _ _ (fun _ h => h.elim) hdr (by simp) (by simp)).mono ?_)
  rintro e w' ⟨v, F, Fs', rfl, g1, g2, g3, g4, g5⟩
  refine ⟨v, rfl, ?_⟩
  have hFnew : ∀ b ∈ F, w.heap.size ≤ b := fun b hb => by
    rcases g4 b (List.mem_append_right _ hb) with h1 | h1
    · simp at h1
    · exact h1
  have hlt : ∀ b, Sof c α φ b → b < w.heap.size := by
    rintro b (hb | ⟨id, ob, hob, hm⟩)
    · exact Nat.lt_of_lt_of_le (hS b hb) H.keep.size
    · exact (H.objs id ob hob).lt b hm
  have hfz : DR (Sof c α φ) w' r.froz v [] :=
    DR.froz (S := Sof c α φ) (fun b _ hb => ⟨hb, fun hm => by have := hFnew b hm; have := hlt b hb; omega⟩) (DR.solid hsolid g2)
  obtain ⟨hs2, i1, i2⟩ := imp_sound (n := n) hfz
  rw [hnew] at i1 i2
  cases i1
  have hsok : StepOK c α w β φ {} w' β φ :=
    ⟨g5.os, g5.tape, g5.output, g5.size, fun b hb _ => g5.block b hb (by simp), fun b hb _ => g5.block b (Nat.lt_of_lt_of_le hb H.keep.size) (by simp), fun _ _ => rfl, fun _ _ _ _ => rfl,
      fun _ _ h => by simp at h, fun _ _ h => by simp at h, fun _ _ _ _ h => by simp at h, fun _ _ h => by simp at h⟩
  exact ⟨β, φ, H.step hsok o.dst hd _ v (i2 β ⟨rfl, by simp⟩)⟩

end

end Go.AM
