/-
  The abstract machine, part L: one operation ('Ev'), a list of operations ('Ch'), code ('T'), a function ('Sp_intro').
-/
import Derived.Test.YtlnimdlpggnjeaaGreatDoorAmK
import Derived.Test.YtlnimdlpggnjeaaGreatDoorAmS
import Derived.Test.YtlnimdlpggnjeaaGreatDoorAmU
import Derived.Test.YtlnimdlpggnjeaaGreatDoorAmV
import Derived.Test.YtlnimdlpggnjeaaGreatDoorAmT
namespace Go.AM

def nodupB : List Nat → Bool
  | [] => true
  | k :: ks => !(ks.contains k) && nodupB ks
theorem nodupB_spec : ∀ {ks : List Nat}, nodupB ks = true → ks.Nodup
  | [], _ => by simp
  | k :: ks, h => by
    simp only [nodupB, Bool.and_eq_true] at h
    rw [List.nodup_cons]
    exact ⟨by simpa using h.1, nodupB_spec h.2⟩
def disjB (k1 k2 : List Nat) : Bool := k1.all fun k => !(k2.contains k)
theorem disjB_spec {k1 k2 : List Nat} (h : disjB k1 k2 = true) : ∀ k ∈ k1, k ∉ k2 := by
  intro k hk hm
  have := List.all_eq_true.1 h k hk
  simp at this
  exact this hm

def hbOf (h : Nat → Option Ob) (ks : List Nat) (id : Nat) : Option Ob := bif ks.contains id then none else h id
theorem hbOf_spec {h ks id ob} (hb : hbOf h ks id = some ob) : h id = some ob ∧ id ∉ ks := by
  unfold hbOf at hb
  cases hc : ks.contains id with
  | true => rw [hc] at hb; cases hb
  | false => rw [hc] at hb; exact ⟨hb, by simpa using hc⟩

theorem solids_map {τ : Type} {f : τ → D} (h : ∀ x, (f x).solid = true) : ∀ l : List τ, solids (l.map f) = true
  | [] => by rw [List.map_nil, solids]
  | x :: l => by rw [List.map_cons, solids, h x, solids_map h l]; rfl
theorem noUs_mem : ∀ {l : List D}, noUs l = true → ∀ y ∈ l, y.noU = true
  | [], _, y, h => by cases h
  | x :: l, hl, y, h => by
    rw [noUs, Bool.and_eq_true] at hl
    rcases List.mem_cons.1 h with rfl | h
    · exact hl.1
    · exact noUs_mem hl.2 y h
theorem noUs_map {τ : Type} {f : τ → D} (h : ∀ x, (f x).noU = true) : ∀ l : List τ, noUs (l.map f) = true
  | [] => by rw [List.map_nil, noUs]
  | x :: l => by rw [List.map_cons, noUs, h x, noUs_map h l]; rfl
theorem frozs_map {τ : Type} {f : τ → D} (h : ∀ x, (f x).froz = f x) (l : List τ) : frozs (l.map f) = l.map f := by
  rw [frozs_eq, List.map_map]; congr 1; funext x; exact h x

theorem noUs_iff : ∀ {l : List D}, noUs l = true ↔ ∀ y ∈ l, y.noU = true
  | [] => by simp [noUs]
  | x :: l => by rw [noUs, Bool.and_eq_true, noUs_iff]; simp
theorem noUs_part {xs : List D} (h : noUs xs = true) (l r : Nat) : noUs ((xs.take r).drop l) = true :=
  noUs_iff.2 fun y hy => noUs_iff.1 h y (List.mem_of_mem_take (List.mem_of_mem_drop hy))

def Ghs (h : Nat → Option Ob) : List Nat → List D → List Value → Prop
  | [], [], [] => True
  | m :: ms, d :: ds, u :: us => h m = some (.ghost d u) ∧ Ghs h ms ds us
  | _, _, _ => False

inductive Ev (P : Program) (ρ : Operand → V) (h : Nat → Option Ob) (o : Oper) : V → Upd → Prop
  | pure {v} (he : EvP P ρ h o v) : Ev P ρ h o v {}
  | box (n : Nat) (t x) {cs} (ho : o.op = .box t x) (hc : CellsV (ρ x) cs) : Ev P ρ h o (.ptr n 0) { set := [(n, .box cs)], new := [n] }
  | alloc (n : Nat) (t) {zs} (ho : o.op = .alloc t) (hz : ∃ i z, P.info? t = some i ∧ i.zero = some z ∧ z.cells = List.toArray zs) : Ev P ρ h o (.ptr n 0) { set := [(n, .box (zs.map constV0))], new := [n] }
  | build (t parts) {zs places pl cs} (ho : o.op = .build t parts) (hst : StructIs P t zs places) (hp : PartsV ρ parts.toList pl) (hf : fillV (places.toArray[·]?) (zs.map constV0) pl = some cs) : Ev P ρ h o (.agg cs) {}
  | storePtr (t x y) {id off cs us} (ho : o.op = .store t x y) (hx : ρ x = .ptr id off) (hob : h id = some (.box cs)) (hy : CellsV (ρ y) us) (hsz : SizeIs P t us.length) (hl : off + us.length ≤ cs.length) :
      Ev P ρ h o .junk { set := [(id, .box (splice cs off us))] }
  | storeEl (t x z) {id sz j off n xs y y' d} (ho : o.op = .store t x z) (hx : ρ x = .el id sz j off) (hob : h id = some (.row sz xs)) (hz : Exp h (fun _ => none) (ρ z) d []) (hm : d.mem = true) (hsz : SizeIs P t n) (hn : (cellsD d).length = n)
      (hy : xs[j]? = some y) (hnu : y.noU = true) (hy' : updD y off (cellsD d) = some y') : Ev P ρ h o .junk { set := [(id, .row sz (xs.set j y'))] }
  | storeElK (t x z) {id sz j off n xs y y' d ks} (ho : o.op = .store t x z) (hx : ρ x = .el id sz j off) (hob : h id = some (.row sz xs)) (hz : Exp h (fun _ => none) (ρ z) d ks) (hk : nodupB ks = true) (hid : ks.contains id = false) (hm : d.mem = true) (hsz : SizeIs P t n) (hn : (cellsD d).length = n)
      (hy : xs[j]? = some y) (hnu : y.noU = true) (hy' : updD y off (cellsD d) = some y') : Ev P ρ h o .junk { kill := ks, set := [(id, .row sz (xs.set j y'))] }
  | append (n : Nat) (s x t e) {sz bytes xs ys k1 k2} (ho : o.op = .call { callee := .builtin .append, args := #[s, x], argTypes := #[t, t] }) (hty : SlotTy P t e sz bytes) (hb0 : 0 < bytes) (hs : Src h (ρ s) sz xs k1)
      (hs' : ρ s = .c (.slice none 0 0) ∨ ∃ id, ρ s = .row id ∧ k1 = [id]) (hx : Src h (ρ x) sz ys k2) (hk : disjB k1 k2 = true) (hbytes : (xs.length + ys.length) * bytes ≤ 140737488355328) :
      Ev P ρ h o (.row n) { kill := k1 ++ k2, set := [(n, .row sz (xs ++ ys))], new := [n] }
  | appendT (n : Nat) (s x t e) {sz bytes xs ys k2} (ho : o.op = .call { callee := .builtin .append, args := #[s, x], argTypes := #[t, t] }) (hty : SlotTy P t e sz bytes) (hb0 : 0 < bytes) (hs : ρ s = .tight sz xs)
      (hx : Src h (ρ x) sz ys k2) (hne : ys ≠ []) (hbytes : (xs.length + ys.length) * bytes ≤ 140737488355328) :
      Ev P ρ h o (.row n) { kill := k2, set := [(n, .row sz (xs ++ ys))], new := [n] }
  | appendT0 (n : Nat) (s x t e) {sz bytes ys k2} (ho : o.op = .call { callee := .builtin .append, args := #[s, x], argTypes := #[t, t] }) (hty : SlotTy P t e sz bytes) (hb0 : 0 < bytes) (hs : ρ s = .tight sz [])
      (hx : Src h (ρ x) sz ys k2) (hk : nodupB k2 = true) (hbytes : (0 + ys.length) * bytes ≤ 140737488355328) :
      Ev P ρ h o (.row n) { kill := k2, set := [(n, .row sz ys)], new := [n] }
  | tight (t x mx lo hi e) {sz xs} (l r : Nat) (ho : o.op = .slice t x lo hi (some mx)) (ht : P.underlying t = some (.slice e)) (hsz : SizeIs P e sz) (hx : (ρ x = .d (.slice false sz xs)) ∨ ρ x = .tight sz xs ∨ (ρ x = .c (.slice none 0 0) ∧ xs = []))
      (hl : bnd ρ lo 0 l) (hr : ∃ y, hi = some y ∧ bnd ρ hi 0 r) (hm : bnd ρ (some mx) 0 r) (h1 : l ≤ r) (h2 : r ≤ xs.length) : Ev P ρ h o (.tight sz ((xs.take r).drop l)) {}
  | slice (n : Nat) (t e len) {sz bytes parts xs ds ks} (ho : o.op = .buildSlice t len parts) (hty : SlotTy P t e sz bytes) (hp : parts.toList = zipOps 0 xs) (hlen : len = xs.length) (hx : Exps h (fun _ => none) (xs.map ρ) ds ks) (hk : nodupB ks = true)
      (hds : (ds.all fun d => d.mem && Nat.beq (cellsD d).length sz) = true) (hsm : len * sz ≤ 16777216) : Ev P ρ h o (.row n) { kill := ks, set := [(n, .row sz ds)], new := [n] }
  | make (n : Nat) (t e x y) {sz bytes kl kc ml mc zd} (l cp : Nat) (ho : o.op = .makeSlice t x y) (hty : SlotTy P t e sz bytes) (hx : ρ x = .d (.int kl ml)) (hml : ml = (l : Int)) (hy : ρ y = .d (.int kc mc)) (hmc : mc = (cp : Int)) (hle : l ≤ cp)
      (hbytes : bytes * cp ≤ 281474976710656) (hcp : cp ≤ 9223372036854775807) (hz : ∀ i z, P.info? e = some i → i.zero = some z → (∀ S w, DR S w zd z []) ∧ zd.mem = true) :
      Ev P ρ h o (.row n) { set := [(n, .row sz (List.replicate l zd))], new := [n] }
  | bytes (n : Nat) (s t e x) {l} (ho : o.op = .convert s t x) (hs : P.underlying s = some .string) (ht : P.underlying t = some (.slice e)) (he : P.underlying e = some (.int .u8)) (hx : ρ x = .d (.str l)) (hlen : l.length ≤ 9223372036854775807) :
      Ev P ρ h o (.row n) { set := [(n, .row 1 (l.map byteD))], new := [n] }
  | string (s t e x) {l ks} (ho : o.op = .convert s t x) (hs : P.underlying s = some (.slice e)) (he : P.underlying e = some (.int .u8)) (ht : P.underlying t = some .string) (hx : Src h (ρ x) 1 (l.map byteD) ks) :
      Ev P ρ h o (.d (.str l)) {}
  | cut (n : Nat) (t x hi e) {id sz xs} (r : Nat) (ho : o.op = .slice t x none hi none) (ht : P.underlying t = some (.slice e)) (hsz : SizeIs P e sz) (hx : ρ x = .row id) (hob : h id = some (.row sz xs)) (hr : bnd ρ hi xs.length r) (h2 : r ≤ xs.length) {ys} (hv : xs.take r = ys) :
      Ev P ρ h o (.row n) { kill := [id], set := [(n, .row sz ys)], new := [n] }
  | clear (x t e) {id sz bytes l r xs zd} (ho : o.op = .call { callee := .builtin .clear, args := #[x], argTypes := #[t] }) (hty : SlotTy P t e sz bytes) (hx : ρ x = .sub id sz l r) (hob : h id = some (.row sz xs)) (h2 : r ≤ xs.length) (hnu : noUs xs = true)
      (hz : ∀ i z, P.info? e = some i → i.zero = some z → (∀ S w, DR S w zd z []) ∧ zd.mem = true) : Ev P ρ h o .junk { set := [(id, .row sz (xs.take l ++ List.replicate (r - l) zd ++ xs.drop r))] }
  | clearK (x t e) {id sz bytes l r xs zd} (ho : o.op = .call { callee := .builtin .clear, args := #[x], argTypes := #[t] }) (hty : SlotTy P t e sz bytes) (hx : ρ x = .sub id sz l r) (hob : h id = some (.row sz xs)) (h2 : r ≤ xs.length) (hnu : noUs ((xs.take r).drop l) = true)
      (hz : ∀ i z, P.info? e = some i → i.zero = some z → (∀ S w, DR S w zd z []) ∧ zd.mem = true) : Ev P ρ h o .junk { set := [(id, .row sz (xs.take l ++ List.replicate (r - l) zd ++ xs.drop r))] }
  | copy (x y t t2 e) {id sz bytes l r n xs ys zs} (ho : o.op = .call { callee := .builtin .copy, args := #[x, y], argTypes := #[t, t2] }) (hty : SlotTy P t e sz bytes) (hx : DstC h (ρ x) id sz l r xs) (hnu : noUs xs = true) (hy : Src h (ρ y) sz ys [])
      (hn : Nat.min ys.length (r - l) = n) (hz : xs.take l ++ ys.take n ++ xs.drop (l + n) = zs) : Ev P ρ h o (.d (.int .i64 (n : Int))) { set := [(id, .row sz zs)] }
  | makeMap (n : Nat) (t) (ho : o.op = .makeMap t none) : Ev P ρ h o (.mp n) { set := [(n, .mapo [] [])], new := [n] }
  | range (n : Nat) (t x e) {id ks xs nn} (ho : o.op = .range t x) (ht : MapTy P t e) (hx : ρ x = .mp id) (hob : h id = some (.mapo ks xs)) (hn : ks.length = nn) : Ev P ρ h o (.ptr n 0) { set := [(n, .iter id nn (List.range nn) none)], new := [n] }
  | entry (x) {it id nn j left ks xs k y} (ho : o.op = .entry x) (hx : ρ x = .ptr it 0) (hit : h it = some (.iter id nn left (some j))) (hob : h id = some (.mapo ks xs)) (hn : nn = ks.length) (hk : ks[j]? = some k) (hy : xs[j]? = some y) (hnu : y.noU = true) : Ev P ρ h o (.tup [.d (.str k), .d y]) {}
  | entryT (n : Nat) (x) {it id nn j sz left ks xs ys k} (ho : o.op = .entry x) (hx : ρ x = .ptr it 0) (hit : h it = some (.iter id nn left (some j))) (hob : h id = some (.mapo ks xs)) (hn : nn = ks.length) (hk : ks[j]? = some k) (hy : xs[j]? = some (.slice true sz ys)) :
      Ev P ρ h o (.tup [.d (.str k), .row n]) { set := [(id, .mapo ks (xs.set j .any)), (n, .row sz ys)], new := [n] }
  | lookup (n : Nat) (t x k e) {id ks xs xs' ys s sz} (ho : o.op = .lookup t x k false) (ht : MapTy P t e) (hz : ∀ w, (zeroValue e).run P w = .ok (.slice none 0 0) w) (hx : ρ x = .mp id) (hob : h id = some (.mapo ks xs)) (hk : ρ k = .d (.str s)) (hy : TakeK ks xs s sz ys xs') :
      Ev P ρ h o (.row n) { set := [(id, .mapo ks xs'), (n, .row sz ys)], new := [n] }
  | mapUpd (t x k z e) {id ks ks' xs xs' s d kk} (ho : o.op = .mapUpdate t x k z ∨ o.op = .insert t x k z) (ht : MapTy P t e) (hx : ρ x = .mp id) (hob : h id = some (.mapo ks xs)) (hk : ρ k = .d (.str s)) (hz : Exp h (fun _ => none) (ρ z) d kk) (hkn : nodupB kk = true) (hkid : kk.contains id = false)
      (hy : PutK ks xs s d ks' xs') : Ev P ρ h o .junk { kill := kk, set := [(id, .mapo ks' xs')] }
  | call (n : Nat) (f fx args ats) {caps ds ds' r ks sets} (he : Enters P f) (ho : o.op = .call { callee := .value fx, args := args, argTypes := ats }) (hf : FnV (ρ fx) f caps) (hx : Exps h (hbOf h ks) (args.toList.map ρ ++ caps) ds ks) (hk : nodupB ks = true)
      (hsol : (r.solid && solids ds') = true) (hsp : Sp P f ds ds' r) (hback : Back (args.toList.map ρ ++ caps) ds' sets) (hids : nodupB ((sets ++ (imp n r).2.1).map Prod.fst) = true) :
      Ev P ρ h o (imp n r).1 { kill := ks, set := sets ++ (imp n r).2.1, new := (imp n r).2.1.map Prod.fst }
  | callS (n : Nat) (f fx args ats) {caps ds ds' r ks sets} (he : Enters P f) (ho : o.op = .call { callee := .value fx, args := args, argTypes := ats }) (hf : FnV (ρ fx) f caps) (hx : Exps h (fun _ => none) (args.toList.map ρ ++ caps) ds ks) (hk : nodupB ks = true)
      (hsp : Sp P f ds ds' r) (hback : Back (args.toList.map ρ ++ caps) ds' sets) (hids : nodupB ((sets ++ (imp n r).2.1).map Prod.fst) = true) :
      Ev P ρ h o (imp n r).1 { kill := ks, set := sets ++ (imp n r).2.1, new := (imp n r).2.1.map Prod.fst }
  | callU (n : Nat) (f fx args ats) {caps ds ds' r ks sets id m u vs'} (he : Enters P f) (ho : o.op = .call { callee := .value fx, args := args, argTypes := ats }) (hf : FnV (ρ fx) f caps) (hx : Exps h (hbOf h ks) (args.toList.map ρ ++ caps) ds ks) (hk : nodupB ks = true)
      (hsol : (r.solid && solids ds') = true) (hsp : SpQ (fun _ _ vs => vs.head? = some u) P f ds ds' r) (h1 : args.toList.map ρ ++ caps = .row id :: vs') (hm : h m = some (.head id u)) (hback : Back (args.toList.map ρ ++ caps) ds' sets) (hids : nodupB ((sets ++ (imp n r).2.1).map Prod.fst) = true) :
      Ev P ρ h o (imp n r).1 { kill := ks, set := sets ++ (imp n r).2.1, new := (imp n r).2.1.map Prod.fst }
  | callG (n : Nat) (f fx args ats) {caps ds ds' r ks sets ms gds us} (he : Enters P f) (ho : o.op = .call { callee := .value fx, args := args, argTypes := ats }) (hf : FnV (ρ fx) f caps) (hx : Exps h (hbOf h ks) (args.toList.map ρ ++ caps) ds ks) (hk : nodupB ks = true)
      (hsol : (r.solid && solids ds') = true) (hsp : SpQ (fun S w _ => DRs S w gds us []) P f ds ds' r) (hm : Ghs h ms gds us) (hback : Back (args.toList.map ρ ++ caps) ds' sets) (hids : nodupB ((sets ++ (imp n r).2.1).map Prod.fst) = true) :
      Ev P ρ h o (imp n r).1 { kill := ks, set := sets ++ (imp n r).2.1, new := (imp n r).2.1.map Prod.fst }
  | callGS (n : Nat) (f fx args ats) {caps ds ds' r ks sets ms gds us} (he : Enters P f) (ho : o.op = .call { callee := .value fx, args := args, argTypes := ats }) (hf : FnV (ρ fx) f caps) (hx : Exps h (fun _ => none) (args.toList.map ρ ++ caps) ds ks) (hk : nodupB ks = true)
      (hsp : SpQ (fun S w _ => DRs S w gds us []) P f ds ds' r) (hm : Ghs h ms gds us) (hback : Back (args.toList.map ρ ++ caps) ds' sets) (hids : nodupB ((sets ++ (imp n r).2.1).map Prod.fst) = true) :
      Ev P ρ h o (imp n r).1 { kill := ks, set := sets ++ (imp n r).2.1, new := (imp n r).2.1.map Prod.fst }
  | callF (n : Nat) (f fx args ats) {caps ds ds' r} (he : Enters P f) (ho : o.op = .call { callee := .value fx, args := args, argTypes := ats }) (hf : FnV (ρ fx) f caps) (hx : Exps h h (args.toList.map ρ ++ caps) ds [])
      (hsolid : r.solid = true) (hsp : Sp P f ds ds' r) (hnew : (imp n r.froz).2.1 = []) : Ev P ρ h o (imp n r.froz).1 {}

theorem Ghs.reads {S : Nat → Prop} {w : World} {β : Nat → Value} {φ : Nat → List Nat} {h : Nat → Option Ob} (ho : ∀ id ob, h id = some ob → OR S w β ob (β id) (φ id)) : ∀ {ms gds us}, Ghs h ms gds us → DRs S w gds us []
  | [], [], [], _ => by rw [DRs]; exact ⟨rfl, rfl⟩
  | m :: ms, d :: ds, u :: us, hg => by rw [DRs]; exact ⟨u, us, [], [], rfl, rfl, (ho _ _ hg.1).1, Ghs.reads ho hg.2⟩
def CtxOK (c : Ctx) : Prop := ∀ b, c.S b → b < c.w0.heap.size

theorem CellsV.ids {v cs} (h : CellsV v cs) : ∀ id ∈ idss cs, id ∈ v.ids := by
  cases h with
  | agg vs h1 => intro id hid; rw [V.ids]; exact hid
  | aggD ds =>
    intro id hid
    have : idss (ds.map V.d) = [] := by
      induction ds with
      | nil => rfl
      | cons d ds ih => rw [List.map_cons, idss, V.ids, List.nil_append]; exact ih (by rw [List.map_cons, idss, V.ids, List.nil_append] at hid; exact hid)
    rw [this] at hid; simp at hid
  | one v h1 => intro id hid; rw [idss, idss, List.append_nil] at hid; exact hid

theorem constV_ids (v : Value) : (constV v).ids = [] := by
  have h0 : ∀ u, (constV0 u).ids = [] := fun u => by cases u <;> rfl
  by_cases h : ∃ cs, v = .agg cs
  · obtain ⟨cs, rfl⟩ := h
    rw [constV, V.ids]
    generalize cs.toList = l
    induction l with
    | nil => rfl
    | cons x l ih => rw [List.map_cons, idss, h0, List.nil_append]; exact ih
  · have : constV v = constV0 v := by cases v <;> first | rfl | exact absurd ⟨_, rfl⟩ h
    rw [this]; exact h0 v

theorem ev_ids (α : St) (x : Operand) : ∀ id ∈ (α.ev x).ids, id ∈ α.ids := by
  cases x with
  | tmp t => exact α.get_ids t
  | const v => intro id hid; rw [St.ev, constV_ids] at hid; simp at hid
  | global g => intro id hid; simp [St.ev, V.ids] at hid
  | func f => intro id hid; simp [St.ev, V.ids, idss] at hid

theorem Ev.sound {P : Program} {c : Ctx} (hc : CtxOK c) {α : St} {ρ h o v u} (hρ : ∀ x, ρ x = α.ev x ∨ ρ x = .junk) (hh : ∀ id ob, h id = some ob → α.ob id = some ob) (he : Ev P ρ h o v u)
    (hd : ∀ d, o.dst = some d → d < α.n) (hf : ∀ i ∈ u.new, i ∉ α.ids) {a : Act} {w : World} (hR : R c α a w) : Goes P c o a w (α.app o.dst v u) := by
  obtain ⟨β, φ, H⟩ := hR
  have E : Env (Sof c α φ) w β φ ρ h a.eval := by
    refine ⟨fun x => ?_, fun id ob hob => H.objs id ob (hh id ob hob)⟩
    rcases hρ x with e | e
    · rw [e]; exact H.ev x
    · rw [e, VR]; trivial
  have hρi : ∀ x, ∀ id ∈ (ρ x).ids, id ∈ α.ids := by
    intro x id hid
    rcases hρ x with e | e
    · rw [e] at hid; exact ev_ids α x id hid
    · rw [e] at hid; simp [V.ids] at hid
  cases he with
  | pure he => exact goes_pure H E hd he
  | box n t x ho hc' => exact goes_box H E hd ho hc' (hf n (by simp)) (fun id hid => hρi x id (hc'.ids id hid))
  | alloc n t ho hz => exact goes_alloc H hd ho hz (hf n (by simp))
  | build t parts ho hst hp hf' => exact goes_build H E hd ho hst hp hf'
  | storePtr t x y ho hx hob hy hsz hl => exact goes_storePtr H E hh hd ho hx hob hy hsz hl
  | storeEl t x z ho hx hob hz hm hsz hn hy hnu hy' => exact goes_storeEl H E hh hd ho hx hob hz hm hsz hn hy hnu hy'
  | storeElK t x z ho hx hob hz hk hid hm hsz hn hy hnu hy' => exact goes_storeElK H E hh hd ho hx hob hz (nodupB_spec hk) (by simpa using hid) hm hsz hn hy hnu hy'
  | append n s x t e ho hty hb0 hs hs' hx hk hbytes => exact goes_append H E hh hd ho hty hb0 hs hs' hx (disjB_spec hk) hbytes (hf n (by simp))
  | appendT n s x t e ho hty hb0 hs hx hne hbytes => exact goes_appendT H E hh hd ho hty hb0 hs hx hne hbytes (hf n (by simp))
  | appendT0 n s x t e ho hty hb0 hs hx hk hbytes => exact goes_appendT0 H E hh hd ho hty hb0 hs hx (nodupB_spec hk) hbytes (hf n (by simp))
  | tight t x mx lo hi e l r ho ht hsz hx hl hr hm h1 h2 => exact goes_tight H E hd l r ho ht hsz hx hl hr hm h1 h2
  | slice n t e len ho hty hp hlen hx hk hds hsm => exact goes_buildSlice H E hh hd ho hty hp hlen hx (nodupB_spec hk) hds hsm (hf n (by simp))
  | make n t e x y l cp ho hty hx hml hy hmc hle hbytes hcp hz => exact goes_make H E hd ho hty hx hml hy hmc hle hbytes hcp hz (hf n (by simp))
  | bytes n s t e x ho hs ht he hx hlen => exact goes_bytes H E hd ho hs ht he hx hlen (hf n (by simp))
  | string s t e x ho hs he ht hx => exact goes_string H E hh hd ho hs he ht hx
  | cut n t x hi e r ho ht hsz hx hob hr h2 hv => subst hv; exact goes_cut H E hh hd ho ht hsz hx hob hr h2 (hf n (by simp))
  | clear x t e ho hty hx hob h2 hnu hz => exact goes_clear H E hh hd ho hty hx hob h2 (noUs_part hnu _ _) hz
  | clearK x t e ho hty hx hob h2 hnu hz => exact goes_clear H E hh hd ho hty hx hob h2 hnu hz
  | copy x y t t2 e ho hty hx hnu hy hn hz => subst hz; exact goes_copy H E hh hd ho hty hx hnu hy hn
  | makeMap n t ho => exact goes_makeMap H hd ho (hf n (by simp))
  | range n t x e ho ht hx hob hn => subst hn; exact goes_range H E hh hd ho ht hx hob (hf n (by simp))
  | entry x ho hx hit hob hn hk hy hnu => exact goes_entry H E hh hd ho hx hit hob hn hk hy hnu
  | entryT n x ho hx hit hob hn hk hy => exact goes_entryT H E hh hd ho hx hit hob hn hk hy (hf n (by simp))
  | lookup n t x k e ho ht hz hx hob hk hy => exact goes_lookup H E hh hd ho ht hz hx hob hk hy (hf n (by simp))
  | mapUpd t x k z e ho ht hx hob hk hz hkn hkid hy => exact goes_mapUpdate H E hh hd ho ht hx hob hk hz (nodupB_spec hkn) (by simpa using hkid) hy
  | call n f fx args ats he ho hf' hx hk hsol hsp hback hids =>
    exact goes_call hc H E hh hd he ho hf' hx (nodupB_spec hk) (.inl ⟨hsol, fun _ _ h => hbOf_spec h⟩) hsp hback (nodupB_spec hids) (fun p hp => hf p.1 (List.mem_map.2 ⟨p, hp, rfl⟩))
  | callU n f fx args ats he ho hf' hx hk hsol hsp h1 hm hback hids =>
    refine goes_callQ hc H E hh hd he ho hf' hx (nodupB_spec hk) (.inl ⟨hsol, fun _ _ h => hbOf_spec h⟩) hsp ?_ hback (nodupB_spec hids) (fun p hp => hf p.1 (List.mem_map.2 ⟨p, hp, rfl⟩))
    intro S' vs _ hvs
    rw [h1, VRs] at hvs
    obtain ⟨v, vs2, rfl, hv, _⟩ := hvs
    rw [VR] at hv
    have h5 := E.objs _ _ hm
    rw [List.head?_cons, hv.1, h5.1]
  | callG n f fx args ats he ho hf' hx hk hsol hsp hm hback hids =>
    refine goes_callQ hc H E hh hd he ho hf' hx (nodupB_spec hk) (.inl ⟨hsol, fun _ _ h => hbOf_spec h⟩) hsp ?_ hback (nodupB_spec hids) (fun p hp => hf p.1 (List.mem_map.2 ⟨p, hp, rfl⟩))
    intro S' vs hS' _
    exact DRs.less (fun b _ hb => hS' b hb) (hm.reads E.objs)
  | callGS n f fx args ats he ho hf' hx hk hsp hm hback hids =>
    refine goes_callQ hc H E hh hd he ho hf' hx (nodupB_spec hk) (.inr fun _ => rfl) hsp ?_ hback (nodupB_spec hids) (fun p hp => hf p.1 (List.mem_map.2 ⟨p, hp, rfl⟩))
    intro S' vs hS' _
    exact DRs.less (fun b _ hb => hS' b hb) (hm.reads E.objs)
  | callS n f fx args ats he ho hf' hx hk hsp hback hids =>
    exact goes_call hc H E hh hd he ho hf' hx (nodupB_spec hk) (.inr fun _ => rfl) hsp hback (nodupB_spec hids) (fun p hp => hf p.1 (List.mem_map.2 ⟨p, hp, rfl⟩))
  | callF n f fx args ats he ho hf' hx hsolid hsp hnew => exact goes_callF hc H E hd he ho hf' hx hsolid hsp hnew

def freshB (new : List Nat) (α : St) : Bool := new.all fun i => !(α.ids.contains i)
def dstB (o : Oper) (n : Nat) : Bool := match o.dst with | some d => Nat.blt d n | none => true

def wantA (all : Array Oper) (α : St) (o : Oper) : Option Bool :=
  match o.guard with
  | none => some true
  | some (j, want) =>
    match (all[j]?).bind (·.dst) with
    | some t => match α.get t with
      | .d (.bool b) => if Nat.blt t α.n then some (b == want) else none
      | .c (.tuple ⟨[]⟩) => some false
      | _ => none
    | none => none

theorem wantA_sound {c : Ctx} {α : St} {a : Act} {w : World} (hR : R c α a w) {all : Array Oper} {o : Oper} {b : Bool} (h : wantA all α o = some b) : Region.wanted o (yielded all a.tmps) = b := by
  obtain ⟨β, φ, H⟩ := hR
  unfold wantA at h
  unfold Region.wanted
  cases hg : o.guard with
  | none => simp only [hg] at h ⊢; simpa using h
  | some q =>
    obtain ⟨j, want⟩ := q
    simp only [hg] at h ⊢
    cases ht : (all[j]?).bind (·.dst) with
    | none => simp [ht] at h
    | some t =>
      simp only [ht] at h
      have hs := H.slots t
      split at h
      · rename_i x hx
        split at h
        · rename_i hlt
          rw [hx, VR, DR] at hs
          have hlt' : t < a.tmps.size := by rw [H.size]; exact Nat.le_of_ble_eq_true hlt
          have hv : a.tmps[t]? = some (.bool x) := by
            have := hs.1
            simp [hlt'] at this
            simp [hlt', this]
          unfold yielded
          rw [ht]
          simp only [Option.bind_some, hv]
          simp only [Option.some.injEq] at h
          rw [← h]
          cases x <;> cases want <;> rfl
        · cases h
      · rename_i hx
        rw [hx, VR] at hs
        have hv : ∀ v, a.tmps[t]? = some v → v = .tuple ⟨[]⟩ := by
          intro v hv
          have : a.tmps.getD t undef = v := by simp [hv]
          rw [← this]; exact hs
        unfold yielded
        rw [ht]
        simp only [Option.bind_some]
        cases hq : a.tmps[t]? with
        | none => simpa using h
        | some v =>
          have := hv v hq
          subst this
          simpa using h
      · cases h

def Gh {ι : Type} (α : St) (α' : ι → St) : Prop := ∀ c a w, R c α a w → ∃ i, R c (α' i) a w

inductive Ch (P : Program) (all : Array Oper) (K : St → Prop) : List Oper → St → Prop
  | nil {α} (h : K α) : Ch P all K [] α
  | step {o rest α v u} (hw : wantA all α o = some true) (he : Ev P α.ev α.ob o v u) (hf : freshB u.new α = true) (hd : dstB o α.n = true) (r : Ch P all K rest (α.app o.dst v u)) : Ch P all K (o :: rest) α
  | nilq {o rest α} (t x y t' e) {sz xs} (hw : wantA all α o = some true) (ho : o.op = .binOp .eql t x y t') (ht : P.underlying t = some (.slice e)) (hx : SlV α.ob (α.ev x) sz xs) (hy : α.ev y = .c (.slice none 0 0)) (hd : dstB o α.n = true)
      (r : ∀ b : Bool, (b = true → xs = []) → Ch P all K rest (α.put o.dst (.d (.bool b)))) : Ch P all K (o :: rest) α
  | ghost {l α} {ι : Type} (α' : ι → St) (h : Gh α α') (r : ∀ i, Ch P all K l (α' i)) : Ch P all K l α
  | next {o rest α} (x) {it id nn left cur ks xs} (hw : wantA all α o = some true) (ho : o.op = .next x false) (hx : α.ev x = .ptr it 0) (hit : α.ob it = some (.iter id nn left cur)) (hob : α.ob id = some (.mapo ks xs)) (hn : nn = ks.length) (hd : dstB o α.n = true)
      (r0 : left = [] → Ch P all K rest (α.put o.dst (.tup [.d (.bool false)])))
      (r1 : ∀ j, j ∈ left → j < ks.length → Ch P all K rest (α.app o.dst (.tup [.d (.bool true), .junk, .junk]) { set := [(it, .iter id nn (lessJ left j) (some j))] })) : Ch P all K (o :: rest) α
  | skip {o rest α} (hw : wantA all α o = some false) (hd : dstB o α.n = true) (r : Ch P all K rest (α.put o.dst (.c undef))) : Ch P all K (o :: rest) α

theorem run_equalIn_nil {P : Program} (w : World) {t e : TypeId} (ht : P.underlying t = some (.slice e)) (d : Nat) (ad : Option Addr) (n cp : Nat) : (Op.equalIn (d + 1) t (.slice ad n cp) (.slice none 0 0)).run P w = .ok ad.isNone w := by
  cases ad <;> simp [Op.equalIn, run_underlying ht]
theorem run_equal_nil {P : Program} (w : World) {t e : TypeId} (ht : P.underlying t = some (.slice e)) (ad : Option Addr) (n cp : Nat) : (Op.equal t (.slice ad n cp) (.slice none 0 0)).run P w = .ok ad.isNone w :=
  run_equalIn_nil w ht 9999 ad n cp

theorem SlV.isNil {c : Ctx} {α : St} {a : Act} {w : World} {β φ} (H : Rel c α a w β φ) {x : Operand} {sz : Nat} {xs : List D} (hx : SlV α.ob (α.ev x) sz xs) : ∃ ad n cp, a.eval x = .slice ad n cp ∧ (ad = none → xs = []) := by
  have hv := H.ev x
  generalize hq : α.ev x = q at hx hv
  have shared : ∀ {v : Value}, DR (Sof c α φ) w (.slice false sz xs) v [] → ∃ ad n cp, v = .slice ad n cp ∧ (ad = none → xs = []) := by
    intro v h
    rw [DR] at h
    obtain ⟨_, a1, c1, rfl, _, h2⟩ := h
    refine ⟨_, _, _, rfl, fun e => ?_⟩
    rcases h2 with h2 | ⟨b, off, vs, h3, _⟩
    · exact h2
    · rw [e] at h3; cases h3
  cases hx with
  | sh sz ys => rw [VR] at hv; exact shared hv
  | tight sz ys => rw [VR] at hv; exact shared hv.2
  | row ho =>
    rw [VR] at hv
    have hrow := H.objs _ _ ho
    rw [OR, DR] at hrow
    obtain ⟨vs, F1, F2, _, h1, _⟩ := hrow
    rw [hv.1]
    rcases h1 with ⟨⟨a0, e1⟩, e2, _⟩ | ⟨g, cp, cur, e, fr, e1, _⟩
    · exact ⟨_, _, _, e1, fun _ => List.eq_nil_of_length_eq_zero e2⟩
    · exact ⟨_, _, _, e1, fun h => by cases h⟩
  | nil sz => rw [VR] at hv; exact ⟨_, _, _, hv, fun _ => rfl⟩

theorem freshB_spec {new α} (h : freshB new α = true) : ∀ i ∈ new, i ∉ α.ids := by
  intro i hi hm
  have := List.all_eq_true.1 h i hi
  simp at this
  exact this hm

theorem dstB_spec {o : Oper} {n : Nat} (h : dstB o n = true) : ∀ d, o.dst = some d → d < n := by
  intro d hd
  rw [dstB, hd] at h
  simp only [] at h
  exact Nat.le_of_ble_eq_true h

theorem Ch.sound {P : Program} {c : Ctx} (hc : CtxOK c) {all : Array Oper} {K : St → Prop} {Q : Exit → Act → World → Prop} (hK : ∀ α a w, K α → R c α a w → Q .normal a w) :
    ∀ {l : List Oper} {α : St}, Ch P all K l α → ∀ {a w}, R c α a w → wpList P all Q l a w
  | _, _, .nil h, a, w, hR => hK _ _ _ h hR
  | _, _, .step hw he hf hd r, a, w, hR => by
    unfold wpList
    rw [if_pos (wantA_sound hR hw)]
    exact .inl (Ev.sound hc (fun _ => .inl rfl) (fun _ _ h => h) he (dstB_spec hd) (freshB_spec hf) hR _ _ fun a' w' hR' => Ch.sound hc hK r hR')
  | _, _, .nilq (o := o) (α := α) t x y t' e hw ho ht hx hy hd r, a, w, hR => by
    unfold wpList
    rw [if_pos (wantA_sound hR hw)]
    obtain ⟨β, φ, H⟩ := id hR
    obtain ⟨ad, n, cp, e1, e2⟩ := hx.isNil H
    have e3 : a.eval y = .slice none 0 0 := by have := H.ev y; rw [hy, VR] at this; exact this
    have hr : (execOp a.eval o).run P w = .ok (.value (.bool ad.isNone)) w := by
      simp [execOp, ho, e1, e3, eqGuard, binOp, run_equal_nil (P := P) w ht ad n cp]
    have hg := goes_value (c := c) (α' := α.put o.dst (.d (.bool ad.isNone))) hr ⟨β, φ, H.pure o.dst (dstB_spec hd) _ _ (by rw [VR, DR]; exact ⟨rfl, rfl⟩)⟩
    exact .inl (hg _ _ fun a' w' hR' => Ch.sound hc hK (r _ (fun hb => e2 (by simpa using hb))) hR')
  | _, _, .next x hw ho hx hit hob hn hd r0 r1, a, w, hR => by
    unfold wpList
    rw [if_pos (wantA_sound hR hw)]
    obtain ⟨β, φ, H⟩ := hR
    have E : Env _ w β φ _ _ a.eval := ⟨fun x => H.ev x, fun id ob hob => H.objs id ob hob⟩
    rcases goes_next (P := P) H E (fun _ _ h => h) (dstB_spec hd) ho hx hit hob hn with ⟨h0, hg⟩ | ⟨j, hj, hjk, hg⟩
    · exact .inl (hg _ _ fun a' w' hR' => Ch.sound hc hK (r0 h0) hR')
    · exact .inl (hg _ _ fun a' w' hR' => Ch.sound hc hK (r1 j hj hjk) hR')
  | _, _, .ghost α' h r, a, w, hR => by
    obtain ⟨i, hR'⟩ := h c a w hR
    exact Ch.sound hc hK (r i) hR'
  | _, _, .skip (o := o) hw hd r, a, w, hR => by
    unfold wpList
    rw [if_neg (by rw [wantA_sound hR hw]; simp)]
    refine Ch.sound hc hK r ?_
    obtain ⟨β, φ, H⟩ := hR
    exact ⟨β, φ, H.pure _ (dstB_spec hd) (.c undef) undef (by rw [VR])⟩

def T (P : Program) (c : Ctx) (code : Code) (Q : Exit → St → Prop) (α : St) : Prop :=
  ∀ a w, R c α a w → code.wp P (fun e a' w' => ∃ α', Q e α' ∧ R c α' a' w') a w

abbrev thenQ (N : St → Prop) (Q : Exit → St → Prop) : Exit → St → Prop
  | .normal, α => N α
  | e, α => Q e α

abbrev blockQ (id : Nat) (Q : Exit → St → Prop) : Exit → St → Prop
  | .exit id', α => bif Nat.beq id' id then Q .normal α else Q (.exit id') α
  | e, α => Q e α

section
variable {P : Program} {c : Ctx} {Q : Exit → St → Prop} {α : St}

theorem T_seq {x y : Code} (h : T P c x (thenQ (T P c y Q) Q) α) : T P c (.seq x y) Q α := by
  intro a w hR
  refine wp_seq (Code.wp_mono ?_ (h a w hR))
  rintro e a' w' ⟨α', hq, hR'⟩
  cases e with
  | normal => exact hq a' w' hR'
  | _ => exact ⟨α', hq, hR'⟩

theorem T_skip (h : Q .normal α) : T P c .skip Q α := fun _ _ hR => wp_skip ⟨α, h, hR⟩
theorem T_ret (h : Q .ret α) : T P c .ret Q α := fun _ _ hR => wp_ret ⟨α, h, hR⟩
theorem T_exit {id : Nat} (h : Q (.exit id) α) : T P c (.exit id) Q α := fun _ _ hR => wp_exit ⟨α, h, hR⟩

theorem T_block {id : Nat} {x : Code} (h : T P c x (blockQ id Q) α) : T P c (.block id x) Q α := by
  intro a w hR
  refine wp_block (Code.wp_mono ?_ (h a w hR))
  rintro e a' w' ⟨α', hq, hR'⟩
  cases e with
  | exit id' =>
    simp only [blockQ] at hq
    simp only [Exit.inBlock]
    by_cases hid : id' = id
    · subst hid
      rw [show Nat.beq id' id' = true from Nat.beq_refl id', cond_true] at hq
      rw [if_pos rfl]; exact ⟨α', hq, hR'⟩
    · rw [show Nat.beq id' id = false from Bool.eq_false_iff.2 fun hb => hid (Nat.eq_of_beq_eq_true hb), cond_false] at hq
      rw [if_neg hid]; exact ⟨α', hq, hR'⟩
  | _ => exact ⟨α', hq, hR'⟩

theorem T_cond {k : Operand} {x y : Code} {b : Bool} (hk : α.ev k = .d (.bool b)) (ht : b = true → T P c x Q α) (hf : b = false → T P c y Q α) : T P c (.cond k x y) Q α := by
  intro a w hR
  have hv : a.eval k = .bool b := by
    obtain ⟨β, φ, H⟩ := hR
    have := H.ev k
    rw [hk, VR, DR] at this
    exact this.1
  exact wp_cond_split hv (fun h => ht h a w hR) (fun h => hf h a w hR)

theorem T_region {id : Nat} {l : List Oper} (hc : CtxOK c) (h : Ch P l.toArray (fun α' => Q .normal α') l α) : T P c (.region id l.toArray false) Q α := by
  intro a w hR
  exact wp_region_lit (Ch.sound hc (fun α' a' w' hk hR' => ⟨α', hk, hR'⟩) h hR)

def Wk (c : Ctx) (α α' : St) : Prop := ∀ a w, R c α a w → R c α' a w

theorem T_wk {x : Code} {α' : St} (h : Wk c α α') (ht : T P c x Q α') : T P c x Q α := fun a w hR => ht a w (h a w hR)

theorem T_mono {x : Code} {Q' : Exit → St → Prop} (h : ∀ e α, Q e α → Q' e α) (ht : T P c x Q α) : T P c x Q' α :=
  fun a w hR => Code.wp_mono (fun e _ _ ⟨α', hq, hR'⟩ => ⟨α', h e α' hq, hR'⟩) (ht a w hR)

theorem T_loop {ι : Type} {x : Code} (inv : ι → St) (pre : ι → Prop) (μ : ι → Nat) (h0 : ∃ i, pre i ∧ Wk c α (inv i))
    (round : ∀ i, pre i → T P c x (thenQ (fun α' => ∃ j, pre j ∧ μ j < μ i ∧ Wk c α' (inv j)) Q) (inv i)) : T P c (.loop x) Q α := by
  intro a w hR
  obtain ⟨i0, hp0, hw0⟩ := h0
  have key : ∀ (n : Nat) (i : ι), μ i < n → pre i → ∀ a w, R c (inv i) a w → Code.rounds P x (fun e a' w' => ∃ α', Q e α' ∧ R c α' a' w') n a w := by
    intro n
    induction n with
    | zero => intro i hn; omega
    | succ n ih =>
      intro i hn hp a w hR
      rw [rounds_succ]
      refine Code.wp_mono ?_ (round i hp a w hR)
      rintro e a' w' ⟨α', hq, hR'⟩
      cases e with
      | normal =>
        obtain ⟨j, hpj, hlt, hwk⟩ := hq
        exact ih j (by omega) hpj a' w' (hwk a' w' hR')
      | _ => exact ⟨α', hq, hR'⟩
  exact wp_loop_rounds (μ i0 + 1) (key _ i0 (by omega) hp0 a w (hw0 a w hR))

def slotsB (α : St) : List (Nat × V) → Prop
  | [] => True
  | (s, v) :: l => α.get s = v ∧ slotsB α l
def obsB (α : St) : List (Nat × Option Ob) → Prop
  | [] => True
  | (i, o) :: l => α.ob i = o ∧ obsB α l

theorem slotsB_look {α : St} : ∀ {l : List (Nat × V)}, slotsB α l → ∀ s, look .junk l s = .junk ∨ look .junk l s = α.get s
  | [], _, s => .inl rfl
  | (i, v) :: l, h, s => by
    rw [look_cons]
    by_cases hi : i = s
    · subst hi; rw [if_pos rfl]; exact .inr h.1.symm
    · rw [if_neg hi]; exact slotsB_look h.2 s

theorem obsB_look {α : St} : ∀ {l : List (Nat × Option Ob)}, obsB α l → ∀ i o, look none l i = some o → α.ob i = some o
  | [], _, i, o, h => by cases h
  | (j, o') :: l, h, i, o, hl => by
    rw [look_cons] at hl
    by_cases hi : j = i
    · subst hi; rw [if_pos rfl] at hl; rw [← hl]; exact h.1
    · rw [if_neg hi] at hl; exact obsB_look h.2 i o hl

theorem Wk.of {α α' : St} (hn : α'.n = α.n) (hp : α'.pin = α.pin) (hs : slotsB α α'.sl) (ho : obsB α α'.hp) : Wk c α α' := by
  rintro a w ⟨β, φ, H⟩
  have hob : ∀ id o, α'.ob id = some o → α.ob id = some o := fun id o h => obsB_look ho id o h
  have hless : ∀ b, Sof c α' φ b → Sof c α φ b ∨ w.heap.size ≤ b := by
    rintro b (hb | ⟨id, o, h, hb⟩)
    · exact .inl (.inl hb)
    · exact .inl (.inr ⟨id, o, hob id o h, hb⟩)
  have hag : ∀ F, Agree (Sof c α φ) F w w := fun F => ⟨fun _ _ _ => rfl, Nat.le_refl _⟩
  refine ⟨β, φ, H.defers, by rw [hn]; exact H.size, ?_, ?_, fun id o h => H.nodup id o (hob id o h), fun i j oi oj hi hj => H.apart i j oi oj (hob i oi hi) (hob j oj hj), fun id o h => H.mine id o (hob id o h), H.keep, by rw [hp]; exact H.heads⟩
  · intro s
    rcases slotsB_look hs s with h | h
    · rw [St.get, h, VR]; trivial
    · rw [St.get, h]; exact (H.slots s).move (hag _) hless (fun _ _ => rfl)
  · intro id o h
    exact (H.objs id o (hob id o h)).move (hag _) hless (fun _ _ => rfl)

end

def argSlots (k : Nat) : List V → List (Nat × V)
  | [] => []
  | v :: vs => (k, v) :: argSlots (k + 1) vs

inductive ResV (P : Program) (α : St) : ResultVar → V → Prop
  | tmp (t : Nat) {v} (hv : α.get t = v) : ResV P α (.tmp t) v
  | cell1 (s t : Nat) {id cs v} (hs : α.get s = .ptr id 0) (ho : α.ob id = some (.box cs)) (ht : AggIs P t false) (hv : cs[0]? = some v) : ResV P α (.cell s t) v
  | cellA (s t : Nat) {id cs} (hs : α.get s = .ptr id 0) (ho : α.ob id = some (.box cs)) (ht : AggIs P t true) (hz : SizeIs P t cs.length) : ResV P α (.cell s t) (.agg cs)

inductive ResVs (P : Program) (α : St) : List ResultVar → List V → Prop
  | nil : ResVs P α [] []
  | cons {r v rs vs} (h : ResV P α r v) (hr : ResVs P α rs vs) : ResVs P α (r :: rs) (v :: vs)

def packV : List V → V
  | [v] => v
  | vs => .tup vs

def Ret (P : Program) (rs : List ResultVar) (pvs : List V) (ds' : List D) (r : D) (lend : Bool) (α : St) : Prop :=
  ∃ vs k1 k2, ResVs P α rs vs ∧ Exps α.ob (fun _ => none) pvs ds' k1 ∧ Exp α.ob (fun id => if lend = true ∧ id ∉ k1 ++ k2 then α.ob id else none) (packV vs) r k2 ∧ nodupB (k1 ++ k2) = true ∧ ((idss pvs).all fun i => α.pin.contains i) = true

def startSt (n : Nat) (ds : List D) : St :=
  let i := imps 1 ds
  { n := n, sl := argSlots 0 i.1, hp := i.2.1.map fun p => (p.1, some p.2), pin := i.2.1.map Prod.fst }

theorem argSlots_look {S w β} : ∀ (vs : List V) (xs : List Value), VRs S w β vs xs → ∀ (k s : Nat), VR S w β (look .junk (argSlots k vs) s) (if k ≤ s then xs.getD (s - k) undef else undef)
  | [], xs, h, k, s => by rw [argSlots, look, VR]; trivial
  | v :: vs, xs, h, k, s => by
    rw [VRs] at h
    obtain ⟨x, xs', rfl, h1, h2⟩ := h
    rw [argSlots, look_cons]
    by_cases hk : k = s
    · subst hk; rw [if_pos rfl, if_pos (Nat.le_refl _), Nat.sub_self]; exact h1
    · rw [if_neg hk]
      have := argSlots_look vs xs' h2 (k + 1) s
      by_cases hle : k ≤ s
      · rw [if_pos (by omega)] at this
        rw [if_pos hle, show s - k = (s - (k + 1)) + 1 by omega]
        simpa using this
      · rw [if_neg (by omega)] at this
        rw [if_neg hle]; exact this

def resSem (tmps : Array Value) : ResultVar → Sem Value
  | .tmp t => pure (tmps.getD t undef)
  | .cell a t => do loadVar t (← asAddr (tmps.getD a undef))

theorem results_eq (fn : Func) (tmps : Array Value) : results fn tmps = (do let vs ← fn.results.mapM (resSem tmps); pure (if h : vs.size = 1 then vs[0] else .tuple vs)) := by
  unfold results
  have : (fun (x : ResultVar) => match x with | .tmp t => (pure (tmps.getD t undef) : Sem Value) | .cell a t => do loadVar t (← asAddr (tmps.getD a undef))) = resSem tmps := by funext x; cases x <;> rfl
  rw [← this]
  rfl

theorem ResV.sound {P : Program} {c : Ctx} {α : St} {a : Act} {w : World} {β φ} (H : Rel c α a w β φ) {r : ResultVar} {v : V} (h : ResV P α r v) :
    ∃ x, (resSem a.tmps r).run P w = .ok x w ∧ VR (Sof c α φ) w β v x := by
  cases h with
  | tmp t hv => subst hv; exact ⟨_, rfl, H.slots t⟩
  | cell1 s t hs ho ht hv =>
    have h1 := H.slots s
    rw [hs, VR] at h1
    obtain ⟨g, e1, e2⟩ := h1
    obtain ⟨g', e, ys, e3, e4, e5, _⟩ := H.objs _ _ ho
    rw [e1] at e3
    obtain rfl : g = g' := by simpa using e3
    obtain ⟨u, e6, e7⟩ := VRs_get e5 hv
    have hc : w.cell? ⟨g, 0, none⟩ = some u := by simp [World.cell?, e4, e6]
    refine ⟨u, ?_, e7⟩
    simp only [resSem, e2, asAddr, Sem.run_bind, Sem.run_pure, Result.andThen_ok, loadVar, run_isAgg w ht]
    simp [hc]
  | cellA s t hs ho ht hz =>
    have h1 := H.slots s
    rw [hs, VR] at h1
    obtain ⟨g, e1, e2⟩ := h1
    obtain ⟨g', e, ys, e3, e4, e5, _⟩ := H.objs _ _ ho
    rw [e1] at e3
    obtain rfl : g = g' := by simpa using e3
    have hl := VRs_length e5
    have hr := run_loadCells_list (P := P) w ⟨g, 0, none⟩ ys (fun j v hj => by rw [add_block]; simp [World.cell?, e4, hj])
    rw [hl] at hr
    refine ⟨.agg ys.toArray, ?_, by rw [VR]; exact ⟨ys, rfl, e5⟩⟩
    simp only [resSem, e2, asAddr, Sem.run_bind, Sem.run_pure, Result.andThen_ok, loadVar, run_isAgg w ht, if_true, run_sizeOf w hz, hr]

theorem ResVs.sound {P : Program} {c : Ctx} {α : St} {a : Act} {w : World} {β φ} (H : Rel c α a w β φ) : ∀ {rs : List ResultVar} {vs : List V}, ResVs P α rs vs →
    ∃ xs, (rs.mapM (resSem a.tmps)).run P w = .ok xs w ∧ VRs (Sof c α φ) w β vs xs
  | _, _, .nil => ⟨[], by simp, by rw [VRs]⟩
  | _, _, .cons h hr => by
    obtain ⟨x, h1, h2⟩ := h.sound H
    obtain ⟨xs, h3, h4⟩ := ResVs.sound H hr
    refine ⟨x :: xs, ?_, by rw [VRs]; exact ⟨x, xs, rfl, h2, h4⟩⟩
    rw [List.mapM_cons]
    simp only [Sem.run_bind, h1, Result.andThen_ok, h3, Sem.run_pure]

theorem getD_args (vs : List Value) (n s : Nat) : (vs.toArray ++ Array.replicate n undef).getD s undef = vs.getD s undef := by
  by_cases h : s < vs.length
  · have h2 : s < vs.length + n := by omega
    simp [h, h2]
  · simp only [Array.getD_eq_getD_getElem?, List.getD_eq_getElem?_getD]
    rw [Array.getElem?_append_right (by simpa using h), List.getElem?_eq_none (by omega)]
    by_cases h3 : s - vs.length < n
    · simp [h3]
    · rw [Array.getElem?_eq_none (by simp; omega)]

theorem Sp_introQ {P : Program} {f : FuncId} {fn : Func} {body : Code} (hf : P.funcs[f]? = some fn) (hb : fn.body = some body) {ds ds' : List D} {r : D} {lend : Bool}
    (hlen : Nat.ble ds.length fn.ntmps = true) (hids : nodupB ((imps 1 ds).2.1.map Prod.fst) = true) (hlend : lend = true → noUs ds = true)
    {Q : (Nat → Prop) → World → List Value → Prop} {α0 : St} (h0 : ∀ c a w β φ vs, Rel c (startSt fn.ntmps ds) a w β φ → (∀ b, Sof c (startSt fn.ntmps ds) φ b → c.S b) → Q c.S w vs → vs.getD 0 undef = a.tmps.getD 0 undef → R c α0 a w)
    (h : ∀ c, CtxOK c → (noUs ds = true → c.X = []) → T P c body (fun e α => (e = .normal ∨ e = .ret) ∧ Ret P fn.results.toList (imps 1 ds).1 ds' r lend α) α0) : SpQ Q P f ds ds' r := by
  intro S w vs Fs hQ hSlt hdr hn hFS
  replace hlen := Nat.le_of_ble_eq_true hlen
  replace hids := nodupB_spec hids
  obtain ⟨hs, i1, i2⟩ := imps_sound (n := 1) hdr
  obtain ⟨β', φ', p1, p2, p3, p4⟩ := i1.place hids hn (fun _ => .nilIface) (fun _ => [])
  have hvs := i2 β' p2
  have hvl := DRs_length hdr
  refine calls_of_wp hf hb ?_
  let c : Ctx := { w0 := w, S := S, X := Fs, β0 := β' }
  have hc : CtxOK c := hSlt
  have hob : ∀ id o, (startSt fn.ntmps ds).ob id = some o → (id, o) ∈ (imps 1 ds).2.1 := by
    intro id o ho
    rcases look_mem (none : Option Ob) ((imps 1 ds).2.1.map fun p => (p.1, some p.2)) id with h' | h'
    · have : look none ((imps 1 ds).2.1.map fun p => (p.1, some p.2)) id = some o := ho
      rw [h'] at this; cases this
    · have h2 : look none ((imps 1 ds).2.1.map fun p => (p.1, some p.2)) id = some o := ho
      rw [h2] at h'
      obtain ⟨q, hq, he⟩ := List.mem_map.1 h'
      obtain ⟨q1, q2⟩ := q
      simp only [Prod.mk.injEq, Option.some.injEq] at he
      obtain ⟨rfl, rfl⟩ := he
      exact hq
  have hsof : ∀ b, Sof c (startSt fn.ntmps ds) φ' b → S b := by
    rintro b (hb | ⟨id, o, ho, hb⟩)
    · exact hb
    · exact hFS b ((p3 id o (hob id o ho)).2.2 b hb)
  have hrefl : Agree S [] w w := ⟨fun _ _ _ => rfl, Nat.le_refl _⟩
  have H0 : Rel c (startSt fn.ntmps ds) { tmps := vs.toArray ++ Array.replicate (fn.ntmps - vs.toArray.size) undef, defers := [] } w β' φ' := by
    refine ⟨rfl, ?_, ?_, ?_, fun id o ho => (p3 id o (hob id o ho)).2.1, fun i j oi oj hi hj => p4 i j oi oj (hob i oi hi) (hob j oj hj), fun id o ho b hb => .inr ((p3 id o (hob id o ho)).2.2 b hb), Keep.refl _ _, fun _ _ => rfl⟩
    · show (vs.toArray ++ Array.replicate (fn.ntmps - vs.toArray.size) undef).size = fn.ntmps
      simp; omega
    · intro s
      have := argSlots_look _ _ hvs 0 s
      rw [if_pos (Nat.zero_le _), Nat.sub_zero] at this
      have e1 : ({ tmps := vs.toArray ++ Array.replicate (fn.ntmps - vs.toArray.size) undef, defers := [] } : Act).tmps.getD s undef = vs.getD s undef := getD_args vs _ s
      rw [e1]
      exact VR.move hrefl (fun b hb => .inl (hsof b hb)) (fun _ _ => rfl) this
    · intro id o ho
      obtain ⟨⟨d0, hdat, h1⟩, _, _⟩ := p3 id o (hob id o ho)
      rw [Ob.dat_or hdat]
      exact h1.less (fun b _ hb => hsof b hb)
  refine Code.wp_mono ?_ (h c hc (fun hno => hdr.noU hno) _ _ (h0 c _ _ β' φ' vs H0 hsof hQ (getD_args vs _ 0).symm))
  rintro e a' w' ⟨α, ⟨he, rvs, k1, k2, q1, q2, q3, q4, q5⟩, β, φ, H⟩
  replace q4 := nodupB_spec q4
  replace q5 : ∀ id ∈ idss (imps 1 ds).1, id ∈ α.pin := fun id hid => by have := List.all_eq_true.1 q5 id hid; simpa using this
  have key : a'.defers = [] ∧ ∃ v, (results fn a'.tmps).run P w' = .ok v w' ∧ ∃ v' F Fs', Ending.returned v = .returned v' ∧ DRs (fun b => S b ∨ b ∈ Fs' ++ F) w' ds' vs Fs' ∧ DR (fun b => S b ∨ b ∈ Fs' ++ F) w' r v' F ∧
      (Fs' ++ F).Nodup ∧ (∀ b ∈ Fs' ++ F, b ∈ Fs ∨ w.heap.size ≤ b) ∧ Keep Fs w w' := by
    refine ⟨H.defers, ?_⟩
    obtain ⟨xs, r1, r2⟩ := ResVs.sound H q1
    have hres : ∃ v, (results fn a'.tmps).run P w' = .ok v w' ∧ VR (Sof c α φ) w' β (packV rvs) v := by
      refine ⟨if h : xs.toArray.size = 1 then xs.toArray[0] else .tuple xs.toArray, ?_, ?_⟩
      · rw [results_eq, Array.mapM_eq_mapM_toList]
        simp only [Sem.run_bind, Sem.run_map, r1, Result.andThen_ok, Sem.run_pure]
      · match rvs, xs, r2 with
        | [], xs, r2 => rw [VRs] at r2; subst r2; simp only [packV]; rw [VR]; exact ⟨[], by simp, by rw [VRs]⟩
        | [v], xs, r2 =>
          rw [VRs] at r2
          obtain ⟨x, xs', rfl, h1, h2⟩ := r2
          rw [VRs] at h2; subst h2
          simpa [packV] using h1
        | v1 :: v2 :: rvs, xs, r2 =>
          have hl := VRs_length r2
          simp only [packV]
          rw [VR]
          refine ⟨xs, ?_, r2⟩
          rw [dif_neg (by simp [hl])]
    obtain ⟨v, hrun, hv⟩ := hres
    refine ⟨v, hrun, v, k2.flatMap φ, k1.flatMap φ, rfl, ?_, ?_, ?_, ?_, H.keep⟩
    all_goals
      have hk12 : ∀ k ∈ k1 ++ k2, ∃ ok, α.ob k = some ok := by
        intro k hk
        rcases List.mem_append.1 hk with hk | hk
        · exact Exps.ids q2 k hk
        · exact Exp.ids q3 k hk
      have hg := given H hk12
      rw [List.flatMap_append] at hg
      have hl2 : ∀ b, b < w'.heap.size → (S b ∨ b ∈ k1.flatMap φ ++ k2.flatMap φ) → Sof c α φ b := by
        rintro b _ (hb | hb)
        · exact .inl hb
        · obtain ⟨k, _, ok, hok, hm⟩ := hg b hb
          exact .inr ⟨k, ok, hok, hm⟩
    · have hag : Agree S [] w w' := ⟨fun b hb hx => H.keep.block b hb fun hm => (hx.resolve_right (by simp)) (hFS b hm), H.keep.size⟩
      have hpv : VRs (Sof c α φ) w' β (imps 1 ds).1 vs := by
        refine VRs.move hag ?_ ?_ hvs
        · rintro b (hb | ⟨id, o, ho, hb⟩)
          · exact .inl hb
          · rcases H.mine id o ho b hb with h1 | h1
            · exact .inr h1
            · exact .inl (hFS b h1)
        · intro id hid
          exact H.heads id (q5 id hid)
      exact Exps.sound hl2 H.objs (open_none hl2) q2 hpv
    · refine Exp.sound hl2 H.objs ⟨hl2, ?_, ?_⟩ q3 hv
      · intro id o ho
        split at ho
        · exact H.objs id o ho
        · cases ho
      · intro id o ho b hb hb2
        split at ho
        · rename_i hcond
          have hFs0 : Fs = [] := hdr.noU (hlend hcond.1)
          rcases hb2 with hb2 | hb2
          · rcases H.mine id o ho b hb with h1 | h1
            · have := hSlt b hb2; have h1' : w.heap.size ≤ b := h1; omega
            · have h1' : b ∈ Fs := h1; rw [hFs0] at h1'; simp at h1'
          · obtain ⟨k, hk, ok, hok, hm⟩ := hg b hb2
            exact H.apart id k o ok ho hok (fun e => hcond.2 (e ▸ hk)) b hb hm
        · cases ho
    · rw [← List.flatMap_append]; exact flatMap_nodup H q4 hk12
    · intro b hb
      obtain ⟨k, _, ok, hok, hm⟩ := hg b hb
      exact (H.mine k ok hok b hm).symm
  rcases he with rfl | rfl
  · exact key
  · exact key

theorem Sp_intro {P : Program} {f : FuncId} {fn : Func} {body : Code} (hf : P.funcs[f]? = some fn) (hb : fn.body = some body) {ds ds' : List D} {r : D} {lend : Bool}
    (hlen : Nat.ble ds.length fn.ntmps = true) (hids : nodupB ((imps 1 ds).2.1.map Prod.fst) = true) (hlend : lend = true → noUs ds = true)
    (h : ∀ c, CtxOK c → (noUs ds = true → c.X = []) → T P c body (fun e α => (e = .normal ∨ e = .ret) ∧ Ret P fn.results.toList (imps 1 ds).1 ds' r lend α) (startSt fn.ntmps ds)) : Sp P f ds ds' r :=
  fun S w vs Fs => Sp_introQ (Q := fun _ _ _ => True) hf hb hlen hids hlend (fun _ _ _ β φ _ H _ _ _ => ⟨β, φ, H⟩) h S w vs Fs trivial

end Go.AM
