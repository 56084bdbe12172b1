/-
  The abstract machine, part D: a datum taken in as slot value and own objects ('imp'); a slot value given away as a datum ('Exp'), lent as a datum ('Bor'); contracts ('Sp').
-/
import Derived.Test.YtlnimdlpggnjeaaGreatDoorAmD0
namespace Go.AM

mutual
def D.noU : D → Bool
  | .int .. | .bool .. | .str .. | .hole .. | .any => true
  | .agg cs => noUs cs
  | .tup cs => noUs cs
  | .slice u _ _ => !u
  | .box _ => false
  | .map _ _ => false
  | .ref _ => true
  | .fn _ _ => true
def noUs : List D → Bool
  | [] => true
  | d :: ds => d.noU && noUs ds
end

mutual
theorem DR.noU {S w} : ∀ {d v F}, d.noU = true → DR S w d v F → F = []
  | .int .., _, _, _, h => by rw [DR] at h; exact h.2
  | .bool .., _, _, _, h => by rw [DR] at h; exact h.2
  | .hole .., _, _, _, h => by rw [DR] at h; exact h.2
  | .str .., _, _, _, h => by rw [DR] at h; exact h.2
  | .any, _, _, _, h => by rw [DR] at h; exact h
  | .agg cs, _, _, hn, h => by rw [DR] at h; obtain ⟨_, vs, _, h3⟩ := h; exact DRs.noU (by simpa [D.noU] using hn) h3
  | .tup cs, _, _, hn, h => by rw [DR] at h; obtain ⟨vs, _, h3⟩ := h; exact DRs.noU (by simpa [D.noU] using hn) h3
  | .fn f cs, _, _, _, h => by rw [DR] at h; exact h.1
  | .ref x, _, _, _, h => by rw [DR] at h; exact h.1
  | .slice false sz xs, _, _, _, h => by rw [DR] at h; exact h.1
  | .slice true sz xs, _, _, hn, h => by simp [D.noU] at hn
  | .box cs, _, _, hn, h => by simp [D.noU] at hn
  | .map ks xs, _, _, hn, h => by simp [D.noU] at hn
theorem DRs.noU {S w} : ∀ {ds vs F}, noUs ds = true → DRs S w ds vs F → F = []
  | [], _, _, _, h => by rw [DRs] at h; exact h.2
  | d :: ds, vs, F, hn, h => by
    rw [DRs] at h
    simp only [noUs, Bool.and_eq_true] at hn
    obtain ⟨v, vs', F1, F2, h1, rfl, h2, h3⟩ := h
    rw [DR.noU hn.1 h2, DRs.noU hn.2 h3]; rfl
end

mutual
def imp (n : Nat) : D → V × List (Nat × Ob) × Nat
  | .slice true sz xs => (.row n, [(n, .row sz xs)], n + 1)
  | .box cs => (.ptr n 0, [(n, .boxd cs)], n + 1)
  | .map ks xs => (.mp n, [(n, .mapo ks xs)], n + 1)
  | .agg cs => bif noUs cs then (.d (.agg cs), [], n) else let r := imps n cs; (.agg r.1, r.2)
  | .tup cs => let r := imps n cs; (.tup r.1, r.2)
  | .int k m => (.d (.int k m), [], n)
  | .bool b => (.d (.bool b), [], n)
  | .hole u => (.d (.hole u), [], n)
  | .str s => (.d (.str s), [], n)
  | .slice false sz xs => (.d (.slice false sz xs), [], n)
  | .ref x => (.d (.ref x), [], n)
  | .fn f cs => (.d (.fn f cs), [], n)
  | .any => (.junk, [], n)
def imps (n : Nat) : List D → List V × List (Nat × Ob) × Nat
  | [] => ([], [], n)
  | d :: ds => let r := imp n d; let s := imps r.2.2 ds; (r.1 :: s.1, r.2.1 ++ s.2.1, s.2.2)
end

inductive Held (S : Nat → Prop) (w : World) : List (Nat × Ob) → List (Value × List Nat) → List Nat → Prop
  | nil : Held S w [] [] []
  | cons {id o d l hs F F'} (v : Value) (hd : Ob.dat o = some d) (h : DR S w d v F) (r : Held S w l hs F') : Held S w ((id, o) :: l) ((v, F) :: hs) (F ++ F')

theorem Held.append {S w l l' hs hs' F F'} (h : Held S w l hs F) (h' : Held S w l' hs' F') : Held S w (l ++ l') (hs ++ hs') (F ++ F') := by
  induction h with
  | nil => exact h'
  | cons v hd h r ih => rw [List.append_assoc]; exact .cons v hd h ih

def Heads (β : Nat → Value) (l : List (Nat × Ob)) (hs : List (Value × List Nat)) : Prop := l.length = hs.length ∧ ∀ p ∈ l.zip hs, β p.1.1 = p.2.1

theorem Heads.left {β l l' hs hs'} (hl : l.length = hs.length) (h : Heads β (l ++ l') (hs ++ hs')) : Heads β l hs ∧ Heads β l' hs' := by
  obtain ⟨h1, h2⟩ := h
  rw [List.zip_append hl] at h2
  exact ⟨⟨hl, fun p hp => h2 p (List.mem_append_left _ hp)⟩, ⟨by simpa [hl] using h1, fun p hp => h2 p (List.mem_append_right _ hp)⟩⟩

theorem Held.len {S w l hs F} (h : Held S w l hs F) : l.length = hs.length := by
  induction h with
  | nil => rfl
  | cons v hd h r ih => simp [ih]

mutual
theorem imp_sound {S w} : ∀ {d : D} {n : Nat} {v F}, DR S w d v F →
    ∃ hs, Held S w (imp n d).2.1 hs F ∧ ∀ β, Heads β (imp n d).2.1 hs → VR S w β (imp n d).1 v
  | .slice true sz xs, n, v, F, h => by
    rw [imp]
    refine ⟨[(v, F)], by simpa using Held.cons v (by rfl) h .nil, fun β hβ => ?_⟩
    rw [VR]
    refine ⟨(hβ.2 ((n, .row sz xs), (v, F)) (by simp)).symm, ?_⟩
    rw [DR] at h
    obtain ⟨vs, F1, F2, _, h1, _⟩ := h
    rcases h1 with ⟨⟨a0, h1⟩, _⟩ | ⟨g, c, cur, e, fr, h1, _⟩
    · exact ⟨_, _, _, h1⟩
    · exact ⟨_, _, _, h1⟩
  | .box cs, n, v, F, h => by
    rw [imp]
    refine ⟨[(v, F)], by simpa using Held.cons v (by rfl) h .nil, fun β hβ => ?_⟩
    rw [VR]
    have h0 := hβ.2 ((n, .boxd cs), (v, F)) (by simp)
    rw [DR] at h
    obtain ⟨_, g, e, ys, F1, h2, _⟩ := h
    exact ⟨g, h0.trans h2, h2⟩
  | .map ks xs, n, v, F, h => by
    rw [imp]
    refine ⟨[(v, F)], by simpa using Held.cons v (by rfl) h .nil, fun β hβ => ?_⟩
    rw [VR]
    exact (hβ.2 ((n, .mapo ks xs), (v, F)) (by simp)).symm
  | .agg cs, n, v, F, h => by
    rw [imp]
    cases hn : noUs cs with
    | true =>
      have hF : F = [] := DR.noU (d := .agg cs) (by simpa [D.noU] using hn) h
      subst hF
      exact ⟨[], .nil, fun β _ => by rw [cond_true, VR]; exact h⟩
    | false =>
      rw [cond_false]
      rw [DR] at h
      obtain ⟨_, vs, rfl, h3⟩ := h
      obtain ⟨hs, h4, h5⟩ := imps_sound (n := n) h3
      exact ⟨hs, h4, fun β hβ => by rw [VR]; exact ⟨vs, rfl, h5 β hβ⟩⟩
  | .tup cs, n, v, F, h => by
    rw [imp]
    rw [DR] at h
    obtain ⟨vs, rfl, h3⟩ := h
    obtain ⟨hs, h4, h5⟩ := imps_sound (n := n) h3
    exact ⟨hs, h4, fun β hβ => by rw [VR]; exact ⟨vs, rfl, h5 β hβ⟩⟩
  | .int k m, n, v, F, h => by
    have hF : F = [] := DR.noU (d := .int k m) rfl h
    subst hF; rw [imp]; exact ⟨[], .nil, fun β _ => by rw [VR]; exact h⟩
  | .bool b, n, v, F, h => by
    have hF : F = [] := DR.noU (d := .bool b) rfl h
    subst hF; rw [imp]; exact ⟨[], .nil, fun β _ => by rw [VR]; exact h⟩
  | .hole b, n, v, F, h => by
    have hF : F = [] := DR.noU (d := .hole b) rfl h
    subst hF; rw [imp]; exact ⟨[], .nil, fun β _ => by rw [VR]; exact h⟩
  | .str s, n, v, F, h => by
    have hF : F = [] := DR.noU (d := .str s) rfl h
    subst hF; rw [imp]; exact ⟨[], .nil, fun β _ => by rw [VR]; exact h⟩
  | .slice false sz xs, n, v, F, h => by
    have hF : F = [] := by rw [DR] at h; exact h.1
    subst hF; rw [imp]; exact ⟨[], .nil, fun β _ => by rw [VR]; exact h⟩
  | .ref x, n, v, F, h => by
    have hF : F = [] := by rw [DR] at h; exact h.1
    subst hF; rw [imp]; exact ⟨[], .nil, fun β _ => by rw [VR]; exact h⟩
  | .fn f cs, n, v, F, h => by
    have hF : F = [] := by rw [DR] at h; exact h.1
    subst hF; rw [imp]; exact ⟨[], .nil, fun β _ => by rw [VR]; exact h⟩
  | .any, n, v, F, h => by
    have hF : F = [] := by rw [DR] at h; exact h
    subst hF; rw [imp]; exact ⟨[], .nil, fun β _ => by rw [VR]; trivial⟩
theorem imps_sound {S w} : ∀ {ds : List D} {n : Nat} {vs F}, DRs S w ds vs F →
    ∃ hs, Held S w (imps n ds).2.1 hs F ∧ ∀ β, Heads β (imps n ds).2.1 hs → VRs S w β (imps n ds).1 vs
  | [], n, vs, F, h => by
    rw [DRs] at h
    obtain ⟨rfl, rfl⟩ := h
    exact ⟨[], .nil, fun β _ => by rw [imps, VRs]⟩
  | d :: ds, n, vs, F, h => by
    rw [DRs] at h
    obtain ⟨v, vs', F1, F2, rfl, rfl, h1, h2⟩ := h
    obtain ⟨hs, a1, a2⟩ := imp_sound (n := n) h1
    obtain ⟨hs', b1, b2⟩ := imps_sound (n := (imp n d).2.2) h2
    refine ⟨hs ++ hs', by rw [imps]; exact a1.append b1, fun β hβ => ?_⟩
    rw [imps] at hβ ⊢
    obtain ⟨c1, c2⟩ := Heads.left a1.len hβ
    rw [VRs]
    exact ⟨v, vs', rfl, a2 β c1, b2 β c2⟩
end

mutual
inductive Bor (h : Nat → Option Ob) : V → D → Prop
  | d (x : D) : Bor h (.d x) x
  | nil (u : Bool) (sz : Nat) : Bor h (.c (.slice none 0 0)) (.slice u sz [])
  | row {id sz xs ys} (ho : h id = some (.row sz xs)) (hy : frozs xs = ys) : Bor h (.row id) (.slice false sz ys)
  | tight (sz : Nat) (xs : List D) : Bor h (.tight sz xs) (.slice false sz xs)
  | sub {id sz l r xs ys} (ho : h id = some (.row sz xs)) (h1 : l ≤ r) (h2 : r ≤ xs.length) (hy : ((frozs xs).take r).drop l = ys) : Bor h (.sub id sz l r) (.slice false sz ys)
  | ptr {id cs d} (ho : h id = some (.box cs)) (hv : BorBox h cs d) : Bor h (.ptr id 0) (.ref d)
  | agg {vs ds} (hv : Bors h vs ds) (h1 : (ds.all D.one) = true) : Bor h (.agg vs) (.agg ds)
  | fn {f vs ds} (hv : Bors h vs ds) : Bor h (.fn f vs) (.fn f ds)
inductive Bors (h : Nat → Option Ob) : List V → List D → Prop
  | nil : Bors h [] []
  | cons {v vs d ds} (hv : Bor h v d) (hvs : Bors h vs ds) : Bors h (v :: vs) (d :: ds)
inductive BorBox (h : Nat → Option Ob) : List V → D → Prop
  | one {v d} (hv : Bor h v d) (h1 : d.one = true) : BorBox h [v] d
  | agg {vs ds} (hv : Bors h vs ds) (h1 : (ds.all D.one) = true) : BorBox h vs (.agg ds)
end

mutual
inductive Exp (h hb : Nat → Option Ob) : V → D → List Nat → Prop
  | d (x : D) : Exp h hb (.d x) x []
  | nil (u : Bool) (sz : Nat) : Exp h hb (.c (.slice none 0 0)) (.slice u sz []) []
  | row {id sz xs} (ho : h id = some (.row sz xs)) : Exp h hb (.row id) (.slice true sz xs) [id]
  | tight (sz : Nat) (xs : List D) : Exp h hb (.tight sz xs) (.slice false sz xs) []
  | agg {vs ds ks} (hv : Exps h hb vs ds ks) (h1 : (ds.all D.one) = true) : Exp h hb (.agg vs) (.agg ds) ks
  | tup {vs ds ks} (hv : Exps h hb vs ds ks) : Exp h hb (.tup vs) (.tup ds) ks
  | box {id us cs ks} (ho : h id = some (.box us)) (hv : Exps h hb us cs ks) (h1 : (cs.all D.one) = true) : Exp h hb (.ptr id 0) (.box cs) (id :: ks)
  | boxd {id cs} (ho : h id = some (.boxd cs)) : Exp h hb (.ptr id 0) (.box cs) [id]
  | map {id ks xs} (ho : h id = some (.mapo ks xs)) : Exp h hb (.mp id) (.map ks xs) [id]
  | lend {v d} (hv : Bor hb v d) : Exp h hb v d []
  | any (v : V) : Exp h hb v .any []
inductive Exps (h hb : Nat → Option Ob) : List V → List D → List Nat → Prop
  | nil : Exps h hb [] [] []
  | cons {v vs d ds k ks} (hv : Exp h hb v d k) (hvs : Exps h hb vs ds ks) : Exps h hb (v :: vs) (d :: ds) (k ++ ks)
end

theorem nil_reads {S w} (u : Bool) (sz : Nat) : DR S w (.slice u sz []) (.slice none 0 0) [] := by
  cases u with
  | false => rw [DR]; exact ⟨rfl, none, 0, rfl, by simp, .inl rfl⟩
  | true => rw [DR]; exact ⟨[], [], [], rfl, .inl ⟨⟨none, rfl⟩, rfl, rfl, rfl⟩, by rw [DRs]; exact ⟨rfl, rfl⟩, by simp, by simp⟩

structure Open (S S' : Nat → Prop) (w : World) (β : Nat → Value) (φ : Nat → List Nat) (h : Nat → Option Ob) : Prop where
  less : ∀ b, b < w.heap.size → S' b → S b
  objs : ∀ id o, h id = some o → OR S w β o (β id) (φ id)
  free : ∀ id o, h id = some o → ∀ b ∈ φ id, ¬ S' b

mutual
theorem Bor.sound {S S' w β φ h} (ho : Open S S' w β φ h) : ∀ {v d}, Bor h v d → ∀ {x}, VR S w β v x → DR S' w d x []
  | _, _, .d x, y, hv => by rw [VR] at hv; exact hv.less ho.less
  | _, _, .nil u sz, y, hv => by rw [VR] at hv; subst hv; exact nil_reads u sz
  | _, _, .row (id := id) hid hy, y, hv => by
    subst hy
    rw [VR] at hv; obtain ⟨rfl, _⟩ := hv
    have := ho.objs _ _ hid
    exact DR.froz (d := .slice true _ _) (fun b hb h' => ⟨ho.less b hb h', fun hm => ho.free _ _ hid b hm h'⟩) this
  | _, _, .tight sz xs, y, hv => by rw [VR] at hv; exact hv.2.less ho.less
  | _, _, .sub (id := id) hid h1 h2 hy, y, hv => by
    subst hy
    rw [VR] at hv
    obtain ⟨ad, n, c, e1, _, _, rfl⟩ := hv
    have := ho.objs _ _ hid
    have h3 := DR.froz (S' := S') (d := .slice true _ _) (fun b hb h' => ⟨ho.less b hb h', fun hm => ho.free _ _ hid b hm h'⟩) this
    rw [e1, D.froz] at h3
    exact DR_sub h3 h1 (by rw [frozs_eq, List.length_map]; exact h2)
  | _, _, .ptr (id := id) hid hb, y, hv => by
    rw [VR] at hv
    obtain ⟨g, h1, rfl⟩ := hv
    obtain ⟨g', e, ys, h2, h3, h4, h5⟩ := ho.objs _ _ hid
    rw [h1] at h2
    obtain rfl : g = g' := by simpa using h2
    obtain ⟨y, h6, h7⟩ := BorBox.sound ho hb h4
    have hS : ¬ S' g := ho.free _ _ hid g (by rw [h5]; simp)
    rw [DR]
    refine ⟨rfl, g, 0, y, rfl, hS, h6, ?_, (Array.getElem?_eq_some_iff.1 h3).1⟩
    rw [h7]
    intro j v hj
    simp [World.cell?, h3, hj]
  | _, _, .agg hb h1, y, hv => by
    rw [VR] at hv
    obtain ⟨vs, rfl, h2⟩ := hv
    rw [DR]
    exact ⟨fun c hc => List.all_eq_true.1 h1 c hc, vs, rfl, Bors.sound ho hb h2⟩
  | _, _, .fn hb, y, hv => by
    rw [VR] at hv
    obtain ⟨vs, rfl, h2⟩ := hv
    rw [DR]
    exact ⟨rfl, vs, rfl, Bors.sound ho hb h2⟩
theorem Bors.sound {S S' w β φ h} (ho : Open S S' w β φ h) : ∀ {vs ds}, Bors h vs ds → ∀ {xs}, VRs S w β vs xs → DRs S' w ds xs []
  | _, _, .nil, xs, hv => by rw [VRs] at hv; subst hv; rw [DRs]; exact ⟨rfl, rfl⟩
  | _, _, .cons hb hbs, xs, hv => by
    rw [VRs] at hv
    obtain ⟨x, xs', rfl, h1, h2⟩ := hv
    rw [DRs]
    exact ⟨x, xs', [], [], rfl, rfl, Bor.sound ho hb h1, Bors.sound ho hbs h2⟩
theorem BorBox.sound {S S' w β φ h} (ho : Open S S' w β φ h) : ∀ {cs d}, BorBox h cs d → ∀ {ys}, VRs S w β cs ys → ∃ y, DR S' w d y [] ∧ y.cells.toList = ys
  | _, _, .one hb h1, ys, hv => by
    rw [VRs] at hv
    obtain ⟨x, xs', rfl, h2, h3⟩ := hv
    rw [VRs] at h3; subst h3
    have h4 := Bor.sound ho hb h2
    exact ⟨x, h4, by rw [(cells_of_one h1 h4).1]⟩
  | _, _, .agg hb h1, ys, hv => by
    refine ⟨.agg ys.toArray, ?_, rfl⟩
    rw [DR]
    exact ⟨fun c hc => List.all_eq_true.1 h1 c hc, ys, rfl, Bors.sound ho hb hv⟩
end

mutual
theorem Exp.sound {S S' w β φ h hb} (hl : ∀ b, b < w.heap.size → S' b → S b) (hobj : ∀ id o, h id = some o → OR S w β o (β id) (φ id)) (ho : Open S S' w β φ hb) : ∀ {v d ks}, Exp h hb v d ks → ∀ {x}, VR S w β v x → DR S' w d x (ks.flatMap φ)
  | _, _, _, .d x, y, hv => by rw [VR] at hv; exact hv.less hl
  | _, _, _, .nil u sz, y, hv => by rw [VR] at hv; subst hv; exact nil_reads u sz
  | _, _, _, .row (id := id) hid, y, hv => by
    rw [VR] at hv; obtain ⟨rfl, _⟩ := hv
    have := hobj _ _ hid
    simpa using DR.less hl this
  | _, _, _, .tight sz xs, y, hv => by rw [VR] at hv; exact hv.2.less hl
  | _, _, _, .agg hb h1, y, hv => by
    rw [VR] at hv
    obtain ⟨vs, rfl, h2⟩ := hv
    rw [DR]
    exact ⟨fun c hc => List.all_eq_true.1 h1 c hc, vs, rfl, Exps.sound hl hobj ho hb h2⟩
  | _, _, _, .tup hb, y, hv => by
    rw [VR] at hv
    obtain ⟨vs, rfl, h2⟩ := hv
    rw [DR]
    exact ⟨vs, rfl, Exps.sound hl hobj ho hb h2⟩
  | _, _, _, .box (id := id) (ks := ks) hid hbs h1, y, hv => by
    rw [VR] at hv
    obtain ⟨g, h1', rfl⟩ := hv
    obtain ⟨g', e, ys, h2, h3, h4, h5⟩ := hobj _ _ hid
    rw [h1'] at h2
    obtain rfl : g = g' := by simpa using h2
    have h6 := Exps.sound hl hobj ho hbs h4
    rw [DR]
    exact ⟨fun c hc => List.all_eq_true.1 h1 c hc, g, e, ys, ks.flatMap φ, rfl, h3, by rw [List.flatMap_cons, h5]; rfl, h6⟩
  | _, _, _, .boxd (id := id) hid, y, hv => by
    rw [VR] at hv
    obtain ⟨g, h1', rfl⟩ := hv
    have := hobj _ _ hid
    rw [h1'] at this
    simpa using DR.less hl this
  | _, _, _, .map (id := id) hid, y, hv => by
    rw [VR] at hv; subst hv
    have := hobj _ _ hid
    simpa using DR.less hl this
  | _, _, _, .lend hb, y, hv => Bor.sound ho hb hv
  | _, _, _, .any v, y, hv => by rw [DR]; rfl
theorem Exps.sound {S S' w β φ h hb} (hl : ∀ b, b < w.heap.size → S' b → S b) (hobj : ∀ id o, h id = some o → OR S w β o (β id) (φ id)) (ho : Open S S' w β φ hb) : ∀ {vs ds ks}, Exps h hb vs ds ks → ∀ {xs}, VRs S w β vs xs → DRs S' w ds xs (ks.flatMap φ)
  | _, _, _, .nil, xs, hv => by rw [VRs] at hv; subst hv; rw [DRs]; exact ⟨rfl, rfl⟩
  | _, _, _, .cons hb hbs, xs, hv => by
    rw [VRs] at hv
    obtain ⟨x, xs', rfl, h1, h2⟩ := hv
    rw [DRs]
    exact ⟨x, xs', _, _, rfl, by rw [List.flatMap_append], Exp.sound hl hobj ho hb h1, Exps.sound hl hobj ho hbs h2⟩
end

mutual
theorem Exp.ids {h hb} : ∀ {v d ks}, Exp h hb v d ks → ∀ k ∈ ks, ∃ o, h k = some o
  | _, _, _, .d x, k, hk => by simp at hk
  | _, _, _, .nil u sz, k, hk => by simp at hk
  | _, _, _, .row hid, k, hk => by simp at hk; subst hk; exact ⟨_, hid⟩
  | _, _, _, .tight sz xs, k, hk => by simp at hk
  | _, _, _, .agg hb _, k, hk => Exps.ids hb k hk
  | _, _, _, .tup hb, k, hk => Exps.ids hb k hk
  | _, _, _, .box hid hbs _, k, hk => by
    rcases List.mem_cons.1 hk with rfl | hk
    · exact ⟨_, hid⟩
    · exact Exps.ids hbs k hk
  | _, _, _, .boxd hid, k, hk => by simp at hk; subst hk; exact ⟨_, hid⟩
  | _, _, _, .map hid, k, hk => by simp at hk; subst hk; exact ⟨_, hid⟩
  | _, _, _, .lend _, k, hk => by simp at hk
  | _, _, _, .any _, k, hk => by simp at hk
theorem Exps.ids {h hb} : ∀ {vs ds ks}, Exps h hb vs ds ks → ∀ k ∈ ks, ∃ o, h k = some o
  | _, _, _, .nil, k, hk => by simp at hk
  | _, _, _, .cons h1 h2, k, hk => (List.mem_append.1 hk).elim (Exp.ids h1 k) (Exps.ids h2 k)
end

theorem open_none {S S' w β φ} (hl : ∀ b, b < w.heap.size → S' b → S b) : Open S S' w β φ (fun _ => none) :=
  ⟨hl, (fun _ _ h => by cases h), (fun _ _ h => by cases h)⟩

end Go.AM
