/-
  The abstract machine, part R: arguments of any shape (texts, numbers, truth values, structs, slices), read as data: one law a shape.
-/
import Derived.Test.YtlnimdlpggnjeaaGreatDoorAmQ
namespace Go.AM
open Go.ChangeShapes Go.WideShapes Go.ChangeAt Go.RowKit

def Shp (P : Program) (t : TypeId) {τ : Type} (mk : τ → List D) (ok : τ → Prop) : Prop :=
  ∀ (H : Type) (enc : TypeId × Value → H) (w : World) (base : Nat) (sp : Nat → Bool) (held : Bool) (fuel : Nat) (cs : List Value) (x : DataW H × List MemPlace),
    DataW.trod enc P w base sp held fuel t cs = some x → ∃ y, ok y ∧ DRs (fun _ => False) w (mk y) cs []

theorem DRs_one {S : Nat → Prop} {w : World} {d : D} {v : Value} (h : DR S w d v []) : DRs S w [d] [v] [] := by
  rw [DRs]; exact ⟨v, [], [], [], rfl, rfl, h, by rw [DRs]; exact ⟨rfl, rfl⟩⟩
theorem DRs_app {S : Nat → Prop} {w : World} : ∀ {ds es : List D} {vs us : List Value}, DRs S w ds vs [] → DRs S w es us [] → DRs S w (ds ++ es) (vs ++ us) []
  | [], es, vs, us, h, k => by rw [DRs] at h; obtain ⟨rfl, _⟩ := h; exact k
  | d :: ds, es, vs, us, h, k => by
    rw [DRs] at h
    obtain ⟨v, vs', F1, F2, rfl, hF, h1, h2⟩ := h
    obtain ⟨rfl, rfl⟩ := List.append_eq_nil_iff.1 hF.symm
    rw [List.cons_append, List.cons_append, DRs]
    exact ⟨v, vs' ++ us, [], [], rfl, rfl, h1, DRs_app h2 k⟩

section
variable {P : Program} {t e : TypeId}

theorem Shp.str (ht : P.underlying t = some .string) : Shp P t (fun s : List UInt8 => [D.str s]) (fun s => s.length ≤ 9223372036854775807) := by
  intro H enc w base sp held fuel cs x h
  obtain ⟨s, rfl, _, hs⟩ := DataW.trod_string ht h
  have hmx : maxLen ≤ 9223372036854775807 := by decide
  refine ⟨s.data.toList, by simpa using Nat.le_trans hs hmx, DRs_one ?_⟩
  rw [DR]; exact ⟨rfl, rfl⟩

theorem Shp.int {k : IntKind} (ht : P.underlying t = some (.int k)) : Shp P t (fun n : Int => [D.int k n]) (fun n => (Lit.int k n).wf = true) := by
  intro H enc w base sp held fuel cs x h
  obtain ⟨n, rfl, _, hs⟩ := DataW.trod_int ht h
  exact ⟨n, hs, DRs_one (by rw [DR]; exact ⟨rfl, rfl⟩)⟩

theorem Shp.bool (ht : P.underlying t = some .bool) : Shp P t (fun b : Bool => [D.bool b]) (fun _ => True) := by
  intro H enc w base sp held fuel cs x h
  obtain ⟨b, rfl, _⟩ := DataW.trod_bool ht h
  exact ⟨b, trivial, DRs_one (by rw [DR]; exact ⟨rfl, rfl⟩)⟩

theorem Shp.slice {τ : Type} {mk : τ → List D} {ok : τ → Prop} (ht : P.underlying t = some (.slice e)) (he : Shp P e mk ok) {sz : Nat} (hsz : P.cellsOf e = sz) (hpos : 0 < sz) (eD : τ → D) (toV : List Value → Value)
    (hE : ∀ (w : World) (y : τ) (cs : List Value), DRs (fun _ => False) w (mk y) cs [] → DR (fun _ => False) w (eD y) (toV cs) [] ∧ (toV cs).cells.toList = cs ∧ (eD y).mem = true) :
    Shp P t (fun ys : List τ => [D.slice false sz (ys.map eD)]) (fun ys => ys.length ≤ 9223372036854775807 ∧ ∀ y ∈ ys, ok y) := by
  intro H enc w base sp held fuel cs x h
  have hmx : maxLen ≤ 9223372036854775807 := by decide
  rcases DataW.trod_slice ht h with ⟨rfl, _⟩ | ⟨a, len, cap, elems, rest, n, _, rfl, _, hb, hl, hm, hlen, hel, _, _⟩
  · exact ⟨[], ⟨by simp, by simp⟩, DRs_one (by rw [List.map_nil, DR]; exact ⟨rfl, none, 0, rfl, by simp, .inl rfl⟩)⟩
  · by_cases h0 : len = 0
    · subst h0
      exact ⟨[], ⟨by simp, by simp⟩, DRs_one (by rw [List.map_nil, DR]; exact ⟨rfl, some a, cap, rfl, by simp, .inl rfl⟩)⟩
    have each : ∀ i, i < len → ∃ y us, ok y ∧ DRs (fun _ => False) w (mk y) us [] ∧ us.length = sz ∧ ∀ j, j < sz → w.cell? ((a.add (i * sz)).add j) = us[j]? := by
      intro i hi
      have h1 := hel i hi
      have hy : elems[i]? = some elems[i] := List.getElem?_eq_getElem (by omega)
      rw [hy, hsz, Option.bind_eq_some_iff] at h1
      obtain ⟨us, hus, h2⟩ := h1
      obtain ⟨y, hok, hd⟩ := he H enc w base sp held n us _ h2
      obtain ⟨_, hul, hc⟩ := World.cells?_some hus
      exact ⟨y, us, hok, hd, hul, hc⟩
    obtain ⟨b, off, spot⟩ := a
    obtain ⟨y0, u0, _, _, hl0, hc0⟩ := each 0 (by omega)
    have hc00 := hc0 0 hpos
    have hu0 : u0[0]? = some u0[0] := List.getElem?_eq_getElem (by omega)
    rw [hu0] at hc00
    have hc01 : w.cell? ⟨b, off, spot⟩ = some u0[0] := by simpa [Addr.add] using hc00
    have hspot : spot = none := World.cell?_spot hc01
    subst hspot
    have addE : ∀ o i : Nat, (⟨b, o, none⟩ : Addr).add i = ⟨b, o + i, none⟩ := by
      intro o i
      unfold Addr.add; split
      · rename_i h; subst h; rfl
      · rfl
    have build : ∀ k, k ≤ len → ∃ (ys : List τ) (vs : List Value), ys.length = k ∧ vs.length = k ∧ (∀ y ∈ ys, ok y) ∧ DRs (fun _ => False) w (ys.map eD) vs [] ∧ (∀ v ∈ vs, v.cells.size = sz) ∧ (flat vs).length = k * sz ∧ CellsAt w b off (flat vs) ∧ ∀ d ∈ ys.map eD, d.mem = true := by
      intro k
      induction k with
      | zero => intro _; exact ⟨[], [], rfl, rfl, by simp, by rw [List.map_nil, DRs]; exact ⟨rfl, rfl⟩, by simp, by simp [flat], by intro j v hj; simp [flat] at hj, by simp⟩
      | succ k ih =>
        intro hk
        obtain ⟨ys, vs, h1, h2, h3, h4, h5, h6, h7, h8⟩ := ih (by omega)
        obtain ⟨y, us, hok, hd, hul, hc⟩ := each k (by omega)
        obtain ⟨g1, g2, g3⟩ := hE w y us hd
        have hf : flat (vs ++ [toV us]) = flat vs ++ us := by
          rw [flat, List.flatMap_append]
          simp [flat, g2]
        refine ⟨ys ++ [y], vs ++ [toV us], by simp [h1], by simp [h2], ?_, ?_, ?_, ?_, ?_, ?_⟩
        · intro z hz; rcases List.mem_append.1 hz with hz | hz
          · exact h3 z hz
          · rw [List.mem_singleton.1 hz]; exact hok
        · rw [List.map_append]; exact DRs_app h4 (DRs_one g1)
        · intro v hv; rcases List.mem_append.1 hv with hv | hv
          · exact h5 v hv
          · rw [List.mem_singleton.1 hv]
            have := congrArg List.length g2
            rw [hul] at this
            simpa using this
        · rw [hf, List.length_append, h6, hul, Nat.succ_mul]
        · rw [hf]
          intro j v hj
          by_cases hlt : j < (flat vs).length
          · rw [List.getElem?_append_left hlt] at hj; exact h7 j v hj
          · rw [List.getElem?_append_right (by omega)] at hj
            have hj2 : j - (flat vs).length < sz := by
              have := (List.getElem?_eq_some_iff.1 hj).1
              omega
            have := hc _ hj2
            rw [hj, addE, addE] at this
            rw [← this]; congr 2; rw [h6]; omega
        · intro d hd2; rw [List.map_append] at hd2; rcases List.mem_append.1 hd2 with hd2 | hd2
          · exact h8 d hd2
          · rw [List.map_cons, List.map_nil, List.mem_singleton] at hd2; rw [hd2]; exact g3
    obtain ⟨ys, vs, h1, h2, h3, h4, h5, h6, h7, h8⟩ := build len (Nat.le_refl _)
    refine ⟨ys, ⟨by rw [h1]; omega, h3⟩, DRs_one ?_⟩
    rw [DR]
    refine ⟨rfl, some ⟨b, off, none⟩, cap, by rw [List.length_map, h1], by rw [List.length_map, h1]; exact hl, .inr ⟨b, off, vs, rfl, fun h => h, h4, h5, h7, World.block_lt_of_cell? w _ hc01, h8⟩⟩

theorem Shp.slice1 {τ : Type} {d : τ → D} {ok : τ → Prop} (ht : P.underlying t = some (.slice e)) (he : Shp P e (fun y => [d y]) ok) (hsz : P.cellsOf e = 1) (hd : ∀ y, (d y).one = true) :
    Shp P t (fun ys : List τ => [D.slice false 1 (ys.map d)]) (fun ys => ys.length ≤ 9223372036854775807 ∧ ∀ y ∈ ys, ok y) := by
  refine Shp.slice ht he hsz (by omega) d (fun cs => cs.getD 0 undef) ?_
  intro w y cs h
  rw [DRs] at h
  obtain ⟨v, vs', F1, F2, rfl, hF, h1, h2⟩ := h
  rw [DRs] at h2
  obtain ⟨rfl, _⟩ := h2
  obtain ⟨rfl, rfl⟩ := List.append_eq_nil_iff.1 hF.symm
  have ho := hd y
  refine ⟨h1, ?_, ?_⟩
  · show v.cells.toList = [v]
    generalize d y = dd at h1 ho
    cases dd with
    | int k n => rw [DR] at h1; rw [h1.1]; rfl
    | bool b => rw [DR] at h1; rw [h1.1]; rfl
    | hole u => rw [DR] at h1; rw [h1.1.1]; exact congrArg Array.toList h1.1.2.1
    | str s => rw [DR] at h1; rw [h1.1]; rfl
    | box cs => rw [DR] at h1; obtain ⟨_, g, e, ys, F1, hv, _⟩ := h1; rw [hv]; rfl
    | slice u sz xs =>
      cases u with
      | false => rw [DR] at h1; obtain ⟨_, a, c, hv, _⟩ := h1; rw [hv]; rfl
      | true =>
        rw [DR] at h1
        obtain ⟨_, _, _, _, h3, _⟩ := h1
        rcases h3 with ⟨⟨a0, hv⟩, _⟩ | ⟨g, c, cur, e, fr, hv, _⟩
        · rw [hv]; rfl
        · rw [hv]; rfl
    | ref x => rw [DR] at h1; obtain ⟨_, b, off, y, hv, _⟩ := h1; rw [hv]; rfl
    | fn f cs => rw [DR] at h1; obtain ⟨_, vs, hv, _⟩ := h1; rw [hv]; rfl
    | agg cs => cases ho
    | tup cs => cases ho
    | map ks xs => cases ho
    | any => cases ho
  · generalize d y = dd at ho
    cases dd <;> first | rfl | cases ho

theorem Shp.sliceA {τ : Type} {mk : τ → List D} {ok : τ → Prop} (ht : P.underlying t = some (.slice e)) (he : Shp P e mk ok) {sz : Nat} (hsz : P.cellsOf e = sz) (hpos : 0 < sz) (hd : ∀ y, ∀ d ∈ mk y, d.one = true) :
    Shp P t (fun ys : List τ => [D.slice false sz (ys.map fun y => D.agg (mk y))]) (fun ys => ys.length ≤ 9223372036854775807 ∧ ∀ y ∈ ys, ok y) := by
  refine Shp.slice ht he hsz hpos (fun y => D.agg (mk y)) (fun cs => .agg cs.toArray) ?_
  intro w y cs h
  exact ⟨by rw [DR]; exact ⟨hd y, cs, rfl, h⟩, rfl, rfl⟩

theorem Shp.struct2 {τ1 τ2 : Type} {m1 : τ1 → List D} {m2 : τ2 → List D} {o1 : τ1 → Prop} {o2 : τ2 → Prop} {f1 f2 : Field} (ht : P.underlying t = some (.struct #[f1, f2])) (h1 : Shp P f1.type m1 o1) (h2 : Shp P f2.type m2 o2)
    (e1 : f1.offset = 0) (e2 : f2.offset = P.cellsOf f1.type) (hn : P.cellsOf t = P.cellsOf f1.type + P.cellsOf f2.type) : Shp P t (fun y : τ1 × τ2 => m1 y.1 ++ m2 y.2) (fun y => o1 y.1 ∧ o2 y.2) := by
  intro H enc w base sp held fuel cs x h
  obtain ⟨xs, n, _, _, hcl, hlen, hf⟩ := DataW.trod_struct ht h
  have g1 := hf 0 f1 rfl
  have g2 := hf 1 f2 rfl
  have hl : xs.length = 2 := by simpa using hlen
  rw [List.getElem?_eq_getElem (by omega)] at g1 g2
  obtain ⟨y1, k1, d1⟩ := h1 _ _ _ _ _ _ _ _ _ g1
  obtain ⟨y2, k2, d2⟩ := h2 _ _ _ _ _ _ _ _ _ g2
  refine ⟨(y1, y2), ⟨k1, k2⟩, ?_⟩
  have : cs = (cs.drop f1.offset).take (P.cellsOf f1.type) ++ (cs.drop f2.offset).take (P.cellsOf f2.type) := by
    rw [e1, e2, List.drop_zero]
    have : (cs.drop (P.cellsOf f1.type)).take (P.cellsOf f2.type) = cs.drop (P.cellsOf f1.type) := List.take_of_length_le (by rw [List.length_drop]; omega)
    rw [this, List.take_append_drop]
  rw [this]
  exact DRs_app d1 d2

def fldCells (P : Program) : List Field → Nat
  | [] => 0
  | f :: fs => P.cellsOf f.type + fldCells P fs

def ShpF (P : Program) (fs : List Field) (off : Nat) {τ : Type} (mk : τ → List D) (ok : τ → Prop) : Prop :=
  ∀ (H : Type) (enc : TypeId × Value → H) (w : World) (base : Nat) (sp : Nat → Bool) (held : Bool) (n : Nat) (cs : List Value),
    (∀ (i : Nat) (f : Field), fs[i]? = some f → ∃ x, DataW.trod enc P w base sp held n f.type ((cs.drop f.offset).take (P.cellsOf f.type)) = some x) → ∃ y, ok y ∧ DRs (fun _ => False) w (mk y) ((cs.drop off).take (fldCells P fs)) []

theorem ShpF.nil {off : Nat} : ShpF P [] off (fun _ : Unit => []) (fun _ => True) := by
  intro H enc w base sp held n cs _
  exact ⟨(), trivial, by rw [DRs]; exact ⟨by simp [fldCells], rfl⟩⟩

theorem ShpF.cons {τ1 τ2 : Type} {m1 : τ1 → List D} {m2 : τ2 → List D} {o1 : τ1 → Prop} {o2 : τ2 → Prop} {f : Field} {fs : List Field} {off : Nat} (ho : f.offset = off) (h1 : Shp P f.type m1 o1) (h2 : ShpF P fs (off + P.cellsOf f.type) m2 o2) :
    ShpF P (f :: fs) off (fun y : τ1 × τ2 => m1 y.1 ++ m2 y.2) (fun y => o1 y.1 ∧ o2 y.2) := by
  intro H enc w base sp held n cs h
  obtain ⟨x, hx⟩ := h 0 f rfl
  obtain ⟨y1, k1, d1⟩ := h1 _ _ _ _ _ _ _ _ _ hx
  obtain ⟨y2, k2, d2⟩ := h2 H enc w base sp held n cs (fun i g hg => h (i + 1) g hg)
  refine ⟨(y1, y2), ⟨k1, k2⟩, ?_⟩
  rw [ho] at d1
  have : (cs.drop off).take (fldCells P (f :: fs)) = (cs.drop off).take (P.cellsOf f.type) ++ (cs.drop (off + P.cellsOf f.type)).take (fldCells P fs) := by
    rw [fldCells, List.take_add, List.drop_drop]
  rw [this]
  exact DRs_app d1 d2

theorem Shp.struct {τ : Type} {mk : τ → List D} {ok : τ → Prop} {fs : Array Field} (ht : P.underlying t = some (.struct fs)) (h : ShpF P fs.toList 0 mk ok) (hn : P.cellsOf t = fldCells P fs.toList) : Shp P t mk ok := by
  intro H enc w base sp held fuel cs x hx
  obtain ⟨xs, n, _, _, hcl, hlen, hf⟩ := DataW.trod_struct ht hx
  obtain ⟨y, k, d⟩ := h H enc w base sp held n cs (fun i f hi => by
    have g := hf i f (by simpa using hi)
    have hl : i < xs.length := by have := (List.getElem?_eq_some_iff.1 hi).1; simp at this; omega
    rw [List.getElem?_eq_getElem hl] at g
    exact ⟨_, g⟩)
  refine ⟨y, k, ?_⟩
  rw [List.drop_zero, List.take_of_length_le (by omega)] at d
  exact d

theorem Shp.via {τ σ : Type} {mk : τ → List D} {ok : τ → Prop} {mk' : σ → List D} {ok' : σ → Prop} (h : Shp P t mk ok) (g : τ → σ) (hm : ∀ x, mk x = mk' (g x)) (ho : ∀ x, ok x → ok' (g x)) : Shp P t mk' ok' := by
  intro H enc w base sp held fuel cs x hx
  obtain ⟨y, k, d⟩ := h _ _ _ _ _ _ _ _ _ hx
  exact ⟨g y, ho y k, by rw [← hm]; exact d⟩

theorem rd_agg {r : Reach} {b0 : Nat} {H : Type} {enc : TypeId × Value → H} {w : World} {base : Nat} {sp : Nat → Bool} {held : Bool} {v : Value} {d : DataW H} {ps : List MemPlace} {τ : Type} {mk : τ → List D} {ok : τ → Prop} {fs : Array Field} (ht : P.underlying t = some (.struct fs))
    (hs : Shp P t mk ok) (hd : ∀ y, ∀ c ∈ mk y, c.one = true) (hval : Value.okWide P w r b0 t v) (h : DataW.Trod enc P w base sp held t v d ps) : ∃ y, Rd w (.agg (mk y)) v ∧ ok y := by
  obtain ⟨cs, rfl, _⟩ := okWide_struct ht hval
  obtain ⟨fuel, hf⟩ := h
  obtain ⟨y, hok, hr⟩ := hs _ _ _ _ _ _ _ _ _ hf
  refine ⟨y, ?_, hok⟩
  rw [Rd, DR]
  exact ⟨hd y, cs.toList, rfl, hr⟩

theorem rd_shp1 {r : Reach} {b0 : Nat} {H : Type} {enc : TypeId × Value → H} {w : World} {base : Nat} {sp : Nat → Bool} {held : Bool} {v : Value} {d : DataW H} {ps : List MemPlace} {τ : Type} {f : τ → D} {ok : τ → Prop} (ht : P.underlying t = some (.slice e))
    (hs : Shp P t (fun y => [f y]) ok) (hval : Value.okWide P w r b0 t v) (h : DataW.Trod enc P w base sp held t v d ps) : ∃ y, Rd w (f y) v ∧ ok y := by
  obtain ⟨a, len, cap, rfl⟩ := okWide_slice ht hval
  obtain ⟨fuel, hf⟩ := h
  obtain ⟨y, hok, hr⟩ := hs _ _ _ _ _ _ _ _ _ hf
  refine ⟨y, ?_, hok⟩
  have hc : (Value.slice a len cap).cells.toList = [Value.slice a len cap] := rfl
  rw [hc, DRs] at hr
  obtain ⟨v, vs', F1, F2, e1, hF, h1, h2⟩ := hr
  obtain ⟨rfl, rfl⟩ := List.append_eq_nil_iff.1 hF.symm
  cases e1
  exact h1

end

end Go.AM
