/-
  The abstract machine, part W: contracts of the library's own texts (proved once by the kit) as contracts over data: strings.Join; functions that turn the cells of an own slice.
-/
import Derived.Test.YtlnimdlpggnjeaaGreatDoorAmO
import Derived.Sort.Grow
import Derived.Sort.EncStr
import Derived.Lib.Join
namespace Go.AM
open Go.RowKit

theorem keep_below {n : Nat} {w w' : World} (h : Below n w w') (hn : n = w.heap.size) : Keep [] w w' := by
  subst hn
  exact ⟨h.os, h.tape, h.output, h.size, fun b hb _ => h.block b hb⟩

theorem cellsAt_strs {S : Nat → Prop} {w : World} {b off : Nat} : ∀ {xs : List (List UInt8)} {vs : List Value}, DRs S w (xs.map D.str) vs [] → vs = xs.map Go.Proofs.encStr
  | [], vs, h => by rw [List.map_nil, DRs] at h; rw [h.1]; rfl
  | x :: xs, vs, h => by
    rw [List.map_cons, DRs] at h
    obtain ⟨v, vs', F1, F2, rfl, hF, h1, h2⟩ := h
    obtain ⟨rfl, rfl⟩ := List.append_eq_nil_iff.1 hF.symm
    rw [DR] at h1
    rw [cellsAt_strs (b := b) (off := off) h2, h1.1]; rfl

theorem flat_encStr (xs : List (List UInt8)) : flat (xs.map Go.Proofs.encStr) = xs.map Go.Proofs.encStr := by
  induction xs with
  | nil => rfl
  | cons x xs ih =>
    show (Go.Proofs.encStr x).cells.toList ++ flat (xs.map Go.Proofs.encStr) = _
    rw [ih]; rfl

theorem sp_join {P : Program} {f : FuncId}
    (h0 : ∀ (a : Option Addr) (c : Nat) (sep : ByteArray) (w : World), Calls P f #[.slice a 0 c, .string sep] w fun e w' => e = .returned (.string ⟨#[]⟩) ∧ w' = w)
    (h1 : ∀ (bk o c : Nat) (xs : List ByteArray) (sep : ByteArray) (w : World), (∀ (j : Nat) x, xs[j]? = some x → w.cell? ⟨bk, o + j, none⟩ = some (.string x)) → bk < w.heap.size → xs.length ≤ 140737488355328 → xs.length ≤ c →
      (Lib.join (xs.map (·.data.toList)) sep.data.toList).length ≤ 140737488355328 →
      Calls P f #[.slice (some ⟨bk, o, none⟩) xs.length c, .string sep] w fun e w' => e = .returned (.string ⟨(Lib.join (xs.map (·.data.toList)) sep.data.toList).toArray⟩) ∧ Below w.heap.size w w')
    (xs : List (List UInt8)) (sep : List UInt8) (hn : xs.length ≤ 140737488355328) (hl : (Lib.join xs sep).length ≤ 140737488355328) :
    Sp P f [.slice false 1 (xs.map D.str), .str sep] [.any, .any] (.str (Lib.join xs sep)) := by
  intro S w vs Fs hSlt hdr hnd hFS
  rw [DRs] at hdr
  obtain ⟨v1, vs1, F1, F2, rfl, rfl, d1, d2⟩ := hdr
  rw [DRs] at d2
  obtain ⟨v2, vs2, F3, F4, rfl, rfl, d3, d4⟩ := d2
  rw [DRs] at d4
  obtain ⟨rfl, rfl⟩ := d4
  rw [DR] at d1
  rw [DR] at d3
  obtain ⟨rfl, a, c, rfl, hc, hcells⟩ := d1
  obtain ⟨rfl, rfl⟩ := d3
  rw [List.length_map] at hc ⊢
  have fin : ∀ (r : List UInt8) (w' : World), Keep [] w w' → r = Lib.join xs sep →
      ∃ v F Fs', Ending.returned (Value.string ⟨r.toArray⟩) = .returned v ∧ DRs (fun b => S b ∨ b ∈ Fs' ++ F) w' [.any, .any] [.slice a xs.length c, .string ⟨sep.toArray⟩] Fs' ∧ DR (fun b => S b ∨ b ∈ Fs' ++ F) w' (.str (Lib.join xs sep)) v F ∧
        (Fs' ++ F).Nodup ∧ (∀ b ∈ Fs' ++ F, b ∈ ([] ++ ([] ++ []) : List Nat) ∨ w.heap.size ≤ b) ∧ Keep ([] ++ ([] ++ [])) w w' := by
    intro r w' hk hr
    subst hr
    refine ⟨_, [], [], rfl, ?_, by rw [DR]; exact ⟨rfl, rfl⟩, by simp, by simp, hk⟩
    rw [DRs]
    refine ⟨_, _, [], [], rfl, rfl, by rw [DR], ?_⟩
    rw [DRs]
    exact ⟨_, _, [], [], rfl, rfl, by rw [DR], by rw [DRs]; exact ⟨rfl, rfl⟩⟩
  rcases hcells with h | ⟨b, off, us, rfl, _, g1, g2, g3, g4, _⟩
  · obtain rfl : xs = [] := by simpa using h
    refine (h0 a c ⟨sep.toArray⟩ w).mono fun e w' ⟨he, hw⟩ => ?_
    subst hw; subst he
    exact fin [] w' (Keep.refl _ _) (by rw [Lib.join_nil])
  · have hus := cellsAt_strs (b := b) (off := off) g1
    have hmm : (xs.map fun l => (⟨l.toArray⟩ : ByteArray)).map (·.data.toList) = xs := by rw [List.map_map]; conv => rhs; rw [← List.map_id xs]
                                                                                          congr 1
    have := h1 b off c (xs.map fun l => ⟨l.toArray⟩) ⟨sep.toArray⟩ w (fun j x hx => by
      rw [List.getElem?_map, Option.map_eq_some_iff] at hx
      obtain ⟨l, hl, rfl⟩ := hx
      refine g3 j _ ?_
      rw [hus, flat_encStr, List.getElem?_map, hl]; rfl) g4 (by simpa using hn) (by simpa using hc) (by rw [hmm]; exact hl)
    rw [hmm, List.length_map] at this
    refine this.mono fun e w' ⟨he, hb⟩ => ?_
    subst he
    exact fin _ w' (keep_below hb rfl) rfl

structure EncD {τ : Type} (enc : τ → Value) (f : τ → D) : Prop where
  one : ∀ x, (enc x).cells = #[enc x]
  rd : ∀ S w x v F, DR S w (f x) v F ↔ v = enc x ∧ F = []
  mem : ∀ x, (f x).mem = true

theorem EncD.rds {τ : Type} {enc : τ → Value} {f : τ → D} (h : EncD enc f) {S : Nat → Prop} {w : World} : ∀ {xs : List τ} {vs F}, DRs S w (xs.map f) vs F ↔ vs = xs.map enc ∧ F = []
  | [], vs, F => by rw [List.map_nil, DRs, List.map_nil]
  | x :: xs, vs, F => by
    rw [List.map_cons, DRs, List.map_cons]
    constructor
    · rintro ⟨v, vs', F1, F2, rfl, rfl, h1, h2⟩
      obtain ⟨rfl, rfl⟩ := (h.rd _ _ _ _ _).1 h1
      obtain ⟨rfl, rfl⟩ := (EncD.rds h).1 h2
      exact ⟨rfl, rfl⟩
    · rintro ⟨rfl, rfl⟩
      exact ⟨_, _, [], [], rfl, rfl, (h.rd _ _ _ _ _).2 ⟨rfl, rfl⟩, (EncD.rds h).2 ⟨rfl, rfl⟩⟩

theorem EncD.flat {τ : Type} {enc : τ → Value} {f : τ → D} (h : EncD enc f) (xs : List τ) : AM.flat (xs.map enc) = xs.map enc := by
  induction xs with
  | nil => rfl
  | cons x xs ih =>
    show (enc x).cells.toList ++ AM.flat (xs.map enc) = _
    rw [ih, h.one]; rfl

theorem encStrD : EncD Go.Proofs.encStr D.str := ⟨fun _ => rfl, fun S w x v F => by rw [DR], fun _ => rfl⟩
theorem encIntD : EncD (fun n : Int => Value.int .i64 n) (fun n : Int => D.int .i64 n) := ⟨fun _ => rfl, fun S w x v F => by rw [DR], fun _ => rfl⟩

theorem putCells_take {τ : Type} [Inhabited τ] (enc : τ → Value) (d : List τ) (cur : Array Value) (n : Nat) (hn : n ≤ d.length) (hd : d.length ≤ cur.size) :
    (Sort.putCells enc 0 d.toArray cur).toList.take n = (d.take n).map enc := by
  apply List.ext_getElem?
  intro j
  rw [List.getElem?_take, List.getElem?_map, List.getElem?_take]
  by_cases hj : j < n
  · rw [if_pos hj, if_pos hj]
    have h1 : j < cur.size := by omega
    have h2 : j < d.length := by omega
    simp only [Sort.putCells, Array.getElem?_toList, Array.getElem?_mapIdx, Array.getElem?_eq_getElem h1, Option.map_some, List.getElem?_eq_getElem h2]
    rw [if_pos (by simp; omega)]
    simp [h2]
  · rw [if_neg hj, if_neg hj]; rfl

theorem own_put {τ : Type} [Inhabited τ] {enc : τ → Value} {f : τ → D} (h : EncD enc f) {S : Nat → Prop} {w : World} {g c : Nat} {cur : Array Value} {e : TypeId} {fr : Nat × Nat} (h3 : w.heap[g]? = some (.cells cur e fr)) (hf : ∀ j, j < cur.size → ¬ (fr.1 ≤ j ∧ j < fr.2)) (h5 : cur.size = c * 1)
    (q : Nat) (os : Array Obj) (d : List τ) (n : Nat) (hn : n ≤ d.length) (hd : d.length ≤ c) (hcm : c ≤ 9223372036854775807) :
    DR S (Sort.grow (Sort.putRow enc (Sort.ahead w q) g 0 d.toArray) os) (.slice true 1 ((d.take n).map f)) (.slice (some ⟨g, 0, none⟩) n c) [g] ∧ Keep [g] w (Sort.grow (Sort.putRow enc (Sort.ahead w q) g 0 d.toArray) os) := by
  have hg : g < w.heap.size := (Array.getElem?_eq_some_iff.1 h3).1
  have hnew : (Sort.grow (Sort.putRow enc (Sort.ahead w q) g 0 d.toArray) os).heap[g]? = some (.cells (Sort.putCells enc 0 d.toArray cur) e fr) := by
    rw [Sort.heap_grow_old _ _ (by simpa [Sort.putRow, Sort.mapBlock] using hg)]
    simp only [Sort.putRow, Sort.mapBlock, Array.getElem?_modify, if_true]
    show Option.map _ (w.heap[g]?) = _
    rw [h3]; rfl
  have hl : n = ((d.take n).map f).length := by simp; omega
  constructor
  · rw [DR]
    refine ⟨(d.take n).map enc, [g], [], by simp, .inr ⟨g, c, Sort.putCells enc 0 d.toArray cur, e, fr, by rw [← hl], ⟨by rw [← hl]; omega, hcm⟩, hnew, ?_, ?_, ?_, ?_, rfl⟩, h.rds.2 ⟨rfl, rfl⟩, ?_, ?_⟩
    · intro j hj; refine hf j ?_; simpa [Sort.putCells] using hj
    · simpa [Sort.putCells] using h5
    · rw [h.flat, ← hl]; simp; omega
    · rw [h.flat, ← hl, Nat.mul_one]; exact putCells_take enc d cur n hn (by omega)
    · intro y hy
      obtain ⟨x, _, rfl⟩ := List.mem_map.1 hy
      rw [h.one]; rfl
    · intro y hy
      obtain ⟨x, _, rfl⟩ := List.mem_map.1 hy
      exact h.mem x
  · refine ⟨rfl, rfl, rfl, ?_, ?_⟩
    · simp [Sort.grow, Sort.putRow, Sort.mapBlock, Sort.ahead]
    · intro b hb hne
      rw [Sort.heap_grow_old _ _ (by simpa [Sort.putRow, Sort.mapBlock] using hb)]
      have : g ≠ b := fun e => hne (by simp [e])
      simp only [Sort.putRow, Sort.mapBlock, Array.getElem?_modify, if_neg this]
      rfl

theorem empty_reads {S w} (sz : Nat) (a : Option Addr) : DR S w (.slice true sz []) (.slice a 0 0) [] := by
  rw [DR]; exact ⟨[], [], [], rfl, .inl ⟨⟨a, rfl⟩, rfl, rfl, rfl⟩, by rw [DRs]; exact ⟨rfl, rfl⟩, by simp, by simp⟩
theorem own_holds {τ : Type} [Inhabited τ] {enc : τ → Value} {w : World} {g c : Nat} {cur : Array Value} {e : TypeId} {fr : Nat × Nat} (h3 : w.heap[g]? = some (.cells cur e fr)) (hf : ∀ j, j < cur.size → ¬ (fr.1 ≤ j ∧ j < fr.2)) (h5 : cur.size = c * 1) {zs : List τ} (h2 : zs.length ≤ c)
    (h7 : cur.toList.take (zs.length * 1) = zs.map enc) : Sort.Holds enc w g 0 zs.toArray := by
  intro j hj
  have hj' : j < zs.length := by simpa using hj
  have h1 : cur[j]? = some (enc zs[j]) := by
    have := congrArg (·[j]?) h7
    simp only [List.getElem?_take, Nat.mul_one, if_pos hj', List.getElem?_map, List.getElem?_eq_getElem hj', Option.map_some, Array.getElem?_toList] at this
    exact this
  have hjc : j < cur.size := by omega
  refine ⟨?_, ?_⟩
  · simp only [World.cell?, Nat.zero_add, h3]
    rw [h1]; simp [hj']
  · have := hf j hjc
    simp only [World.frozen?, Nat.zero_add, h3]
    simpa using this

theorem sp_turnRow {τ : Type} [Inhabited τ] {enc : τ → Value} {f : τ → D} (h : EncD enc f) {P : Program} {fn : FuncId} {srt : List τ → List τ} (hsrt : ∀ l, (srt l).length = l.length) (hs0 : srt [] = [])
    (h0 : ∀ (p : Option Addr) (cap : Nat) (w : World), Calls P fn #[.slice p 0 cap] w fun e w' => e = .returned (.tuple #[]) ∧ w' = w)
    (h1 : ∀ (blk off cap : Nat) (ss : List τ) (w : World), Sort.Holds enc w blk off ss.toArray → blk < w.heap.size → ss.length < 4611686018427387904 →
      Calls P fn #[.slice (some ⟨blk, off, none⟩) ss.length cap] w fun e w' => e = .returned (.tuple #[]) ∧ ∃ n os, w' = Sort.grow (Sort.putRow enc (Sort.ahead w n) blk off (srt ss).toArray) os)
    (xs : List τ) (hn : xs.length ≤ 1048576) : Sp P fn [.slice true 1 (xs.map f)] [.slice true 1 ((srt xs).map f)] (.tup []) := by
  intro S w vs Fs hSlt hdr hnd hFS
  rw [DRs] at hdr
  obtain ⟨v1, vs1, F1, F2, rfl, rfl, d1, d2⟩ := hdr
  rw [DRs] at d2
  obtain ⟨rfl, rfl⟩ := d2
  have d1' := d1
  rw [DR] at d1
  obtain ⟨us, G1, G2, rfl, ho, hd, _, _⟩ := d1
  obtain ⟨rfl, rfl⟩ := h.rds.1 hd
  rw [List.length_map] at ho
  rcases ho with ⟨⟨a0, rfl⟩, hl, _, rfl⟩ | ⟨g, c, cur, e, fr, rfl, ⟨h2, h2b⟩, h3, hf, h5, h6, h7, rfl⟩
  · obtain rfl : xs = [] := List.eq_nil_of_length_eq_zero hl
    refine (h0 a0 0 w).mono fun e w' ⟨he, hw⟩ => ?_
    subst hw; subst he
    refine ⟨_, [], [], rfl, ?_, by rw [DR]; exact ⟨[], rfl, by rw [DRs]; exact ⟨rfl, rfl⟩⟩, by simp, by simp, Keep.refl _ _⟩
    rw [DRs]
    exact ⟨_, _, [], [], rfl, rfl, by rw [hs0, List.map_nil]; exact empty_reads 1 _, by rw [DRs]; exact ⟨rfl, rfl⟩⟩
  · rw [h.flat] at h7
    refine (h1 g 0 c xs w (own_holds h3 hf h5 h2 h7) (Array.getElem?_eq_some_iff.1 h3).1 (by omega)).mono fun e' w' ⟨he, n, os, hw⟩ => ?_
    subst hw; subst he
    obtain ⟨k1, k2⟩ := own_put (S := fun b => S b ∨ b ∈ [g] ++ []) h h3 hf h5 n os (srt xs) xs.length (by rw [hsrt]; omega) (by rw [hsrt]; omega) h2b
    rw [List.take_of_length_le (by rw [hsrt]; omega)] at k1
    refine ⟨_, [], [g], rfl, ?_, by rw [DR]; exact ⟨[], rfl, by rw [DRs]; exact ⟨rfl, rfl⟩⟩, by simp, fun b hb => .inl (by simpa using hb), by simpa using k2⟩
    rw [DRs]
    exact ⟨_, _, [g], [], rfl, rfl, k1, by rw [DRs]; exact ⟨rfl, rfl⟩⟩

theorem sp_cutRow {τ : Type} [Inhabited τ] {enc : τ → Value} {f : τ → D} (h : EncD enc f) {P : Program} {fn : FuncId} {more : List D} {mvs : List Value} (hmore : ∀ S w vs F, DRs S w more vs F → vs = mvs ∧ F = []) (hmany : ∀ S w, DRs S w (more.map fun _ => D.any) mvs [])
    (xs full : List τ) (n : Nat) (hfl : full.length ≤ xs.length) (hn : n ≤ full.length)
    (h0 : xs = [] → ∀ (p : Option Addr) (cap : Nat) (w : World), Calls P fn (Value.slice p 0 cap :: mvs).toArray w fun e w' => e = .returned (.slice p 0 cap) ∧ w' = w)
    (h1 : ∀ (blk cap : Nat) (w : World), Sort.Holds enc w blk 0 xs.toArray → xs.length ≤ cap → cap ≤ 9223372036854775807 →
      Calls P fn (Value.slice (some ⟨blk, 0, none⟩) xs.length cap :: mvs).toArray w fun e w' => e = .returned (.slice (some ⟨blk, 0, none⟩) n cap) ∧ ∃ q, w' = Sort.putRow enc (Sort.ahead w q) blk 0 full.toArray)
    : Sp P fn (.slice true 1 (xs.map f) :: more) (.any :: more.map fun _ => .any) (.slice true 1 ((full.take n).map f)) := by
  intro S w vs Fs hSlt hdr hnd hFS
  rw [DRs] at hdr
  obtain ⟨v1, vs1, F1, F2, rfl, rfl, d1, d2⟩ := hdr
  obtain ⟨rfl, rfl⟩ := hmore _ _ _ _ d2
  have d1' := d1
  rw [DR] at d1
  obtain ⟨us, G1, G2, rfl, ho, hd, _, _⟩ := d1
  obtain ⟨rfl, rfl⟩ := h.rds.1 hd
  rw [List.length_map] at ho
  have anys : ∀ S' w' v', DRs S' w' (.any :: more.map fun _ => .any) (v' :: vs1) [] := fun S' w' v' => by
    rw [DRs]; exact ⟨_, _, [], [], rfl, rfl, by rw [DR], hmany _ _⟩
  rcases ho with ⟨⟨a0, rfl⟩, hl, _, rfl⟩ | ⟨g, c, cur, e, fr, rfl, ⟨h2, h2b⟩, h3, hf, h5, h6, h7, rfl⟩
  · obtain rfl : xs = [] := List.eq_nil_of_length_eq_zero hl
    obtain rfl : full = [] := List.eq_nil_of_length_eq_zero (by simpa using hfl)
    refine (h0 rfl a0 0 w).mono fun e w' ⟨he, hw⟩ => ?_
    subst hw; subst he
    exact ⟨_, [], [], rfl, anys _ _ _, by rw [List.take_nil, List.map_nil]; exact empty_reads 1 _, by simp, by simp, Keep.refl _ _⟩
  · rw [h.flat] at h7
    refine (h1 g c w (own_holds h3 hf h5 h2 h7) h2 h2b).mono fun e' w' ⟨he, q, hw⟩ => ?_
    subst hw; subst he
    obtain ⟨k1, k2⟩ := own_put (S := fun b => S b ∨ b ∈ [] ++ [g]) h h3 hf h5 q #[] full n hn (by omega) h2b
    rw [Sort.grow_empty] at k1 k2
    exact ⟨_, [g], [], rfl, anys _ _ _, k1, by simp, fun b hb => .inl (by simpa using hb), by simpa using k2⟩

end Go.AM
