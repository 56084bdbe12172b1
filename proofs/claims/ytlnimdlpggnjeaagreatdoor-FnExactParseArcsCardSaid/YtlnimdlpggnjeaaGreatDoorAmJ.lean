/-
  The abstract machine, part J: make; []byte(s); string(b).
-/
import Derived.Test.YtlnimdlpggnjeaaGreatDoorAmI
namespace Go.AM

section
variable {P : Program} {c : Ctx} {α : St} {a : Act} {w : World} {β : Nat → Value} {φ : Nat → List Nat} {ρ : Operand → V} {h : Nat → Option Ob} {o : Oper}

theorem made_flat (z : Value) {sz : Nat} (hz : z.cells.size = sz) (hsz : 0 < sz) (l cap : Nat) (hl : l ≤ cap) : (madeCells z.cells (cap * sz)).toList.take (l * sz) = flat (List.replicate l z) := by
  have hfl : (flat (List.replicate l z)).length = l * sz := by rw [flat_length (sz := sz) (by intro y hy; rw [List.eq_of_mem_replicate hy]; exact hz)]; simp
  have hle : l * sz ≤ cap * sz := Nat.mul_le_mul_right _ hl
  apply List.ext_getElem?
  intro i
  rw [List.getElem?_take]
  split
  · rename_i hi
    have hj : i / sz < l := (Nat.div_lt_iff_lt_mul hsz).2 hi
    have hm : i % sz < sz := Nat.mod_lt _ hsz
    have h1 : (flat (List.replicate l z))[i / sz * sz + i % sz]? = some (z.cells[i % sz]'(by omega)) :=
      flat_get (sz := sz) (by intro y hy; rw [List.eq_of_mem_replicate hy]; exact hz) (y := z) (by rw [List.getElem?_replicate, if_pos hj]) (by simp [hz, hm])
    rw [Nat.div_add_mod'] at h1
    rw [h1]
    have hic : i < cap * sz := by omega
    simp [madeCells, hz, hm, hic]
  · rw [List.getElem?_eq_none (by omega)]

theorem goes_make (H : Rel c α a w β φ) (E : Env (Sof c α φ) w β φ ρ h a.eval) (hd : ∀ d, o.dst = some d → d < α.n) {t e : TypeId} {x y : Operand} {n sz bytes l cp : Nat} {kl kc : IntKind} {ml mc : Int} {zd : D}
    (ho : o.op = .makeSlice t x y) (hty : SlotTy P t e sz bytes) (hx : ρ x = .d (.int kl ml)) (hml : ml = (l : Int)) (hy : ρ y = .d (.int kc mc)) (hmc : mc = (cp : Int)) (hle : l ≤ cp)
    (hbytes : bytes * cp ≤ 281474976710656) (hcp : cp ≤ 9223372036854775807) (hz : ∀ i z, P.info? e = some i → i.zero = some z → (∀ S w, DR S w zd z []) ∧ zd.mem = true) (hn : n ∉ α.ids) :
    Goes P c o a w (α.app o.dst (.row n) { set := [(n, .row sz (List.replicate l zd))], new := [n] }) := by
  obtain ⟨i, z, ht, hi, hzz, rfl, rfl, hzs, hsz⟩ := hty
  obtain ⟨hz1, hz2⟩ := hz i z hi hzz
  subst hml hmc
  have hb' : (i.bytes : Int) * (cp : Int) ≤ 281474976710656 := by
    have h : ((i.bytes * cp : Nat) : Int) ≤ 281474976710656 := by omega
    rwa [Int.natCast_mul] at h
  have hrun := run_make (P := P) w t e i z ht hi hzz kl kc (l : Int) (cp : Int) (by omega) (by omega) hb' (by omega)
  simp only [Int.toNat_natCast] at hrun
  have hr : (execOp a.eval o).run P w = .ok (.value (.slice (some ⟨w.heap.size, 0, none⟩) l cp)) (w.alloc (.cells (madeCells z.cells (cp * i.size)) e)) := by
    simp only [execOp, ho, E.int hx, E.int hy, Sem.run_bind, hrun, Result.andThen_ok, Sem.run_pure]
  have hsizes : ∀ y ∈ List.replicate l z, y.cells.size = i.size := by intro y hy; rw [List.eq_of_mem_replicate hy]; exact hzs
  refine goes_value hr (H.new o.dst hd n hn (.row i.size (List.replicate l zd)) (w.alloc (.cells (madeCells z.cells (cp * i.size)) e)) (.slice (some ⟨w.heap.size, 0, none⟩) l cp) [w.heap.size] rfl rfl rfl (by simp) (fun b hb => heap_old w _ b hb) (by simp) (by simp) ?_ _ _ ?_)
  · intro S' hS β' _
    rw [OR, DR]
    refine ⟨List.replicate l z, [w.heap.size], [], rfl, ?_, ?_, hsizes, by intro y hy; rw [List.eq_of_mem_replicate hy]; exact hz2⟩
    · rw [List.length_replicate]
      refine .inr ⟨w.heap.size, cp, _, e, (0, 0), rfl, ⟨hle, hcp⟩, heap_new w _, (by intros; omega), size_madeCells _ _, ?_, made_flat z hzs hsz l cp hle, rfl⟩
      rw [flat_length hsizes, List.length_replicate]
    · clear hsizes hr hrun hle hx
      induction l with
      | zero => rw [List.replicate_zero, List.replicate_zero, DRs]; exact ⟨rfl, rfl⟩
      | succ l ih => rw [List.replicate_succ, List.replicate_succ, DRs]; exact ⟨_, _, [], [], rfl, rfl, hz1 _ _, ih⟩
  · intro S' hS β' hβ hβn
    rw [VR]
    exact ⟨hβn.symm, _, _, _, rfl⟩

def byteD (b : UInt8) : D := .int .u8 (b.toNat : Int)
def byteV (b : UInt8) : Value := .int .u8 (b.toNat : Int)

theorem bytes_read {S w} : ∀ (l : List UInt8), DRs S w (l.map byteD) (l.map byteV) []
  | [] => by rw [List.map_nil, List.map_nil, DRs]; exact ⟨rfl, rfl⟩
  | b :: l => by rw [List.map_cons, List.map_cons, DRs]; exact ⟨_, _, [], [], rfl, rfl, by rw [byteD, DR]; exact ⟨rfl, rfl⟩, bytes_read l⟩

theorem bytes_flat (l : List UInt8) : flat (l.map byteV) = l.map byteV := by
  induction l with
  | nil => rfl
  | cons b l ih => rw [List.map_cons, show flat (byteV b :: l.map byteV) = [byteV b] ++ flat (l.map byteV) from rfl, ih]; rfl

theorem bytes_inv {S w} : ∀ {l : List UInt8} {vs F}, DRs S w (l.map byteD) vs F → vs = l.map byteV
  | [], vs, F, hd => by rw [List.map_nil, DRs] at hd; rw [hd.1]; rfl
  | b :: l, vs, F, hd => by
    rw [List.map_cons, DRs] at hd
    obtain ⟨v, ws, F1, F2, rfl, _, h1, h2⟩ := hd
    rw [byteD, DR] at h1
    rw [h1.1, bytes_inv h2]; rfl

theorem goes_bytes (H : Rel c α a w β φ) (E : Env (Sof c α φ) w β φ ρ h a.eval) (hd : ∀ d, o.dst = some d → d < α.n) {s t e : TypeId} {x : Operand} {n : Nat} {l : List UInt8}
    (ho : o.op = .convert s t x) (hs : P.underlying s = some .string) (ht : P.underlying t = some (.slice e)) (he : P.underlying e = some (.int .u8)) (hx : ρ x = .d (.str l)) (hlen : l.length ≤ 9223372036854775807) (hn : n ∉ α.ids) :
    Goes P c o a w (α.app o.dst (.row n) { set := [(n, .row 1 (l.map byteD))], new := [n] }) := by
  have hrun := run_bytes_of_string (P := P) w s t e ⟨l.toArray⟩ hs ht he
  rw [bsize] at hrun
  generalize hcap : grownCap w l.length 0 e = cp at hrun
  have hge : l.length ≤ cp := by rw [← hcap]; exact grownCap_ge w _ _ _
  have hle' : cp ≤ 9223372036854775807 := by rw [← hcap]; exact grownCap_le_maxLen w _ _ _ hlen
  generalize hC : bytesRow ⟨l.toArray⟩ cp = C at hrun
  have hC1 : C.size = cp := by rw [← hC]; simp [bytesRow, bsize]; omega
  have hC2 : C.toList.take l.length = l.map byteV := by
    rw [← hC]
    simp [bytesRow]
    intro b _; rfl
  have hr : (execOp a.eval o).run P w = .ok (.value (.slice (some ⟨w.heap.size, 0, none⟩) l.length cp)) (w.drew.alloc (.cells C e (C.size, C.size + 1))) := by
    simp only [execOp, ho, E.str hx, Sem.run_bind, hrun, Result.andThen_ok, Sem.run_pure]
  refine goes_value hr (H.new o.dst hd n hn (.row 1 (l.map byteD)) (w.drew.alloc (.cells C e (C.size, C.size + 1))) (.slice (some ⟨w.heap.size, 0, none⟩) l.length cp) [w.heap.size] rfl rfl rfl (by simp) (fun b hb => heap_old w.drew _ b hb) (by simp) (by simp) ?_ _ _ ?_)
  · intro S' hS β' _
    rw [OR, DR]
    refine ⟨l.map byteV, [w.heap.size], [], rfl, ?_, bytes_read l, ?_, ?_⟩
    · rw [List.length_map, bytes_flat]
      refine .inr ⟨w.heap.size, cp, C, e, (C.size, C.size + 1), rfl, ⟨hge, hle'⟩, heap_new w.drew _, ?_, by omega, by simp, by simpa using hC2, rfl⟩
      intro j hj; simp; omega
    · intro y hy; obtain ⟨b, _, rfl⟩ := List.mem_map.1 hy; rfl
    · intro y hy; obtain ⟨b, _, rfl⟩ := List.mem_map.1 hy; rfl
  · intro S' hS β' hβ hβn
    rw [VR]
    exact ⟨hβn.symm, _, _, _, rfl⟩

theorem goes_string (H : Rel c α a w β φ) (E : Env (Sof c α φ) w β φ ρ h a.eval) (hh : ∀ id ob, h id = some ob → α.ob id = some ob) (hd : ∀ d, o.dst = some d → d < α.n) {s t e : TypeId} {x : Operand} {l : List UInt8} {ks : List Nat}
    (ho : o.op = .convert s t x) (hs : P.underlying s = some (.slice e)) (he : P.underlying e = some (.int .u8)) (ht : P.underlying t = some .string) (hx : Src h (ρ x) 1 (l.map byteD) ks) :
    Goes P c o a w (α.app o.dst (.d (.str l)) {}) := by
  obtain ⟨ad, cap, us, F', h1, h2, h3, h4, h5, h6, h7⟩ := hx.sound H E hh
  have hus := bytes_inv h2
  subst hus
  rw [List.length_map] at h1
  rw [bytes_flat] at h7
  have hr : (execOp a.eval o).run P w = .ok (.value (.string ⟨l.toArray⟩)) w := by
    by_cases hl : l = []
    · subst hl
      cases ad with
      | none => simp only [execOp, ho, h1, Sem.run_bind, convert, run_underlying hs, run_underlying ht, run_underlying he, Result.andThen_ok, Conv.bytesToString, Sem.run_pure]; rfl
      | some ad =>
        have := run_convert_bytes_back (P := P) w s t e ad cap [] hs he ht (fun j hj => by simp at hj)
        simp only [execOp, ho, h1, Sem.run_bind, this, Result.andThen_ok, Sem.run_pure]
    · obtain ⟨b, rfl, hc⟩ := h7.resolve_left (by simpa using hl)
      have := run_convert_bytes_back (P := P) w s t e b cap l hs he ht (fun j hj => hc j _ (by simp [hj, byteV]))
      simp only [execOp, ho, h1, Sem.run_bind, this, Result.andThen_ok, Sem.run_pure]
  exact goes_value hr ⟨β, φ, H.pure o.dst hd _ _ (by rw [VR, DR]; exact ⟨rfl, rfl⟩)⟩

end

end Go.AM
