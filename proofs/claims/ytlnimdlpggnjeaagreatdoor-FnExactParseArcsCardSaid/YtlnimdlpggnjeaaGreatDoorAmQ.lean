/-
  The abstract machine, part Q: from a contract to a law's statement: the arguments, read as data, as data of the machine.
-/
import Derived.Test.YtlnimdlpggnjeaaGreatDoorAmO
import Derived.ProofKit
import Derived.OpenShut
import Derived.ShutString
import Derived.SliceStrings
import Derived.ChangeOld
import Derived.Below
namespace Go.AM
open Go.ChangeShapes Go.WideShapes Go.ChangeAt Go.RowKit
open Go.ChangeMaps (open_string shut_string)

def Rd (w : World) (d : D) (v : Value) : Prop := DR (fun _ => False) w d v []

theorem Rd.nil {w : World} : DRs (fun _ => False) w [] [] [] := by rw [DRs]; exact ⟨rfl, rfl⟩
theorem Rd.cons {w : World} {d : D} {v : Value} {ds : List D} {vs : List Value} (h : Rd w d v) (r : DRs (fun _ => False) w ds vs []) : DRs (fun _ => False) w (d :: ds) (v :: vs) [] := by
  rw [DRs]; exact ⟨v, vs, [], [], rfl, rfl, h, r⟩

theorem law_calls {P : Program} {f : FuncId} {ds ds' : List D} {vs : List Value} {w : World} (h : Sp P f ds ds' (.bool true)) (hr : DRs (fun _ => False) w ds vs []) :
    Calls P f vs.toArray w fun e w' => e = .returned (.bool true) ∧ RowKit.Below w.heap.size w w' := by
  refine (h (fun _ => False) w vs [] (fun _ hb => hb.elim) hr List.nodup_nil (by simp)).mono ?_
  rintro e w' ⟨v, F, Fs', he, _, hv, _, _, hk⟩
  rw [DR] at hv
  obtain ⟨rfl, _⟩ := hv
  exact ⟨he, hk.below⟩

theorem law_callsQ {P : Program} {f : FuncId} {ds ds' gds : List D} {us vs : List Value} {w : World} (h : SpQ (fun S w _ => DRs S w gds us []) P f ds ds' (.bool true)) (hr : DRs (fun _ => False) w ds vs []) (hg : DRs (fun _ => False) w gds us []) :
    Calls P f vs.toArray w fun e w' => e = .returned (.bool true) ∧ RowKit.Below w.heap.size w w' := by
  refine (h (fun _ => False) w vs [] hg (fun _ hb => hb.elim) hr List.nodup_nil (by simp)).mono ?_
  rintro e w' ⟨v, F, Fs', he, _, hv, _, _, hk⟩
  rw [DR] at hv
  obtain ⟨rfl, _⟩ := hv
  exact ⟨he, hk.below⟩

section
variable {H : Type} {enc : TypeId × Value → H} {P : Program} {w : World} {base : Nat} {sp : Nat → Bool} {held : Bool}

theorem rd_str {r : Reach} {b0 : Nat} {t : TypeId} {v : Value} {d : DataW H} {ps : List MemPlace} (ht : P.underlying t = some .string) (hval : Value.okWide P w r b0 t v) (hd : DataW.Trod enc P w base sp held t v d ps) :
    ∃ s : List UInt8, Rd w (.str s) v ∧ s.length ≤ maxLen := by
  obtain ⟨s, rfl, _, _, hs⟩ := open_string ht hval hd
  exact ⟨s.data.toList, by rw [Rd, DR]; exact ⟨rfl, rfl⟩, by simpa using hs⟩

theorem rd_int {r : Reach} {b0 : Nat} {t : TypeId} {k : IntKind} {v : Value} {d : DataW H} {ps : List MemPlace} (ht : P.underlying t = some (.int k)) (hval : Value.okWide P w r b0 t v) (hd : DataW.Trod enc P w base sp held t v d ps) :
    ∃ n : Int, Rd w (.int k n) v ∧ (Lit.int k n).wf = true := by
  obtain ⟨n, rfl, _, _, hs⟩ := open_int ht hval hd
  exact ⟨n, by rw [Rd, DR]; exact ⟨rfl, rfl⟩, hs⟩

theorem rd_bool {r : Reach} {b0 : Nat} {t : TypeId} {v : Value} {d : DataW H} {ps : List MemPlace} (ht : P.underlying t = some .bool) (hval : Value.okWide P w r b0 t v) (hd : DataW.Trod enc P w base sp held t v d ps) :
    ∃ b : Bool, Rd w (.bool b) v := by
  obtain ⟨b, rfl, _, _⟩ := open_bool ht hval hd
  exact ⟨b, by rw [Rd, DR]; exact ⟨rfl, rfl⟩⟩
theorem rd_strs {r : Reach} {b0 : Nat} {t e : TypeId} {v : Value} {d : DataW H} {ps : List MemPlace} (ht : P.underlying t = some (.slice e)) (he : P.underlying e = some .string) (hc : P.cellsOf e = 1) (hval : Value.okWide P w r b0 t v) (hd : DataW.Trod enc P w base sp held t v d ps) :
    ∃ xs : List (List UInt8), Rd w (.slice false 1 (xs.map D.str)) v ∧ xs.length ≤ 9223372036854775807 ∧ ∀ x ∈ xs, x.length ≤ 9223372036854775807 := by
  obtain ⟨a0, len0, cap0, rfl⟩ := okWide_slice ht hval
  obtain ⟨fuel, hf⟩ := hd
  have hmx : maxLen ≤ 9223372036854775807 := by decide
  rcases open_strings ht he hc hf with ⟨hcs, _⟩ | ⟨a, len, cap, ss, hcs, _, hl, hm, hn, _, hcell, hsz⟩
  · simp [Value.cells] at hcs
    obtain ⟨rfl, rfl, rfl⟩ := hcs
    exact ⟨[], by rw [Rd, List.map_nil, DR]; exact ⟨rfl, none, 0, rfl, by simp, .inl rfl⟩, by simp, by simp⟩
  · simp [Value.cells] at hcs
    obtain ⟨rfl, rfl, rfl⟩ := hcs
    have hlen : len0 ≤ ss.length := by rw [hn]; split <;> omega
    by_cases h0 : len0 = 0
    · subst h0
      exact ⟨[], by rw [Rd, List.map_nil, DR]; exact ⟨rfl, _, cap0, rfl, by simp, .inl rfl⟩, by simp, by simp⟩
    · obtain ⟨b, off, spot⟩ := a
      have hc0 := hcell 0 (by omega)
      have hspot : spot = none := by simpa [Addr.add] using World.cell?_spot hc0
      subst hspot
      refine ⟨(ss.take len0).map fun s => s.data.toList, ?_, by simp; omega, ?_⟩
      · have hvs : ∀ l : List ByteArray, DRs (fun _ => False) w ((l.map fun s => s.data.toList).map D.str) (l.map Value.string) [] := by
          intro l
          induction l with
          | nil => exact Rd.nil
          | cons s l ih => exact Rd.cons (by rw [Rd, DR]; exact ⟨rfl, rfl⟩) ih
        rw [Rd, DR]
        refine ⟨rfl, some ⟨b, off, none⟩, cap0, ?_, ?_, .inr ⟨b, off, (ss.take len0).map Value.string, rfl, fun h => h, hvs _, ?_, ?_, World.block_lt_of_cell? w _ hc0, ?_⟩⟩
        · simp [Nat.min_eq_left hlen]
        · simp; omega
        · intro y hy
          obtain ⟨s, _, rfl⟩ := List.mem_map.1 hy
          simp [Value.cells]
        · have hfl : ∀ l : List ByteArray, flat (l.map Value.string) = l.map Value.string := by
            intro l
            induction l with
            | nil => rfl
            | cons s l ih =>
              have e : flat (Value.string s :: l.map Value.string) = Value.string s :: flat (l.map Value.string) := rfl
              rw [List.map_cons, e, ih]
          rw [hfl]
          intro i y hi
          rw [List.getElem?_map] at hi
          cases hg : (ss.take len0)[i]? with
          | none => rw [hg] at hi; cases hi
          | some s =>
            rw [hg] at hi; cases hi
            have hil : i < ss.length := by
              have := (List.getElem?_eq_some_iff.1 hg).1
              simp at this; omega
            have hgs : ss.getD i ByteArray.empty = s := by
              have h1 := (List.getElem?_eq_some_iff.1 hg).2
              simp at h1
              simp [hil, h1]
            have := hcell i hil
            rw [hgs] at this
            have e : (⟨b, off, none⟩ : Addr).add i = ⟨b, off + i, none⟩ := by
              unfold Addr.add; split
              · rename_i h; subst h; rfl
              · rfl
            rw [e] at this
            exact this
        · intro x hx
          obtain ⟨s, _, rfl⟩ := List.mem_map.1 hx
          rfl
      · intro x hx
        obtain ⟨s, hs, rfl⟩ := List.mem_map.1 hx
        have := hsz s (List.mem_of_mem_take hs)
        simpa using Nat.le_trans this hmx
end

end Go.AM
