/-
  The abstract machine, part Q: from a contract to a law's statement: the arguments, read as data, as data of the machine.
-/
import Derived.Test.YtnmlcebejnlikaaGreatAmO
import Derived.ProofKit
import Derived.OpenShut
import Derived.ShutString
import Derived.SliceStrings
import Derived.ChangeOld
import Derived.Below
namespace Go.AM
open Go.ChangeShapes Go.WideShapes Go.ChangeAt Go.RowKit
open Go.ChangeMaps (open_string shut_string)

def Rd (w : World) (d : D) (v : Value) : Prop := DR (fun _ => False) w d v []

theorem Rd.nil {w : World} : DRs (fun _ => False) w [] [] [] := by rw [DRs]; exact ⟨rfl, rfl⟩
theorem Rd.cons {w : World} {d : D} {v : Value} {ds : List D} {vs : List Value} (h : Rd w d v) (r : DRs (fun _ => False) w ds vs []) : DRs (fun _ => False) w (d :: ds) (v :: vs) [] := by
  rw [DRs]; exact ⟨v, vs, [], [], rfl, rfl, h, r⟩

theorem law_calls {P : Program} {f : FuncId} {ds ds' : List D} {vs : List Value} {w : World} (h : Sp P f ds ds' (.bool true)) (hr : DRs (fun _ => False) w ds vs []) :
    Calls P f vs.toArray w fun e w' => e = .returned (.bool true) ∧ RowKit.Below w.heap.size w w' := by
  refine (h (fun _ => False) w vs [] (fun _ hb => hb.elim) hr List.nodup_nil (by simp)).mono ?_
  rintro e w' ⟨v, F, Fs', he, _, hv, _, _, hk⟩
  rw [DR] at hv
  obtain ⟨rfl, _⟩ := hv
  exact ⟨he, hk.below⟩

section
variable {H : Type} {enc : TypeId × Value → H} {P : Program} {w : World} {base : Nat} {sp : Nat → Bool} {held : Bool}

theorem rd_int {r : Reach} {b0 : Nat} {t : TypeId} {k : IntKind} {v : Value} {d : DataW H} {ps : List MemPlace} (ht : P.underlying t = some (.int k)) (hval : Value.okWide P w r b0 t v) (hd : DataW.Trod enc P w base sp held t v d ps) :
    ∃ n : Int, Rd w (.int k n) v ∧ (Lit.int k n).wf = true := by
  obtain ⟨n, rfl, _, _, hs⟩ := open_int ht hval hd
  exact ⟨n, by rw [Rd, DR]; exact ⟨rfl, rfl⟩, hs⟩

end

end Go.AM
