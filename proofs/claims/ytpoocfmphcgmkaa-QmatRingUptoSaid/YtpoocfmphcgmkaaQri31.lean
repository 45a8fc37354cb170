/-
  A part of the proof.
-/
import Derived.Test.YtpoocfmphcgmkaaQri30
import Derived.Test.YtpoocfmphcgmkaaQri25
set_option linter.unusedVariables false
set_option linter.unusedSimpArgs false
set_option linter.unusedSimpArgs false
set_option linter.unusedVariables false
namespace Go.Mt
open Go Go.Pm Go.Proofs Go.RowKit Go.ChangeShapes Go.WideShapes Go.ChangeAt
section
variable {H : Type} {enc : TypeId × Value → H} {w : World} {hd : Bool}
def RatsM (l : List QR) (b : Nat) : Prop := (∀ x ∈ l, Rq x ∧ x.1.2.length + 1 ≤ b ∧ x.2.2.length + 1 ≤ b) ∧ l.length + 1 ≤ b
theorem RatsM.of {l : List QR} {b : Nat} (h : ManyM (fun x b => RatM x b ∧ 3 ≤ b) l b) : RatsM l b := by
  refine ⟨fun x hx => ?_, h.len (fun _ _ h => by omega)⟩
  obtain ⟨b', h1, ⟨h2, h3, h4⟩, _⟩ := h.mem x hx
  exact ⟨h2, by omega, by omega⟩
end
end Go.Mt
