/-
  A part of the proof.
-/
import Derived.Test.YtmhclkagdpbadaaGreatCtr42
import Derived.Test.YtmhclkagdpbadaaGreatCtr44
set_option linter.unusedVariables false
set_option linter.unusedSimpArgs false
set_option linter.unusedSimpArgs false
set_option linter.unusedVariables false
namespace Go.Mt
open Go Go.Pm Go.Proofs
theorem traces_a (l : List QR) {b : Nat} (h : RatsM l b) (hb : b ≤ 1048576) : PCall Tryz.prog 13 [.d (.sl (qes l))] (.one (.d (.v (.bool true)))) :=
  traces_p l (fun x hx => ⟨(h.1 x hx).1, by have := (h.1 x hx).2; omega, by have := (h.1 x hx).2; omega⟩) (by have := h.2; omega)
end Go.Mt
