/-
  A part of the proof.
-/
import Derived.Test.YtpoocfmphcgmkaaQri25
import Derived.Test.YtpoocfmphcgmkaaQri2
import Derived.Test.YtpoocfmphcgmkaaQri24
set_option linter.unusedVariables false
set_option linter.unusedSimpArgs false
set_option linter.unusedSimpArgs false
set_option linter.unusedVariables false
namespace Go.Mt
open Go Go.Pm Go.Proofs
def zq : List D := [.v (.bool false), .sl [], .v (.bool false), .sl []]
/-- the coefficients so far, the greatest power's last -/
def fl (p : Nat → Rat) (n k : Nat) : List (List D) := (List.range (n + 1)).map fun j => if n - j < k then qel (nq (cN p (n - j))) else zq
end Go.Mt
