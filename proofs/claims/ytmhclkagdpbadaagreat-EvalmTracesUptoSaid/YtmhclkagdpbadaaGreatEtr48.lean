/-
  A part of the proof.
-/
import Derived.Test.YtmhclkagdpbadaaGreatEtr35
import Derived.Test.YtmhclkagdpbadaaGreatEtr47
import Derived.Test.YtmhclkagdpbadaaGreatEtr25
import Derived.Test.YtmhclkagdpbadaaGreatEtr34
set_option linter.unusedVariables false
set_option linter.unusedSimpArgs false
set_option linter.unusedSimpArgs false
set_option linter.unusedVariables false
namespace Go.Mt
open Go Go.Pm Go.Proofs
theorem of5_1 : PCall Tryz.prog 130 [.d (.v (.int .i64 1))] (.one (.d (qd (nq 1)))) := of5_p 1 (by decide) (by decide)
def zq : List D := [.v (.bool false), .sl [], .v (.bool false), .sl []]
/-- the coefficients so far, the greatest power's last -/
def fl (p : Nat → Rat) (n k : Nat) : List (List D) := (List.range (n + 1)).map fun j => if n - j < k then qel (nq (cN p (n - j))) else zq
end Go.Mt
