/-
  A part of the proof.
-/
import Derived.Test.YtmhclkagdpbadaaGreatEcb42
import Derived.Test.YtmhclkagdpbadaaGreatEcb44
set_option linter.unusedVariables false
set_option linter.unusedSimpArgs false
set_option linter.unusedSimpArgs false
set_option linter.unusedVariables false
namespace Go.Mt
open Go Go.Pm Go.Proofs
theorem awake14_p : PCall Tryz.prog 69 [] (.one (.d (.v (.bool true)))) := Go.Tz.c323
end Go.Mt
