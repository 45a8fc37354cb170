/-
  A part of the proof.
-/
import Derived.Test.YtpoocfmphcgmkaaGreatBre41
import Derived.Test.YtpoocfmphcgmkaaGreatBre40
set_option linter.unusedVariables false
set_option linter.unusedSimpArgs false
set_option linter.unusedSimpArgs false
set_option linter.unusedVariables false
namespace Go.Mt
open Go Go.Pm Go.Proofs
theorem Iw.lv {v : VR} (h : Iw v) (h0 : ofR v.1 ≠ 0) : Lv v := ⟨h.d, h0, by have := h.ld; omega, fun z hz => ⟨(h.z z hz).1, by have := (h.z z hz).2; omega⟩, by have := h.n; omega⟩
theorem Sq.mono {n K L : Nat} {A : List (List Rat)} (h : Sq n K A) (hl : K ≤ L) : Sq n L A := ⟨h.n0, h.n1, h.l, h.c, h.g.mono hl⟩
end Go.Mt
