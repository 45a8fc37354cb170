/-
  A part of the proof.
-/
import Derived.Test.YtpoocfmphcgmkaaQri2
import Derived.Test.YtpoocfmphcgmkaaQri26
import Derived.Test.YtpoocfmphcgmkaaQri32
import Derived.Test.YtpoocfmphcgmkaaQri27
import Derived.Test.YtpoocfmphcgmkaaQri29
import Derived.Test.YtpoocfmphcgmkaaQri24
set_option linter.unusedVariables false
set_option linter.unusedSimpArgs false
set_option linter.unusedSimpArgs false
set_option linter.unusedVariables false
namespace Go.Mt
open Go Go.Pm Go.Proofs
/-- the powers' entries -/
def pwE (A : List (List Rat)) (n : Nat) : Nat → Nat → Nat → Rat
  | 0, i, k => if i = k then 1 else 0
  | t + 1, i, k => sumN n fun j => pwE A n t i j * entQ A j k
end Go.Mt
/-
  A part of the proof.
-/
set_option linter.unusedSimpArgs false
set_option linter.unusedVariables false
namespace Go.Mt
open Go Go.Pm Go.Proofs
/-- rows of whole numbers, as they are given -/
def irel (r : List Int) : List D := [.sl (ies r)]
def iws (rows : List (List Int)) : List (List D) := rows.map irel
attribute [go_sem] irel
@[go_sem] theorem iws_len (l : List (List Int)) : (iws l).length = l.length := by simp [iws]
@[go_sem] theorem iws_ge {l : List (List Int)} {i : Nat} (h : i < (iws l).length) : (iws l)[i] = irel (l[i]'(by rw [iws_len] at h; exact h)) := by simp [iws]
/-- the matrix that they say -/
def iM (rows : List (List Int)) : MR := (nrm 1, rows.map fun r => r.map nrm)
end Go.Mt
/-
  A part of the proof.
-/
set_option linter.unusedSimpArgs false
set_option linter.unusedVariables false
namespace Go.Mt
open Go Go.Pm Go.Proofs
theorem Sq.rw {n K : Nat} {A : List (List Rat)} (h : Sq n K A) (h2 : ∀ r ∈ A, r.length = n) : (∀ r ∈ A, r.length < 1099511627776) ∧ A.length < 1099511627776 :=
  ⟨fun r hr => by have := h2 r hr; have := h.n1; omega, by have := h.l; have := h.n1; omega⟩
end Go.Mt
