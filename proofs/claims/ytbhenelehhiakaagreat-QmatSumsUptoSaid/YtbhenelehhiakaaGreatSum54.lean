/-
  References and small functions of the law QmatFrom: SameVec, Same of fractions, Vec.
-/
import Derived.Test.YtbhenelehhiakaaGreatSum38
import Derived.Test.YtbhenelehhiakaaGreatSum34
import Derived.Test.YtbhenelehhiakaaGreatSum29
import Derived.Test.YtbhenelehhiakaaGreatSum31
set_option linter.unusedVariables false
set_option linter.unusedSimpArgs false
namespace Go.Proofs.YtbhenelehhiakaaGreat
open Go.RowKit

/-- a vector of the references, as raw data -/
def RVRef (w : World) (qs : List Rat) (e : Ending) (w' : World) : Prop := ∃ a n c a2 n2 c2, e = .returned (.agg #[.bool false, .slice a n c, .slice a2 n2 c2]) ∧ NatS 0 w' a n c (limbs (comDen qs)) ∧ Sl rInt 0 w' a2 n2 c2 ((qs.map (comNum (comDen qs))).map rawI) ∧ Ext w w'
/-- the same in memory of its own -/
def RVRefN (w : World) (qs : List Rat) (e : Ending) (w' : World) : Prop := ∃ a n c a2 n2 c2, e = .returned (.agg #[.bool false, .slice a n c, .slice a2 n2 c2]) ∧ NatS w.heap.size w' a n c (limbs (comDen qs)) ∧ Sl rIntN w.heap.size w' a2 n2 c2 (qs.map (comNum (comDen qs))) ∧ Ext w w'
theorem RVRefN.ref {w w' : World} {qs : List Rat} {e : Ending} (h : RVRefN w qs e w') : RVRef w qs e w' := by
  obtain ⟨a, n, c, a2, n2, c2, he, h1, h2, hE⟩ := h
  exact ⟨a, n, c, a2, n2, c2, he, Sl.zero h1, rawInts h2, hE⟩
end Go.Proofs.YtbhenelehhiakaaGreat
