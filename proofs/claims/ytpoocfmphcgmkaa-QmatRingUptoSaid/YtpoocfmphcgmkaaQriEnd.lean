/-
  The law QmatRing returns true, where what it reads is of bulk at most 1048576. There is no other condition.
-/
import Derived.Test.YtpoocfmphcgmkaaRows
import Derived.WalkKit
import Derived.ProofKit
import Derived.OpenShut
import Derived.JoinedCond
import Derived.Test.YtpoocfmphcgmkaaQri39
set_option linter.unusedVariables false
set_option linter.unusedSimpArgs false
set_option linter.unusedSimpArgs false
set_option linter.unusedVariables false
namespace Go.Proofs.Ytpoocfmphcgmkaa.qmatRing
open Go.ChangeShapes Go.WideShapes Go.ChangeAt Go.RowKit Go.Pm Go.Mt
theorem band {a b : Bool} (ha : a = true) (hb : b = true) : (a && b) = true := by rw [ha, hb]; rfl
set_option maxRecDepth 100000 in
set_option maxHeartbeats 4000000 in
theorem closed : joinedFacts Try.pinned.checked.prog 3 Try.f3 (Rows.OpenSpec.upto Rows.qmatRingSpec).bare Rows.qmatRingUptoRow = true := by
  unfold joinedFacts
  iterate 31 refine band ?_ ?_
  all_goals (as_aux_lemma => kernel_rfl)
theorem over : Rows.qmatRingUptoRow.holds Try.pinned (Rows.OpenSpec.upto Rows.qmatRingSpec) :=
  OpenClaim.holds_of_cond 3 Try.f3 rfl rfl rfl rfl rfl rfl rfl ⟨rfl, rfl, rfl, rfl, rfl⟩ rfl rfl rfl rfl rfl (by kernel_rfl) Try.func3 closed
    (of_decide_eq_true (by kernel_rfl)) (by unfold Func.isWrapper; first | (rw [if_pos (by decide +kernel)]; kernel_rfl) | (rw [if_neg (by decide +kernel)]; exact ⟨rfl, rfl⟩))
    (fun os started H enc _ F => lifted os started H enc F)
/-- the statement -/
theorem proved : Rows.QmatRingUptoSaid :=
  over
#print axioms proved
end Go.Proofs.Ytpoocfmphcgmkaa.qmatRing
