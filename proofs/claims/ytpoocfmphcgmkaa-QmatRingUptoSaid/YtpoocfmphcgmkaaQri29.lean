/-
  A part of the proof.
-/
import Derived.Test.YtpoocfmphcgmkaaQri28
import Derived.Test.YtpoocfmphcgmkaaQri27
set_option linter.unusedVariables false
set_option linter.unusedSimpArgs false
set_option linter.unusedSimpArgs false
set_option linter.unusedVariables false
namespace Go.Mt
open Go Go.Pm Go.Proofs
/-- a normal form whose numbers are not too long -/
structure Nz (V : List (List Rat)) : Prop where
  d : Lz (nm V).1
  z : ∀ r ∈ (nm V).2, ∀ z ∈ r, Lz z
theorem Nz.of {V : List (List Rat)} {K L : Nat} (hq : ∀ r ∈ V, ∀ q ∈ r, ql q ≤ K) (hD : nl (comDen V.flatten) ≤ L) (hKL : K + L < 1099511627776) : Nz V := by
  refine ⟨?_, fun r hr z hz => ?_⟩
  · show (nrm _).2.length < _
    rw [rz_len, zl_nat]
    unfold nrmD; omega
  · obtain ⟨zs, h1, rfl⟩ := List.mem_map.1 hr
    obtain ⟨z0, h2, rfl⟩ := List.mem_map.1 hz
    obtain ⟨r0, h3, rfl⟩ := List.mem_map.1 h1
    obtain ⟨q, h4, rfl⟩ := List.mem_map.1 h2
    have h5 := hq r0 h3 q h4
    have h6 := nl_comNum (K := K) (KL := L) (D := nrmD V) (q := q) (by have := ql_num q; unfold zl at this; omega) (by unfold nrmD; exact hD)
    show (nrm _).2.length < _
    rw [rz_len]
    unfold zl; omega
end Go.Mt
