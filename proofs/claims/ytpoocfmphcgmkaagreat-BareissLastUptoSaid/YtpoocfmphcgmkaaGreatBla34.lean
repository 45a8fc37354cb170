/-
  A part of the proof.
-/
import Derived.Test.YtpoocfmphcgmkaaGreatBla33
import Derived.Test.YtpoocfmphcgmkaaGreatBla22
set_option linter.unusedVariables false
set_option linter.unusedSimpArgs false
set_option linter.unusedSimpArgs false
set_option linter.unusedVariables false
namespace Go.Mt
open Go Go.Pm Go.Proofs
theorem row_t {rows : List (Option (List (List D)))} {r : Nat} {es : List (List D)} (h : rows[r]? = some (some es)) (el rel : TypeId) (k ver : Nat) (fz : Bool) (out : List Nat) : Tab.row ⟨el, rel, k, ver, fz, out, rows⟩ r = some es := by
  simp [Tab.row, h]
theorem rowAt_t {rows : List (Option (List (List D)))} {r : Nat} {es : List (List D)} (h : rows[r]? = some (some es)) (el rel : TypeId) (k ver : Nat) (fz : Bool) (out : List Nat) (σ : St) (K : St → List (List D) → Prop) : RowAt ⟨el, rel, k, ver, fz, out, rows⟩ r σ K = K σ es := by
  unfold RowAt
  rw [row_t h]
  simp
theorem elemR_t {rows : List (Option (List (List D)))} {out : List Nat} {i r : Nat} {es : List (List D)} (h1 : out[i]? = some r) (h : rows[r]? = some (some es)) (el rel : TypeId) (k ver : Nat) (fz : Bool) (σ : St) (K : St → Nat → Prop) : ElemR ⟨el, rel, k, ver, fz, out, rows⟩ i σ K = K σ r := by
  unfold ElemR
  simp [h1, row_t h]
end Go.Mt
/-
  A part of the proof.
-/
set_option linter.unusedSimpArgs false
set_option linter.unusedVariables false
namespace Go.Mt
open Go Go.Pm Go.Proofs
/-- a normal form whose numbers are not too long -/
structure Nz (V : List (List Rat)) : Prop where
  d : Lz (nm V).1
  z : ∀ r ∈ (nm V).2, ∀ z ∈ r, Lz z
theorem Nz.of {V : List (List Rat)} {K L : Nat} (hq : ∀ r ∈ V, ∀ q ∈ r, ql q ≤ K) (hD : nl (comDen V.flatten) ≤ L) (hKL : K + L < 1099511627776) : Nz V := by
  refine ⟨?_, fun r hr z hz => ?_⟩
  · show (nrm _).2.length < _
    rw [rz_len, zl_nat]
    unfold nrmD; omega
  · obtain ⟨zs, h1, rfl⟩ := List.mem_map.1 hr
    obtain ⟨z0, h2, rfl⟩ := List.mem_map.1 hz
    obtain ⟨r0, h3, rfl⟩ := List.mem_map.1 h1
    obtain ⟨q, h4, rfl⟩ := List.mem_map.1 h2
    have h5 := hq r0 h3 q h4
    have h6 := nl_comNum (K := K) (KL := L) (D := nrmD V) (q := q) (by have := ql_num q; unfold zl at this; omega) (by unfold nrmD; exact hD)
    show (nrm _).2.length < _
    rw [rz_len]
    unfold zl; omega
end Go.Mt
