/-
  A part of the proof.
-/
import Derived.Test.YtpoocfmphcgmkaaGreatBre33
import Derived.Test.YtpoocfmphcgmkaaGreatBre22
set_option linter.unusedVariables false
set_option linter.unusedSimpArgs false
set_option linter.unusedSimpArgs false
set_option linter.unusedVariables false
namespace Go.Mt
open Go Go.Pm Go.Proofs
theorem row_t {rows : List (Option (List (List D)))} {r : Nat} {es : List (List D)} (h : rows[r]? = some (some es)) (el rel : TypeId) (k ver : Nat) (fz : Bool) (out : List Nat) : Tab.row ⟨el, rel, k, ver, fz, out, rows⟩ r = some es := by
  simp [Tab.row, h]
theorem rowAt_t {rows : List (Option (List (List D)))} {r : Nat} {es : List (List D)} (h : rows[r]? = some (some es)) (el rel : TypeId) (k ver : Nat) (fz : Bool) (out : List Nat) (σ : St) (K : St → List (List D) → Prop) : RowAt ⟨el, rel, k, ver, fz, out, rows⟩ r σ K = K σ es := by
  unfold RowAt
  rw [row_t h]
  simp
theorem elemR_t {rows : List (Option (List (List D)))} {out : List Nat} {i r : Nat} {es : List (List D)} (h1 : out[i]? = some r) (h : rows[r]? = some (some es)) (el rel : TypeId) (k ver : Nat) (fz : Bool) (σ : St) (K : St → Nat → Prop) : ElemR ⟨el, rel, k, ver, fz, out, rows⟩ i σ K = K σ r := by
  unfold ElemR
  simp [h1, row_t h]
end Go.Mt
/-
  A part of the proof.
-/
set_option linter.unusedSimpArgs false
set_option linter.unusedVariables false
namespace Go.Mt
open Go Go.Pm Go.Proofs
theorem tabQ_flat (f : Nat → Nat → Rat) (r c : Nat) : (tabQ f r c).flatten.length = r * c := by
  unfold tabQ
  rw [List.length_flatten, List.map_map]
  have : (List.length ∘ fun i => (List.range c).map fun k => f i k) = fun _ => c := by funext i; simp
  rw [this, List.map_const', List.sum_replicate_nat, List.length_range]
end Go.Mt
/-
  A part of the proof.
-/
set_option linter.unusedSimpArgs false
set_option linter.unusedVariables false
namespace Go.Mt
open Go Go.Pm Go.Proofs
theorem gl_nm {V : List (List Rat)} {K : Nat} (h : Gm K (nm V)) (hK : K < 8589934592) : Gl (nm V) := by
  refine ⟨h.d, h.ne, h.g, ?_, fun r hr z hz => ?_⟩
  · have := h.kd
    show (nrm _).2.length < _
    rw [rz_len]
    have h2 : zl (ofR (nm V).1) = zl ((nrmD V : Nat) : Int) := by show zl (ofR (nrm _)) = _; rw [ofR_nrm]
    omega
  · have hk := h.k r hr z hz
    obtain ⟨r0, h1, rfl⟩ := List.mem_map.1 hr
    obtain ⟨z0, h2, rfl⟩ := List.mem_map.1 hz
    rw [ofR_nrm] at hk
    rw [rz_len]; omega
/-- a normal form whose numbers are not too long -/
structure Nz (V : List (List Rat)) : Prop where
  d : Lz (nm V).1
  z : ∀ r ∈ (nm V).2, ∀ z ∈ r, Lz z
theorem Nz.of {V : List (List Rat)} {K L : Nat} (hq : ∀ r ∈ V, ∀ q ∈ r, ql q ≤ K) (hD : nl (comDen V.flatten) ≤ L) (hKL : K + L < 1099511627776) : Nz V := by
  refine ⟨?_, fun r hr z hz => ?_⟩
  · show (nrm _).2.length < _
    rw [rz_len, zl_nat]
    unfold nrmD; omega
  · obtain ⟨zs, h1, rfl⟩ := List.mem_map.1 hr
    obtain ⟨z0, h2, rfl⟩ := List.mem_map.1 hz
    obtain ⟨r0, h3, rfl⟩ := List.mem_map.1 h1
    obtain ⟨q, h4, rfl⟩ := List.mem_map.1 h2
    have h5 := hq r0 h3 q h4
    have h6 := nl_comNum (K := K) (KL := L) (D := nrmD V) (q := q) (by have := ql_num q; unfold zl at this; omega) (by unfold nrmD; exact hD)
    show (nrm _).2.length < _
    rw [rz_len]
    unfold zl; omega
theorem same11_n (V : List (List Rat)) (hz : Nz V) (hl : V.length < 1099511627776) (hl2 : ∀ r ∈ V, r.length < 1099511627776) : PCall Tryz.prog 98 [.d (md (nm V)), .d (md (nm V))] (.one (.d (.v (.bool true)))) := by
  have hw : ∀ r ∈ (nm V).2, r.length < 1099511627776 := fun r hr => by
    obtain ⟨zs, h1, rfl⟩ := List.mem_map.1 hr
    obtain ⟨r0, h3, rfl⟩ := List.mem_map.1 h1
    rw [List.length_map, List.length_map]; exact hl2 r0 h3
  have hs := same11_p (nm V) (nm V) hz.d hz.d hz.z hz.z hw hw (by rw [nm_len]; exact hl) (by rw [nm_len]; exact hl)
  rw [decide_eq_true rfl] at hs
  exact hs
end Go.Mt
