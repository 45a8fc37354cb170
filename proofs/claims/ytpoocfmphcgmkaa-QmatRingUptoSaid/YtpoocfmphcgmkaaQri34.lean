/-
  A part of the proof.
-/
import Derived.Test.YtpoocfmphcgmkaaQri33
import Derived.Test.YtpoocfmphcgmkaaQri32
set_option linter.unusedVariables false
set_option linter.unusedSimpArgs false
set_option linter.unusedSimpArgs false
set_option linter.unusedVariables false
namespace Go.Mt
open Go Go.Pm Go.Proofs
/-- a vector that came in -/
structure Iw (v : VR) : Prop where
  d : Rz v.1
  ld : v.1.2.length < 1048577
  z : ∀ z ∈ v.2, Rz z ∧ z.2.length < 1048577
  n : v.2.length < 1048577
theorem Iw.ql {v : VR} (h : Iw v) (h0 : ofR v.1 ≠ 0) : ∀ q ∈ valV v, ql q ≤ 1048577 := fun q hq => by
  obtain ⟨z, hz, rfl⟩ := List.mem_map.1 hq
  have h3 := ql_ratv (ofR z) (ofR v.1) h0
  have := zl_ofR (h.z z hz).1
  have := zl_ofR h.d
  have := (h.z z hz).2
  have := h.ld
  omega
end Go.Mt
/-
  A part of the proof.
-/
set_option linter.unusedSimpArgs false
set_option linter.unusedVariables false
namespace Go.Mt
open Go Go.Pm Go.Proofs
/-- a vector with its bound -/
structure Gv (K : Nat) (v : VR) : Prop where
  d : Rz v.1
  ne : ofR v.1 ≠ 0
  rz : ∀ z ∈ v.2, Rz z
  k : ∀ z ∈ v.2, zl (ofR z) ≤ K
  kd : zl (ofR v.1) ≤ K
  n : v.2.length < 549755813888
theorem Gv.mono {K L : Nat} {v : VR} (h : Gv K v) (hl : K ≤ L) : Gv L v := ⟨h.d, h.ne, h.rz, fun z hz => Nat.le_trans (h.k z hz) hl, Nat.le_trans h.kd hl, h.n⟩
end Go.Mt
/-
  A part of the proof.
-/
set_option linter.unusedSimpArgs false
set_option linter.unusedVariables false
namespace Go.Mt
open Go Go.Pm Go.Proofs
/-- what a call was given: a polynomial, a matrix, a vector -/
def bcl (f : List QR) (m : MR) (v : VR) : List PV := [.d (.sl (qes f)), .d (.v (.bool m.1.1)), .d (.sl (les m.1.2)), .d (.sl (rws m.2)), .d (.v (.bool v.1.1)), .d (.sl (les v.1.2)), .d (.sl (zes v.2))]
def hsB (f : List QR) (m : MR) (v : VR) (e : Int) : Heap := [(44, .box [.pr 32 0 0 0]), (48, .box [.d (.v (.bool true))]), (52, .box [.d (.v (.int .i64 e))]), (32, .box (bcl f m v))]
attribute [go_sem] bcl hsB
end Go.Mt
/-
  A part of the proof.
-/
set_option linter.unusedSimpArgs false
set_option linter.unusedVariables false
namespace Go.Mt
open Go Go.Pm Go.Proofs
/-- how many are not 0 -/
def cnt (qs : List Rat) : Nat := (qs.filter fun q => q ≠ 0).length
end Go.Mt
