/-
  A part of the proof.
-/
import Derived.Test.YtpoocfmphcgmkaaGreatBre39
import Derived.Test.YtpoocfmphcgmkaaGreatBre40
set_option linter.unusedVariables false
set_option linter.unusedSimpArgs false
set_option linter.unusedSimpArgs false
set_option linter.unusedVariables false
namespace Go.Mt
open Go Go.Pm Go.Proofs
def zV : VR := ((false, []), [])
theorem vecNorm_p (v : VR) (hd : Rz v.1) (hz : ∀ z ∈ v.2, Rz z) (hn : v.2.length < 549755813888) :
    PCall Tryz.prog 110 [.d (vd v)] (.tup [.d (vd (if ofR v.1 = 0 then zV else vnm (valV v))), .d (.v (.int .i64 (if ofR v.1 = 0 then 6 else 0)))]) := by
  have hc := vecCheck_p [v] (fun x hx => by obtain rfl := List.mem_singleton.1 hx; exact hd) (show 1 < 549755813888 by decide)
  by_cases h0 : ofR v.1 = 0
  · have e : vchE [v] = 6 := if_neg (by simp [h0])
    rw [e] at hc
    rw [if_pos h0, if_pos h0]
    refine pcall_of hmo Tryz.func110 rfl (by kernel_rfl) (by simp [Tryz.ntmps110]) ?_; simp -implicitDefEqProofs [go_sem, Tryz.ntmps110]; (repeat refine And.intro (by first | decide +kernel | omega | kernel_rfl) ?_); (try decide +kernel)
    refine .inl ⟨_, hc, ?_⟩; simp -implicitDefEqProofs [go_sem]; (repeat refine And.intro (by first | decide +kernel | omega | kernel_rfl) ?_); (try decide +kernel)
  · have e : vchE [v] = 0 := if_pos (by simp [h0])
    rw [e] at hc
    have hv := vec_p v.1 v.2 hd h0 hz hn
    have hv : PCall Tryz.prog 161 [.d (zd v.1), .d (.sl (zes v.2))] (.one (.d (vd (vnm (valV v))))) := hv
    rw [if_neg h0, if_neg h0]
    generalize vnm (valV v) = V at *
    refine pcall_of hmo Tryz.func110 rfl (by kernel_rfl) (by simp [Tryz.ntmps110]) ?_; simp -implicitDefEqProofs [go_sem, Tryz.ntmps110]; (repeat refine And.intro (by first | decide +kernel | omega | kernel_rfl) ?_); (try decide +kernel)
    refine .inl ⟨_, hc, ?_⟩; simp -implicitDefEqProofs [go_sem]; (repeat refine And.intro (by first | decide +kernel | omega | kernel_rfl) ?_); (try decide +kernel)
    refine .inl ⟨_, hv, ?_⟩; simp -implicitDefEqProofs [go_sem]; (repeat refine And.intro (by first | decide +kernel | omega | kernel_rfl) ?_); (try decide +kernel)
/-- a vector that came in -/
structure Iw (v : VR) : Prop where
  d : Rz v.1
  ld : v.1.2.length < 1048577
  z : ∀ z ∈ v.2, Rz z ∧ z.2.length < 1048577
  n : v.2.length < 1048577
theorem Iw.ql {v : VR} (h : Iw v) (h0 : ofR v.1 ≠ 0) : ∀ q ∈ valV v, ql q ≤ 1048577 := fun q hq => by
  obtain ⟨z, hz, rfl⟩ := List.mem_map.1 hq
  have h3 := ql_ratv (ofR z) (ofR v.1) h0
  have := zl_ofR (h.z z hz).1
  have := zl_ofR h.d
  have := (h.z z hz).2
  have := h.ld
  omega
end Go.Mt
/-
  A part of the proof.
-/
set_option linter.unusedSimpArgs false
set_option linter.unusedVariables false
namespace Go.Mt
open Go Go.Pm Go.Proofs
/-- a vector with its bound -/
structure Gv (K : Nat) (v : VR) : Prop where
  d : Rz v.1
  ne : ofR v.1 ≠ 0
  rz : ∀ z ∈ v.2, Rz z
  k : ∀ z ∈ v.2, zl (ofR z) ≤ K
  kd : zl (ofR v.1) ≤ K
  n : v.2.length < 549755813888
theorem Gv.mono {K L : Nat} {v : VR} (h : Gv K v) (hl : K ≤ L) : Gv L v := ⟨h.d, h.ne, h.rz, fun z hz => Nat.le_trans (h.k z hz) hl, Nat.le_trans h.kd hl, h.n⟩
/-- normal forms are no longer than what they come from -/
theorem vnm_gv {D : Int} (h0 : D ≠ 0) {row : List ZR} (hr : ∀ z ∈ row, Rz z) {K : Nat} (hK : K < 1099511627776) (h1 : 1 ≤ K) (hD : zl D ≤ K) (hk : ∀ z ∈ row, zl (ofR z) ≤ K) (hn : row.length < 549755813888) : Gv K (vnm (valR D row)) := by
  have hm := nm_bound (D := D) h0 (rows := [row]) (K := K) (by simp [evenB, colsOf]) ⟨fun r hr2 z hz => by
      obtain rfl : r = row := by simpa using hr2
      exact hr z hz, by simp, fun r hr2 => by
      obtain rfl : r = row := by simpa using hr2
      exact hn⟩ hK hD (fun r hr2 z hz => by
      obtain rfl : r = row := by simpa using hr2
      exact hk z hz)
  have e : fracs D (zz [row]) = [valR D row] := by unfold fracs zz valR; simp [Function.comp]
  rw [e, nm_one, Nat.max_eq_left h1] at hm
  exact ⟨hm.d, hm.ne, fun z hz => hm.g.rz _ List.mem_cons_self z hz, fun z hz => hm.k _ List.mem_cons_self z hz, hm.kd, by simp [vnm, vns, valR]; exact hn⟩
end Go.Mt
/-
  A part of the proof.
-/
set_option linter.unusedSimpArgs false
set_option linter.unusedVariables false
namespace Go.Mt
open Go Go.Pm Go.Proofs
/-- what a call was given: a polynomial, a matrix, a vector -/
def bcl (f : List QR) (m : MR) (v : VR) : List PV := [.d (.sl (qes f)), .d (.v (.bool m.1.1)), .d (.sl (les m.1.2)), .d (.sl (rws m.2)), .d (.v (.bool v.1.1)), .d (.sl (les v.1.2)), .d (.sl (zes v.2))]
def hsB (f : List QR) (m : MR) (v : VR) (e : Int) : Heap := [(44, .box [.pr 32 0 0 0]), (48, .box [.d (.v (.bool true))]), (52, .box [.d (.v (.int .i64 e))]), (32, .box (bcl f m v))]
attribute [go_sem] bcl hsB
end Go.Mt
/-
  A part of the proof.
-/
set_option linter.unusedSimpArgs false
set_option linter.unusedVariables false
namespace Go.Mt
open Go Go.Pm Go.Proofs
theorem Iw.gv {v : VR} (h : Iw v) (h0 : ofR v.1 ≠ 0) : Gv 1048577 (vnm (valV v)) := vnm_gv h0 (fun z hz => (h.z z hz).1) (by decide) (by decide) (by have := zl_ofR h.d; have := h.ld; omega) (fun z hz => by
  have := zl_ofR (h.z z hz).1
  have := (h.z z hz).2
  omega) (by have := h.n; omega)
end Go.Mt
/-
  A part of the proof.
-/
set_option linter.unusedSimpArgs false
set_option linter.unusedVariables false
namespace Go.Mt
open Go Go.Pm Go.Proofs
/-- how many are not 0 -/
def cnt (qs : List Rat) : Nat := (qs.filter fun q => q ≠ 0).length
end Go.Mt
