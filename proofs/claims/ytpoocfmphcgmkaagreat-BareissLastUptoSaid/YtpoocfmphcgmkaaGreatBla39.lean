/-
  A part of the proof.
-/
import Derived.Test.YtpoocfmphcgmkaaGreatBla34
import Derived.Test.YtpoocfmphcgmkaaGreatBla38
import Derived.Test.YtpoocfmphcgmkaaGreatBla22
set_option linter.unusedVariables false
set_option linter.unusedSimpArgs false
set_option linter.unusedSimpArgs false
set_option linter.unusedVariables false
namespace Go.Mt
open Go Go.Pm Go.Proofs
/-- a matrix that came in -/
structure Im (m : MR) : Prop where
  d : Rz m.1
  ld : m.1.2.length < 1048577
  z : ∀ r ∈ m.2, ∀ z ∈ r, Rz z ∧ z.2.length < 1048577
  n : m.2.length < 1048577
  w : ∀ r ∈ m.2, r.length < 1048577
  fl : m.2.flatten.length < 1048577
theorem Im.of {m : MR} {b : Nat} (h : MatM m b) (hb : b ≤ 1048576) : Im m :=
  ⟨h.1.1, by have := h.1.2; omega, fun r hr z hz => ⟨(h.2.1 r hr z hz).1, by have := (h.2.1 r hr z hz).2; omega⟩, by have := h.2.2.1; omega, fun r hr => by have := h.2.2.2.1 r hr; omega, by have := h.2.2.2.2; omega⟩
theorem Im.g {m : MR} (h : Im m) : Grw m.2 := ⟨fun r hr z hz => (h.z r hr z hz).1, by have := h.n; omega, fun r hr => by have := h.w r hr; omega⟩
theorem check_parts {m : MR} (h : checkE m = 0) : ofR m.1 ≠ 0 ∧ evenB m.2 = true := by
  unfold checkE at h
  by_cases h0 : ofR m.1 = 0
  · rw [if_pos h0] at h; exact absurd h (by decide)
  · rw [if_neg h0] at h
    by_cases h1 : evenB m.2 = true
    · exact ⟨h0, h1⟩
    · rw [if_neg h1] at h; exact absurd h (by decide)
theorem Im.gm {m : MR} (h : Im m) (hc : checkE m = 0) : Gm 1048577 m := by
  obtain ⟨h0, h1⟩ := check_parts hc
  exact ⟨h.d, h0, h.g, h1, fun r hr z hz => by
    have := zl_ofR (h.z r hr z hz).1
    have := (h.z r hr z hz).2
    omega, by have := zl_ofR h.d; have := h.ld; omega⟩
theorem Im.gl {m : MR} (h : Im m) (h0 : ofR m.1 ≠ 0) : Gl m := ⟨h.d, h0, h.g, by have := h.ld; omega, fun r hr z hz => by have := (h.z r hr z hz).2; omega⟩
theorem Im.vfl {m : MR} (h : Im m) : (valM m).flatten.length < 1048577 := by
  have e : (valM m).flatten.length = m.2.flatten.length := by
    rw [valM_rows, List.length_flatten, List.length_flatten, List.map_map]
    congr 1
    exact List.map_congr_left fun r _ => by simp [valR_len]
  rw [e]; exact h.fl
end Go.Mt
/-
  A part of the proof.
-/
set_option linter.unusedSimpArgs false
set_option linter.unusedVariables false
namespace Go.Mt
open Go Go.Pm Go.Proofs
/-- a vector: its denominator, its numbers -/
abbrev VR := ZR × List ZR
def vd (v : VR) : D := .agg [.v (.bool v.1.1), .sl (les v.1.2), .sl (zes v.2)]
def vel (v : VR) : List D := [.v (.bool v.1.1), .sl (les v.1.2), .sl (zes v.2)]
def ves (l : List VR) : List (List D) := l.map vel
def vE : D := .agg [.v (.bool false), .sl [], .sl []]
attribute [go_sem] vd vel vE
@[go_sem] theorem ves_len (l : List VR) : (ves l).length = l.length := by simp [ves]
@[go_sem] theorem ves_ge {l : List VR} {i : Nat} (h : i < (ves l).length) : (ves l)[i] = vel (l[i]'(by rw [ves_len] at h; exact h)) := by simp [ves]
/-- numbers over their least common denominator -/
def vns (qs : List Rat) : List ZR := qs.map fun q => nrm (comNum (comDen qs) q)
def vnm (qs : List Rat) : VR := (nrm (comDen qs : Int), vns qs)
def valV (v : VR) : List Rat := valR (ofR v.1) v.2
theorem nm_one (qs : List Rat) : nm [qs] = (nrm (comDen qs : Int), [vns qs]) := by
  unfold nm nrmZ nrmD vns
  simp
end Go.Mt
/-
  A part of the proof.
-/
set_option linter.unusedSimpArgs false
set_option linter.unusedVariables false
namespace Go.Mt
open Go Go.Pm Go.Proofs
/-- a vector that may be -/
structure Lv (v : VR) : Prop where
  d : Rz v.1
  ne : ofR v.1 ≠ 0
  ld : v.1.2.length < 8589934592
  z : ∀ z ∈ v.2, Rz z ∧ z.2.length < 8589934592
  n : v.2.length < 549755813888
end Go.Mt
/-
  A part of the proof.
-/
set_option linter.unusedSimpArgs false
set_option linter.unusedVariables false
namespace Go.Mt
open Go Go.Pm Go.Proofs
/-- what a call was given: a polynomial, a matrix, no vector -/
def acl (f : List QR) (m : MR) : List PV := [.d (.sl (qes f)), .d (.v (.bool m.1.1)), .d (.sl (les m.1.2)), .d (.sl (rws m.2)), .d (.v (.bool false)), .nl, .nl]
def hsA (f : List QR) (m : MR) (e : Int) : Heap := [(36, .box [.pr 24 0 0 0]), (40, .box [.d (.v (.bool false))]), (44, .box [.d (.v (.int .i64 e))]), (24, .box (acl f m))]
attribute [go_sem] acl hsA
end Go.Mt
/-
  A part of the proof.
-/
set_option linter.unusedSimpArgs false
set_option linter.unusedVariables false
namespace Go.Mt
open Go Go.Pm Go.Proofs
theorem Gm.mono {m : MR} {K L : Nat} (h : Gm K m) (hl : K ≤ L) : Gm L m := ⟨h.d, h.ne, h.g, h.ev, fun r hr z hz => Nat.le_trans (h.k r hr z hz) hl, Nat.le_trans h.kd hl⟩
end Go.Mt
/-
  A part of the proof.
-/
set_option linter.unusedSimpArgs false
set_option linter.unusedVariables false
namespace Go.Mt
open Go Go.Pm Go.Proofs
theorem ident_gm (n : Nat) (hn : n ≤ 1000) : Gm 1 (nm (identQ n)) := by
  obtain ⟨g1, g2, g3⟩ := grw_tab (K := 1) (f := idZ) (r := n) (c := n) (by decide) (by omega) (by omega) (fun i k _ _ => by unfold idZ; split <;> decide)
  have h := nm_bound (D := 1) (by decide) g2 g1 (by decide) (by decide) g3
  rw [zz_tab, frac_id] at h
  exact h
theorem zero_gm (r c : Nat) (hr : r ≤ 1000) (hc : c ≤ 1000) : Gm 1 (nm (zeroQ r c)) := by
  obtain ⟨g1, g2, g3⟩ := grw_tab (K := 1) (f := fun _ _ => 0) (r := r) (c := c) (by decide) (by omega) (by omega) (fun i k _ _ => by decide)
  have h := nm_bound (D := 1) (by decide) g2 g1 (by decide) (by decide) g3
  rw [zz_tab, frac_zero] at h
  exact h
structure Sq (n K : Nat) (A : List (List Rat)) : Prop where
  n0 : 0 < n
  n1 : n ≤ 1000
  l : A.length = n
  c : colsOf A = n
  g : Gm K (nm A)
theorem Sq.id {n : Nat} (h0 : 0 < n) (h1 : n ≤ 1000) : Sq n 1 (identQ n) := ⟨h0, h1, length_tabQ _ _ _, colsOf_tab _ h0, ident_gm n h1⟩
theorem Sq.zero {n : Nat} (h0 : 0 < n) (h1 : n ≤ 1000) : Sq n 1 (zeroQ n n) := ⟨h0, h1, length_tabQ _ _ _, colsOf_tab _ h0, zero_gm n n h1 h1⟩
end Go.Mt
