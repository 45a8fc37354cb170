/-
  A part of the proof.
-/
import Derived.Test.YtpoocfmphcgmkaaQri29
import Derived.Test.YtpoocfmphcgmkaaQri31
import Derived.Test.YtpoocfmphcgmkaaQri27
set_option linter.unusedVariables false
set_option linter.unusedSimpArgs false
set_option linter.unusedSimpArgs false
set_option linter.unusedVariables false
namespace Go.Mt
open Go Go.Pm Go.Proofs
/-- a matrix that came in -/
structure Im (m : MR) : Prop where
  d : Rz m.1
  ld : m.1.2.length < 1048577
  z : ∀ r ∈ m.2, ∀ z ∈ r, Rz z ∧ z.2.length < 1048577
  n : m.2.length < 1048577
  w : ∀ r ∈ m.2, r.length < 1048577
  fl : m.2.flatten.length < 1048577
theorem Im.of {m : MR} {b : Nat} (h : MatM m b) (hb : b ≤ 1048576) : Im m :=
  ⟨h.1.1, by have := h.1.2; omega, fun r hr z hz => ⟨(h.2.1 r hr z hz).1, by have := (h.2.1 r hr z hz).2; omega⟩, by have := h.2.2.1; omega, fun r hr => by have := h.2.2.2.1 r hr; omega, by have := h.2.2.2.2; omega⟩
theorem Im.g {m : MR} (h : Im m) : Grw m.2 := ⟨fun r hr z hz => (h.z r hr z hz).1, by have := h.n; omega, fun r hr => by have := h.w r hr; omega⟩
theorem check_parts {m : MR} (h : checkE m = 0) : ofR m.1 ≠ 0 ∧ evenB m.2 = true := by
  unfold checkE at h
  by_cases h0 : ofR m.1 = 0
  · rw [if_pos h0] at h; exact absurd h (by decide)
  · rw [if_neg h0] at h
    by_cases h1 : evenB m.2 = true
    · exact ⟨h0, h1⟩
    · rw [if_neg h1] at h; exact absurd h (by decide)
theorem Im.gm {m : MR} (h : Im m) (hc : checkE m = 0) : Gm 1048577 m := by
  obtain ⟨h0, h1⟩ := check_parts hc
  exact ⟨h.d, h0, h.g, h1, fun r hr z hz => by
    have := zl_ofR (h.z r hr z hz).1
    have := (h.z r hr z hz).2
    omega, by have := zl_ofR h.d; have := h.ld; omega⟩
end Go.Mt
/-
  A part of the proof.
-/
set_option linter.unusedSimpArgs false
set_option linter.unusedVariables false
namespace Go.Mt
open Go Go.Pm Go.Proofs
/-- a vector: its denominator, its numbers -/
abbrev VR := ZR × List ZR
def vd (v : VR) : D := .agg [.v (.bool v.1.1), .sl (les v.1.2), .sl (zes v.2)]
def vel (v : VR) : List D := [.v (.bool v.1.1), .sl (les v.1.2), .sl (zes v.2)]
def ves (l : List VR) : List (List D) := l.map vel
def vE : D := .agg [.v (.bool false), .sl [], .sl []]
attribute [go_sem] vd vel vE
@[go_sem] theorem ves_len (l : List VR) : (ves l).length = l.length := by simp [ves]
@[go_sem] theorem ves_ge {l : List VR} {i : Nat} (h : i < (ves l).length) : (ves l)[i] = vel (l[i]'(by rw [ves_len] at h; exact h)) := by simp [ves]
/-- numbers over their least common denominator -/
def vns (qs : List Rat) : List ZR := qs.map fun q => nrm (comNum (comDen qs) q)
def valV (v : VR) : List Rat := valR (ofR v.1) v.2
end Go.Mt
/-
  A part of the proof.
-/
set_option linter.unusedSimpArgs false
set_option linter.unusedVariables false
namespace Go.Mt
open Go Go.Pm Go.Proofs
/-- what a call was given: a polynomial, a matrix, no vector -/
def acl (f : List QR) (m : MR) : List PV := [.d (.sl (qes f)), .d (.v (.bool m.1.1)), .d (.sl (les m.1.2)), .d (.sl (rws m.2)), .d (.v (.bool false)), .nl, .nl]
def hsA (f : List QR) (m : MR) (e : Int) : Heap := [(36, .box [.pr 24 0 0 0]), (40, .box [.d (.v (.bool false))]), (44, .box [.d (.v (.int .i64 e))]), (24, .box (acl f m))]
attribute [go_sem] acl hsA
end Go.Mt
/-
  A part of the proof.
-/
set_option linter.unusedSimpArgs false
set_option linter.unusedVariables false
namespace Go.Mt
open Go Go.Pm Go.Proofs
theorem addQ_gm2 {a b : MR} {K L : Nat} (ha : Gm K a) (hb : Gm L b) (hK : K + L + 1 < 1099511627776) (hn : b.2.length = a.2.length) (hc : colsOf b.2 = colsOf a.2) : Gm (max (K + L + 1) 1) (nm (joinQ (· + ·) (valM a) (valM b) a.2.length (colsOf a.2))) := by
  have hcl := colsOf_lt ha.g
  have hent : ∀ i k, i < a.2.length → k < colsOf a.2 → zl (entry (zz a.2) i k * ofR b.1 + entry (zz b.2) i k * ofR a.1) ≤ K + L + 1 := fun i k hi hk => by
    obtain ⟨_, _, e1, h1⟩ := ha.ent hi hk
    obtain ⟨_, _, e2, h2⟩ := hb.ent (i := i) (k := k) (by omega) (by omega)
    rw [e1, e2]
    have := zl_mul (ofR a.2[i][k]) (ofR b.1)
    have := zl_mul (ofR b.2[i][k]) (ofR a.1)
    have := zl_add (ofR a.2[i][k] * ofR b.1) (ofR b.2[i][k] * ofR a.1)
    have := ha.kd
    have := hb.kd
    omega
  obtain ⟨g1, g2, g3⟩ := grw_tab hK ha.g.nr hcl hent
  have h := nm_bound (D := ofR a.1 * ofR b.1) (Int.mul_ne_zero ha.ne hb.ne) g2 g1 hK (by have := zl_mul (ofR a.1) (ofR b.1); have := ha.kd; have := hb.kd; omega) g3
  rw [zz_tab, addZ_eq _ _ _ _ ha.ne hb.ne] at h
  exact h
theorem Gm.mono {m : MR} {K L : Nat} (h : Gm K m) (hl : K ≤ L) : Gm L m := ⟨h.d, h.ne, h.g, h.ev, fun r hr z hz => Nat.le_trans (h.k r hr z hz) hl, Nat.le_trans h.kd hl⟩
end Go.Mt
/-
  A part of the proof.
-/
set_option linter.unusedSimpArgs false
set_option linter.unusedVariables false
namespace Go.Mt
open Go Go.Pm Go.Proofs
theorem qadd_g (a b : MR) {K L : Nat} (ha : Gm K a) (hb : Gm L b) (hK : 2 * K + 2 * L + 2 < 1099511627776) (hn : b.2.length = a.2.length) (hc : colsOf b.2 = colsOf a.2) :
    PCall Try.prog 8 [.d (md a), .d (md b)] (.tup [.d (md (nm (joinQ (· + ·) (valM a) (valM b) a.2.length (colsOf a.2)))), .d (.v (.int .i64 0))]) :=
  qadd_m a b (K := K + L) (ha.mono (by omega)) (hb.mono (by omega)) (by omega) hn hc
end Go.Mt
/-
  A part of the proof.
-/
set_option linter.unusedSimpArgs false
set_option linter.unusedVariables false
namespace Go.Mt
open Go Go.Pm Go.Proofs
theorem mulm_gm2 (a b : MR) {K L : Nat} (ha : Gm K a) (hb : Gm L b) (hK : K + L + 2 < 1099511627776) (hn : b.2.length = colsOf a.2) : Gm (K + L + 2) (nm (mulQ (valM a) (valM b) a.2.length (colsOf a.2) (colsOf b.2))) := by
  have hdl := zl_mul (ofR a.1) (ofR b.1)
  have hka := ha.kd
  have hkb := hb.kd
  have hcb := colsOf_lt hb.g
  have hent : ∀ i k, i < a.2.length → k < colsOf b.2 → zl (mulE a b (colsOf a.2) i k) ≤ K + L + 2 := fun i k hi hk => zl_sumZ (fun j hj => by
    obtain ⟨_, _, e1, h1⟩ := ha.ent hi hj
    obtain ⟨_, _, e2, h2⟩ := hb.ent (i := j) (by omega) hk
    rw [e1, e2]
    have := zl_mul (ofR a.2[i][j]) (ofR b.2[j][k])
    omega) (by have := hb.g.nr; omega)
  obtain ⟨g1, g2, g3⟩ := grw_tab hK ha.g.nr hcb hent
  have h := nm_bound (D := ofR a.1 * ofR b.1) (Int.mul_ne_zero ha.ne hb.ne) g2 g1 hK (by omega) g3
  have e : fracs (ofR a.1 * ofR b.1) (tableZ (mulE a b (colsOf a.2)) a.2.length (colsOf b.2)) = mulQ (valM a) (valM b) a.2.length (colsOf a.2) (colsOf b.2) := mulZ_eq (zz a.2) (zz b.2) (ofR a.1) (ofR b.1) ha.ne hb.ne _ _ _
  rw [zz_tab, e, Nat.max_eq_left (by omega)] at h
  exact h
theorem ident_gm (n : Nat) (hn : n ≤ 1000) : Gm 1 (nm (identQ n)) := by
  obtain ⟨g1, g2, g3⟩ := grw_tab (K := 1) (f := idZ) (r := n) (c := n) (by decide) (by omega) (by omega) (fun i k _ _ => by unfold idZ; split <;> decide)
  have h := nm_bound (D := 1) (by decide) g2 g1 (by decide) (by decide) g3
  rw [zz_tab, frac_id] at h
  exact h
theorem zero_gm (r c : Nat) (hr : r ≤ 1000) (hc : c ≤ 1000) : Gm 1 (nm (zeroQ r c)) := by
  obtain ⟨g1, g2, g3⟩ := grw_tab (K := 1) (f := fun _ _ => 0) (r := r) (c := c) (by decide) (by omega) (by omega) (fun i k _ _ => by decide)
  have h := nm_bound (D := 1) (by decide) g2 g1 (by decide) (by decide) g3
  rw [zz_tab, frac_zero] at h
  exact h
structure Sq (n K : Nat) (A : List (List Rat)) : Prop where
  n0 : 0 < n
  n1 : n ≤ 1000
  l : A.length = n
  c : colsOf A = n
  g : Gm K (nm A)
theorem Sq.mul {n K L : Nat} {A B : List (List Rat)} (ha : Sq n K A) (hb : Sq n L B) (hK : 2 * K + 2 * L + 2 < 1099511627776) :
    PCall Try.prog 7 [.d (md (nm A)), .d (md (nm B))] (.tup [.d (md (nm (mulQ A B n n n))), .d (.v (.int .i64 0))]) ∧ Sq n (K + L + 2) (mulQ A B n n n) := by
  have h := mulm_p (nm A) (nm B) (K := K + L) (ha.g.mono (by omega)) (hb.g.mono (by omega)) (by omega) (by rw [nm_len, nm_cols, ha.c, hb.l])
  have g := mulm_gm2 (nm A) (nm B) ha.g hb.g (by omega) (by rw [nm_len, nm_cols, ha.c, hb.l])
  rw [valM_nm, valM_nm, nm_len, nm_cols, nm_cols, ha.l, ha.c, hb.c] at h g
  exact ⟨h, ha.n0, ha.n1, length_tabQ _ _ _, colsOf_tab _ ha.n0, g⟩
theorem Sq.add {n K L : Nat} {A B : List (List Rat)} (ha : Sq n K A) (hb : Sq n L B) (hK : 2 * K + 2 * L + 2 < 1099511627776) :
    PCall Try.prog 8 [.d (md (nm A)), .d (md (nm B))] (.tup [.d (md (nm (joinQ (· + ·) A B n n))), .d (.v (.int .i64 0))]) ∧ Sq n (K + L + 1) (joinQ (· + ·) A B n n) := by
  have h := qadd_g (nm A) (nm B) ha.g hb.g hK (by rw [nm_len, nm_len, ha.l, hb.l]) (by rw [nm_cols, nm_cols, ha.c, hb.c])
  have g := addQ_gm2 (a := nm A) (b := nm B) ha.g hb.g (by omega) (by rw [nm_len, nm_len, ha.l, hb.l]) (by rw [nm_cols, nm_cols, ha.c, hb.c])
  rw [valM_nm, valM_nm, nm_len, nm_cols, ha.l, ha.c] at h g
  rw [Nat.max_eq_left (by omega)] at g
  exact ⟨h, ha.n0, ha.n1, length_tabQ _ _ _, colsOf_tab _ ha.n0, g⟩
theorem Sq.id {n : Nat} (h0 : 0 < n) (h1 : n ≤ 1000) : Sq n 1 (identQ n) := ⟨h0, h1, length_tabQ _ _ _, colsOf_tab _ h0, ident_gm n h1⟩
theorem Sq.zero {n : Nat} (h0 : 0 < n) (h1 : n ≤ 1000) : Sq n 1 (zeroQ n n) := ⟨h0, h1, length_tabQ _ _ _, colsOf_tab _ h0, zero_gm n n h1 h1⟩
end Go.Mt
