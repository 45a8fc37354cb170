/-
  A part of the proof.
-/
import Derived.Test.YtpoocfmphcgmkaaGreatBre34
import Derived.Test.YtpoocfmphcgmkaaGreatBre38
import Derived.Test.YtpoocfmphcgmkaaGreatBre22
set_option linter.unusedVariables false
set_option linter.unusedSimpArgs false
set_option linter.unusedSimpArgs false
set_option linter.unusedVariables false
namespace Go.Mt
open Go Go.Pm Go.Proofs
/-- a matrix that came in -/
structure Im (m : MR) : Prop where
  d : Rz m.1
  ld : m.1.2.length < 1048577
  z : ∀ r ∈ m.2, ∀ z ∈ r, Rz z ∧ z.2.length < 1048577
  n : m.2.length < 1048577
  w : ∀ r ∈ m.2, r.length < 1048577
  fl : m.2.flatten.length < 1048577
theorem Im.of {m : MR} {b : Nat} (h : MatM m b) (hb : b ≤ 1048576) : Im m :=
  ⟨h.1.1, by have := h.1.2; omega, fun r hr z hz => ⟨(h.2.1 r hr z hz).1, by have := (h.2.1 r hr z hz).2; omega⟩, by have := h.2.2.1; omega, fun r hr => by have := h.2.2.2.1 r hr; omega, by have := h.2.2.2.2; omega⟩
theorem Im.g {m : MR} (h : Im m) : Grw m.2 := ⟨fun r hr z hz => (h.z r hr z hz).1, by have := h.n; omega, fun r hr => by have := h.w r hr; omega⟩
theorem check_parts {m : MR} (h : checkE m = 0) : ofR m.1 ≠ 0 ∧ evenB m.2 = true := by
  unfold checkE at h
  by_cases h0 : ofR m.1 = 0
  · rw [if_pos h0] at h; exact absurd h (by decide)
  · rw [if_neg h0] at h
    by_cases h1 : evenB m.2 = true
    · exact ⟨h0, h1⟩
    · rw [if_neg h1] at h; exact absurd h (by decide)
theorem Im.gm {m : MR} (h : Im m) (hc : checkE m = 0) : Gm 1048577 m := by
  obtain ⟨h0, h1⟩ := check_parts hc
  exact ⟨h.d, h0, h.g, h1, fun r hr z hz => by
    have := zl_ofR (h.z r hr z hz).1
    have := (h.z r hr z hz).2
    omega, by have := zl_ofR h.d; have := h.ld; omega⟩
theorem Im.gl {m : MR} (h : Im m) (h0 : ofR m.1 ≠ 0) : Gl m := ⟨h.d, h0, h.g, by have := h.ld; omega, fun r hr z hz => by have := (h.z r hr z hz).2; omega⟩
theorem Im.vfl {m : MR} (h : Im m) : (valM m).flatten.length < 1048577 := by
  have e : (valM m).flatten.length = m.2.flatten.length := by
    rw [valM_rows, List.length_flatten, List.length_flatten, List.map_map]
    congr 1
    exact List.map_congr_left fun r _ => by simp [valR_len]
  rw [e]; exact h.fl
end Go.Mt
/-
  A part of the proof.
-/
set_option linter.unusedSimpArgs false
set_option linter.unusedVariables false
namespace Go.Mt
open Go Go.Pm Go.Proofs
/-- a vector: its denominator, its numbers -/
abbrev VR := ZR × List ZR
def vd (v : VR) : D := .agg [.v (.bool v.1.1), .sl (les v.1.2), .sl (zes v.2)]
def vel (v : VR) : List D := [.v (.bool v.1.1), .sl (les v.1.2), .sl (zes v.2)]
def ves (l : List VR) : List (List D) := l.map vel
def vE : D := .agg [.v (.bool false), .sl [], .sl []]
attribute [go_sem] vd vel vE
@[go_sem] theorem ves_len (l : List VR) : (ves l).length = l.length := by simp [ves]
@[go_sem] theorem ves_ge {l : List VR} {i : Nat} (h : i < (ves l).length) : (ves l)[i] = vel (l[i]'(by rw [ves_len] at h; exact h)) := by simp [ves]
/-- numbers over their least common denominator -/
def vns (qs : List Rat) : List ZR := qs.map fun q => nrm (comNum (comDen qs) q)
def vnm (qs : List Rat) : VR := (nrm (comDen qs : Int), vns qs)
def valV (v : VR) : List Rat := valR (ofR v.1) v.2
theorem nm_one (qs : List Rat) : nm [qs] = (nrm (comDen qs : Int), [vns qs]) := by
  unfold nm nrmZ nrmD vns
  simp
set_option maxRecDepth 100000 in
theorem vec_p (d : ZR) (row : List ZR) (hd : Rz d) (h0 : ofR d ≠ 0) (hr : ∀ z ∈ row, Rz z) (hn : row.length < 549755813888) : PCall Tryz.prog 161 [.d (zd d), .d (.sl (zes row))] (.one (.d (vd (vnm (valR (ofR d) row))))) := by
  have hm := made_q d [row] hd h0 ⟨fun r hr2 z hz => by obtain rfl : r = row := by simpa using hr2
                                                        exact hr z hz, by simp, fun r hr2 => by obtain rfl : r = row := by simpa using hr2
                                                                                                exact hn⟩ (by simp [evenB, colsOf])
  have e : fracs (ofR d) (zz [row]) = [valR (ofR d) row] := by unfold fracs zz valR; simp [Function.comp]
  rw [e, nm_one] at hm
  have hm : PCall Tryz.prog 149 [.d (zd d), .d (.sl [[.sl (zes row)]])] (.one (.d (.agg [.v (.bool (nrm (comDen (valR (ofR d) row) : Int)).1), .sl (les (nrm (comDen (valR (ofR d) row) : Int)).2), .sl [[.sl (zes (vns (valR (ofR d) row)))]]]))) := hm
  have hl : (vns (valR (ofR d) row)).length = row.length := by simp [vns, valR]
  have ev : vd (vnm (valR (ofR d) row)) = .agg [.v (.bool (nrm (comDen (valR (ofR d) row) : Int)).1), .sl (les (nrm (comDen (valR (ofR d) row) : Int)).2), .sl (zes (vns (valR (ofR d) row)))] := rfl
  rw [ev]
  generalize vns (valR (ofR d) row) = R at *
  generalize comDen (valR (ofR d) row) = D at *
  by_cases h1 : R.length = 0
  · have h2 : R = [] := List.eq_nil_of_length_eq_zero h1
    subst h2
    refine pcall_of hmo Tryz.func161 rfl (by kernel_rfl) (by simp [Tryz.ntmps161]) ?_; simp -implicitDefEqProofs [go_sem, Tryz.ntmps161]; (repeat refine And.intro (by first | decide +kernel | omega | kernel_rfl) ?_); (try decide +kernel)
    refine .inl ⟨_, hm, ?_⟩; simp -implicitDefEqProofs [go_sem]; (repeat refine And.intro (by first | decide +kernel | omega | kernel_rfl) ?_); (try decide +kernel)
  · have h2 : ¬ R = [] := fun h => h1 (by rw [h]; rfl)
    have h3 : ¬ ((R.length : Nat) : Int) = 0 := by omega
    refine pcall_of hmo Tryz.func161 rfl (by kernel_rfl) (by simp [Tryz.ntmps161]) ?_; simp -implicitDefEqProofs [go_sem, Tryz.ntmps161]; (repeat refine And.intro (by first | decide +kernel | omega | kernel_rfl) ?_); (try decide +kernel)
    refine .inl ⟨_, hm, ?_⟩; simp -implicitDefEqProofs [go_sem, h1, h2, h3]; (repeat refine And.intro (by first | decide +kernel | omega | kernel_rfl) ?_); (try decide +kernel)
/-- the first of a list of vectors that cannot be -/
def vchE (l : List VR) : Int := if l.all (fun v => decide (ofR v.1 ≠ 0)) = true then 0 else 6
theorem vecCheck_p (l : List VR) (hl : ∀ v ∈ l, Rz v.1) (hn : l.length < 549755813888) : PCall Tryz.prog 160 [.d (.sl (ves l))] (.one (.d (.v (.int .i64 (vchE l))))) := by
  refine pcall_of hmo Tryz.func160 rfl (by kernel_rfl) (by simp [Tryz.ntmps160]) ?_; simp -implicitDefEqProofs [go_sem, Tryz.ntmps160]; (repeat refine And.intro (by first | decide +kernel | omega | kernel_rfl) ?_); (try decide +kernel)
  refine loop_rule [] (fun (k : Nat) => ⟨16, [(5, .d (.sl (ves l))), (6, intP .i64 (l.length : Int)), (7, intP .i64 (k : Int))], [], 1000⟩)
    (fun k => k ≤ l.length ∧ allK (fun v => decide (ofR v.1 ≠ 0)) l k) (fun k => l.length - k) 0 ⟨Nat.zero_le _, allK_zero _ _⟩ (by simp) (by simp -implicitDefEqProofs [go_sem]) (fun k ⟨hk, ha⟩ => ?_)
  by_cases hkl : k < l.length
  · have hs := sign_p l[k].1 (hl _ (List.getElem_mem hkl))
    by_cases h0 : ofR l[k].1 = 0
    · have e : vchE l = 6 := if_neg (fun h => by
        have := List.all_eq_true.1 h _ (List.getElem_mem hkl)
        simp [h0] at this)
      rw [h0] at hs
      rw [e]
      simp -implicitDefEqProofs [go_sem, hkl]; (repeat refine And.intro (by first | decide +kernel | omega | kernel_rfl) ?_); (try decide +kernel)
      refine .inl ⟨_, hs, ?_⟩; simp -implicitDefEqProofs [go_sem]; (repeat refine And.intro (by first | decide +kernel | omega | kernel_rfl) ?_); (try decide +kernel)
    · have hsg : ¬ (ofR l[k].1).sign = 0 := fun h => h0 (Int.sign_eq_zero_iff_zero.1 h)
      simp -implicitDefEqProofs [go_sem, hkl]; (repeat refine And.intro (by first | decide +kernel | omega | kernel_rfl) ?_); (try decide +kernel)
      refine .inl ⟨_, hs, ?_⟩; simp -implicitDefEqProofs [go_sem, hsg]; (repeat refine And.intro (by first | decide +kernel | omega | kernel_rfl) ?_); (try decide +kernel)
      exact ⟨k + 1, ⟨by omega, by simpa using allK_succ hkl ha (by simp [h0])⟩, by omega, by omega⟩
  · obtain rfl : k = l.length := by omega
    have e : vchE l = 0 := if_pos (allK_all ha)
    rw [e]
    simp -implicitDefEqProofs [go_sem]; (repeat refine And.intro (by first | decide +kernel | omega | kernel_rfl) ?_); (try decide +kernel)
end Go.Mt
/-
  A part of the proof.
-/
set_option linter.unusedSimpArgs false
set_option linter.unusedVariables false
namespace Go.Mt
open Go Go.Pm Go.Proofs
theorem vec11_p (qs : List Rat) (hq : ∀ q ∈ qs, ql q < 8589934592) (hn : qs.length < 549755813888) (hD : nl (comDen qs) < 8589934592) : PCall Tryz.prog 43 [.d (.sl (qes (qs.map nq)))] (.one (.d (vd (vnm qs)))) := by
  have hc := common5_p qs hq hn hD
  have hc : PCall Tryz.prog 116 [.d (.sl (qes (qs.map nq)))] (.tup [.d (zd (nrm (comDen qs : Int))), .d (.sl (zes (vns qs)))]) := hc
  have ev : vd (vnm qs) = .agg [.v (.bool (nrm (comDen qs : Int)).1), .sl (les (nrm (comDen qs : Int)).2), .sl (zes (vns qs))] := rfl
  rw [ev]
  generalize vns qs = R at *
  generalize comDen qs = D at *
  generalize qs.map nq = L at *
  refine pcall_of hmo Tryz.func43 rfl (by kernel_rfl) (by simp [Tryz.ntmps43]) ?_; simp -implicitDefEqProofs [go_sem, Tryz.ntmps43]; (repeat refine And.intro (by first | decide +kernel | omega | kernel_rfl) ?_); (try decide +kernel)
  refine .inl ⟨_, hc, ?_⟩; simp -implicitDefEqProofs [go_sem]; (repeat refine And.intro (by first | decide +kernel | omega | kernel_rfl) ?_); (try decide +kernel)
theorem sameVec11_p (a b : VR) (ha : Lz a.1) (hb : Lz b.1) (ha2 : ∀ z ∈ a.2, Lz z) (hb2 : ∀ z ∈ b.2, Lz z) (hal : a.2.length < 1099511627776) (hbl : b.2.length < 1099511627776) :
    PCall Tryz.prog 15 [.d (vd a), .d (vd b)] (.one (.d (.v (.bool (decide (a = b)))))) := by
  have h1 := same3_p a.1 b.1 ha hb
  have h2 := sameAll3_p a.2 b.2 ha2 hb2 hal hbl
  by_cases e1 : a.1 = b.1
  · rw [decide_eq_true e1] at h1
    have e : decide (a = b) = decide (a.2 = b.2) := by
      by_cases e2 : a.2 = b.2 <;> simp [Prod.ext_iff, e1, e2]
    rw [e]
    refine pcall_of hmo Tryz.func15 rfl (by kernel_rfl) (by simp [Tryz.ntmps15]) ?_; simp -implicitDefEqProofs [go_sem, Tryz.ntmps15]; (repeat refine And.intro (by first | decide +kernel | omega | kernel_rfl) ?_); (try decide +kernel)
    refine .inl ⟨_, h1, ?_⟩; simp -implicitDefEqProofs [go_sem]; (repeat refine And.intro (by first | decide +kernel | omega | kernel_rfl) ?_); (try decide +kernel)
    refine .inl ⟨_, h2, ?_⟩; simp -implicitDefEqProofs [go_sem]; (repeat refine And.intro (by first | decide +kernel | omega | kernel_rfl) ?_); (try decide +kernel)
  · rw [decide_eq_false e1] at h1
    have e : decide (a = b) = false := by simp [Prod.ext_iff, e1]
    rw [e]
    refine pcall_of hmo Tryz.func15 rfl (by kernel_rfl) (by simp [Tryz.ntmps15]) ?_; simp -implicitDefEqProofs [go_sem, Tryz.ntmps15]; (repeat refine And.intro (by first | decide +kernel | omega | kernel_rfl) ?_); (try decide +kernel)
    refine .inl ⟨_, h1, ?_⟩; simp -implicitDefEqProofs [go_sem]; (repeat refine And.intro (by first | decide +kernel | omega | kernel_rfl) ?_); (try decide +kernel)
/-- a vector that may be -/
structure Lv (v : VR) : Prop where
  d : Rz v.1
  ne : ofR v.1 ≠ 0
  ld : v.1.2.length < 8589934592
  z : ∀ z ∈ v.2, Rz z ∧ z.2.length < 8589934592
  n : v.2.length < 549755813888
end Go.Mt
/-
  A part of the proof.
-/
set_option linter.unusedSimpArgs false
set_option linter.unusedVariables false
namespace Go.Mt
open Go Go.Pm Go.Proofs
/-- what a call was given: a polynomial, a matrix, no vector -/
def acl (f : List QR) (m : MR) : List PV := [.d (.sl (qes f)), .d (.v (.bool m.1.1)), .d (.sl (les m.1.2)), .d (.sl (rws m.2)), .d (.v (.bool false)), .nl, .nl]
def hsA (f : List QR) (m : MR) (e : Int) : Heap := [(36, .box [.pr 24 0 0 0]), (40, .box [.d (.v (.bool false))]), (44, .box [.d (.v (.int .i64 e))]), (24, .box (acl f m))]
attribute [go_sem] acl hsA
end Go.Mt
/-
  A part of the proof.
-/
set_option linter.unusedSimpArgs false
set_option linter.unusedVariables false
namespace Go.Mt
open Go Go.Pm Go.Proofs
theorem Gm.mono {m : MR} {K L : Nat} (h : Gm K m) (hl : K ≤ L) : Gm L m := ⟨h.d, h.ne, h.g, h.ev, fun r hr z hz => Nat.le_trans (h.k r hr z hz) hl, Nat.le_trans h.kd hl⟩
end Go.Mt
/-
  A part of the proof.
-/
set_option linter.unusedSimpArgs false
set_option linter.unusedVariables false
namespace Go.Mt
open Go Go.Pm Go.Proofs
theorem ident_gm (n : Nat) (hn : n ≤ 1000) : Gm 1 (nm (identQ n)) := by
  obtain ⟨g1, g2, g3⟩ := grw_tab (K := 1) (f := idZ) (r := n) (c := n) (by decide) (by omega) (by omega) (fun i k _ _ => by unfold idZ; split <;> decide)
  have h := nm_bound (D := 1) (by decide) g2 g1 (by decide) (by decide) g3
  rw [zz_tab, frac_id] at h
  exact h
theorem zero_gm (r c : Nat) (hr : r ≤ 1000) (hc : c ≤ 1000) : Gm 1 (nm (zeroQ r c)) := by
  obtain ⟨g1, g2, g3⟩ := grw_tab (K := 1) (f := fun _ _ => 0) (r := r) (c := c) (by decide) (by omega) (by omega) (fun i k _ _ => by decide)
  have h := nm_bound (D := 1) (by decide) g2 g1 (by decide) (by decide) g3
  rw [zz_tab, frac_zero] at h
  exact h
structure Sq (n K : Nat) (A : List (List Rat)) : Prop where
  n0 : 0 < n
  n1 : n ≤ 1000
  l : A.length = n
  c : colsOf A = n
  g : Gm K (nm A)
theorem Sq.id {n : Nat} (h0 : 0 < n) (h1 : n ≤ 1000) : Sq n 1 (identQ n) := ⟨h0, h1, length_tabQ _ _ _, colsOf_tab _ h0, ident_gm n h1⟩
theorem Sq.zero {n : Nat} (h0 : 0 < n) (h1 : n ≤ 1000) : Sq n 1 (zeroQ n n) := ⟨h0, h1, length_tabQ _ _ _, colsOf_tab _ h0, zero_gm n n h1 h1⟩
end Go.Mt
