/-
  A part of the proof.
-/
import Derived.Test.YtmhclkagdpbadaaGreatQco32
import Derived.Test.YtmhclkagdpbadaaGreatQco23
set_option linter.unusedVariables false
set_option linter.unusedSimpArgs false
set_option linter.unusedSimpArgs false
set_option linter.unusedVariables false
namespace Go.Mt
open Go Go.Pm Go.Proofs
/-- a matrix of fractions in normal form; what a matrix says -/
def nm (qss : List (List Rat)) : MR := (nrm (nrmD qss : Int), (nrmZ qss).map fun r => r.map nrm)
def valM (m : MR) : List (List Rat) := fracs (ofR m.1) (zz m.2)
theorem zz_even {rows : List (List ZR)} (h : evenB rows = true) : ∀ zs ∈ zz rows, zs.length = colsOf (zz rows) := by
  intro zs hz
  obtain ⟨r, hr, rfl⟩ := List.mem_map.1 hz
  rw [zz_cols, List.length_map]
  exact even_row h hr
theorem mkM_nm {D : Int} (h0 : D ≠ 0) {rows : List (List ZR)} (h : evenB rows = true) : mkM D rows = nm (fracs D (zz rows)) := by
  obtain ⟨h1, h2⟩ := made_nrm D h0 (zz rows) (zz_even h)
  unfold nm
  rw [← h1, ← h2]
  unfold mkM mkD madeDen madeRows qrows qrow
  rw [zz_cols, ents_zz]
  congr 1
  unfold zz
  simp only [List.map_map, Function.comp_def]
theorem made_q (d : ZR) (rows : List (List ZR)) (hd : Rz d) (h0 : ofR d ≠ 0) (h : Grw rows) (hev : evenB rows = true) :
    PCall Tryz.prog 107 [.d (zd d), .d (.sl (rws rows))] (.one (.d (md (nm (fracs (ofR d) (zz rows)))))) := by
  rw [← mkM_nm h0 hev]; exact made_p d rows hd h0 h
theorem grw_tab {f : Nat → Nat → Int} {r c K : Nat} (hK : K < 1099511627776) (hr : r < 549755813888) (hc : c < 549755813888) (hf : ∀ i k, i < r → k < c → zl (f i k) ≤ K) : Grw (ztab f r c) ∧ evenB (ztab f r c) = true ∧ ∀ x ∈ ztab f r c, ∀ z ∈ x, zl (ofR z) ≤ K := by
  have hm : ∀ x ∈ ztab f r c, ∀ z ∈ x, ∃ i k, i < r ∧ k < c ∧ z = nrm (f i k) := by
    intro x hx z hz
    obtain ⟨i, hi, rfl⟩ := List.mem_map.1 hx
    obtain ⟨k, hk, rfl⟩ := List.mem_map.1 hz
    exact ⟨i, k, List.mem_range.1 hi, List.mem_range.1 hk, rfl⟩
  have hl : ∀ x ∈ ztab f r c, x.length = c := by
    intro x hx
    obtain ⟨i, hi, rfl⟩ := List.mem_map.1 hx
    exact zrow_len f c i
  refine ⟨⟨fun x hx z hz => ?_, by rw [ztab_len]; exact hr, fun x hx => by rw [hl x hx]; exact hc⟩, ?_, fun x hx z hz => ?_⟩
  · obtain ⟨i, k, h1, h2, rfl⟩ := hm x hx z hz
    exact rz (by have := hf i k h1 h2; omega)
  · unfold evenB
    rw [List.all_eq_true]
    intro x hx
    rw [hl x hx]
    refine decide_eq_true ?_
    cases h : ztab f r c with
    | nil => rw [h] at hx; simp at hx
    | cons y l => exact (hl y (by rw [h]; exact List.mem_cons_self ..)).symm
  · obtain ⟨i, k, h1, h2, rfl⟩ := hm x hx z hz
    rw [ofR_nrm]; exact hf i k h1 h2
end Go.Mt
/-
  A part of the proof.
-/
set_option linter.unusedSimpArgs false
set_option linter.unusedVariables false
namespace Go.Mt
open Go Go.Pm Go.Proofs
theorem Gm.ent {K : Nat} {m : MR} (h : Gm K m) {i k : Nat} (hi : i < m.2.length) (hk : k < colsOf m.2) : ∃ (h2 : k < m.2[i].length), Rz m.2[i][k] ∧ entry (zz m.2) i k = ofR m.2[i][k] ∧ zl (ofR m.2[i][k]) ≤ K := by
  have hl := h.row hi
  have h2 : k < m.2[i].length := by omega
  exact ⟨h2, h.g.rz _ (List.getElem_mem hi) _ (List.getElem_mem h2), zz_ent m.2 hi h2, h.k _ (List.getElem_mem hi) _ (List.getElem_mem h2)⟩
end Go.Mt
/-
  A part of the proof.
-/
set_option linter.unusedSimpArgs false
set_option linter.unusedVariables false
namespace Go.Mt
open Go Go.Pm Go.Proofs
/-- sizes -/
def sizE (l : List Int) : Int := if l.any (fun x => decide (x < 0)) then 1 else if l.any (fun x => decide (1000 < x)) then 4 else 0
def ies (l : List Int) : List (List D) := l.map fun x => [.v (.int .i64 x)]
@[go_sem] theorem ies_len (l : List Int) : (ies l).length = l.length := by simp [ies]
@[go_sem] theorem ies_ge {l : List Int} {i : Nat} (h : i < (ies l).length) : (ies l)[i] = [.v (.int .i64 (l[i]'(by rw [ies_len] at h; exact h)))] := by simp [ies]
theorem sized_p (l : List Int) (hl : l.length < 549755813888) : PCall Tryz.prog 269 [.d (.sl (ies l))] (.one (.d (.v (.int .i64 (sizE l))))) := by
  refine pcall_of hmo Tryz.func269 rfl (by kernel_rfl) (by simp [Tryz.ntmps269]) ?_; simp -implicitDefEqProofs [go_sem, Tryz.ntmps269]; (repeat refine And.intro (by first | decide +kernel | omega | kernel_rfl) ?_); (try decide +kernel)
  refine loop_rule [] (fun (k : Nat) => ⟨25, [(0, .d (.sl (ies l))), (2, intP .i64 0), (7, .d (.sl (ies l))), (8, intP .i64 (l.length : Int)), (9, intP .i64 (k : Int))], [], 1000⟩)
    (fun k => k ≤ l.length ∧ allK (fun x => decide (0 ≤ x)) l k) (fun k => l.length - k) 0 ⟨Nat.zero_le _, allK_zero _ _⟩ (by simp) (by simp -implicitDefEqProofs [go_sem]) (fun k ⟨hk, ha⟩ => ?_)
  by_cases hkl : k < l.length
  · by_cases h0 : l[k] < 0
    · have e : sizE l = 1 := by unfold sizE; rw [if_pos (any_not hkl (decide_eq_true h0))]
      rw [e]
      simp -implicitDefEqProofs [go_sem, hkl, h0]; (repeat refine And.intro (by first | decide +kernel | omega | kernel_rfl) ?_); (try decide +kernel)
    · have h2 : allK (fun x : Int => decide (0 ≤ x)) l (k + 1) := allK_succ hkl ha (decide_eq_true (by omega))
      simp -implicitDefEqProofs [go_sem, hkl, h0]; (repeat refine And.intro (by first | decide +kernel | omega | kernel_rfl) ?_); (try decide +kernel)
      refine ⟨k + 1, ?_⟩; (repeat' apply And.intro) <;> first | omega | assumption | rfl
  · obtain rfl : k = l.length := by omega
    have h1 := allK_any (q := fun x => decide (x < 0)) ha (fun x hx => by simp at hx ⊢; omega)
    simp -implicitDefEqProofs [go_sem]; (repeat refine And.intro (by first | decide +kernel | omega | kernel_rfl) ?_); (try decide +kernel)
    refine loop_rule [] (fun (k : Nat) => ⟨25, [(0, .d (.sl (ies l))), (2, intP .i64 0), (16, .d (.sl (ies l))), (17, intP .i64 (l.length : Int)), (18, intP .i64 (k : Int))], [], 2000⟩)
      (fun k => k ≤ l.length ∧ allK (fun x => decide (x ≤ 1000)) l k) (fun k => l.length - k) 0 ⟨Nat.zero_le _, allK_zero _ _⟩ (by simp) (by simp -implicitDefEqProofs [go_sem]) (fun k ⟨hk, ha⟩ => ?_)
    by_cases hkl : k < l.length
    · by_cases h0 : 1000 < l[k]
      · have e : sizE l = 4 := by unfold sizE; rw [h1, if_neg (by decide), if_pos (any_not hkl (decide_eq_true h0))]
        rw [e]
        simp -implicitDefEqProofs [go_sem, hkl, h0]; (repeat refine And.intro (by first | decide +kernel | omega | kernel_rfl) ?_); (try decide +kernel)
      · have h2 : allK (fun x : Int => decide (x ≤ 1000)) l (k + 1) := allK_succ hkl ha (decide_eq_true (by omega))
        simp -implicitDefEqProofs [go_sem, hkl, h0]; (repeat refine And.intro (by first | decide +kernel | omega | kernel_rfl) ?_); (try decide +kernel)
        refine ⟨k + 1, ?_⟩; (repeat' apply And.intro) <;> first | omega | assumption | rfl
    · obtain rfl : k = l.length := by omega
      have h2 := allK_any (q := fun x => decide (1000 < x)) ha (fun x hx => by simp at hx ⊢; omega)
      have e : sizE l = 0 := by unfold sizE; rw [h1, h2, if_neg (by decide), if_neg (by decide)]
      rw [e]
      simp -implicitDefEqProofs [go_sem]; (repeat refine And.intro (by first | decide +kernel | omega | kernel_rfl) ?_); (try decide +kernel)
end Go.Mt
/-
  A part of the proof.
-/
set_option linter.unusedSimpArgs false
set_option linter.unusedVariables false
namespace Go.Mt
open Go Go.Pm Go.Proofs
def zeroQ (r c : Nat) : List (List Rat) := tabQ (fun _ _ => 0) r c
end Go.Mt
/-
  A part of the proof.
-/
set_option linter.unusedSimpArgs false
set_option linter.unusedVariables false
namespace Go.Mt
open Go Go.Pm Go.Proofs
def mbx (m : MR) : List PV := [.d (.v (.bool m.1.1)), .d (.sl (les m.1.2)), .d (.sl (rws m.2))]
def hsJ (g : FuncId) (a b : MR) : Heap := [(8, .box [.fn g []]), (0, .box (mbx a)), (4, .box (mbx b))]
attribute [go_sem] mbx hsJ
end Go.Mt
/-
  A part of the proof.
-/
set_option linter.unusedSimpArgs false
set_option linter.unusedVariables false
namespace Go.Mt
open Go Go.Pm Go.Proofs
theorem sizem_p (m : MR) (hd : Rz m.1) (hg : Grw m.2) (hc : checkE m = 0) : PCall Tryz.prog 31 [.d (md m)] (.tup [.d (.v (.int .i64 (m.2.length : Int))), .d (.v (.int .i64 (colsOf m.2 : Int))), .d (.v (.int .i64 0))]) := by
  have h := check_p m hd hg
  rw [hc] at h
  refine pcall_of hmo Tryz.func31 rfl (by kernel_rfl) (by simp [Tryz.ntmps31]) ?_; simp -implicitDefEqProofs [go_sem, Tryz.ntmps31]; (repeat refine And.intro (by first | decide +kernel | omega | kernel_rfl) ?_); (try decide +kernel)
  refine .inl ⟨_, h, ?_⟩; simp -implicitDefEqProofs [go_sem]; (repeat refine And.intro (by first | decide +kernel | omega | kernel_rfl) ?_); (try decide +kernel)
  refine .inl ⟨_, size_p m hg, ?_⟩; simp -implicitDefEqProofs [go_sem]; (repeat refine And.intro (by first | decide +kernel | omega | kernel_rfl) ?_); (try decide +kernel)
theorem sizem_e (m : MR) (hd : Rz m.1) (hg : Grw m.2) (hc : checkE m ≠ 0) : PCall Tryz.prog 31 [.d (md m)] (.tup [.d (.v (.int .i64 0)), .d (.v (.int .i64 0)), .d (.v (.int .i64 (checkE m)))]) := by
  refine pcall_of hmo Tryz.func31 rfl (by kernel_rfl) (by simp [Tryz.ntmps31]) ?_; simp -implicitDefEqProofs [go_sem, Tryz.ntmps31]; (repeat refine And.intro (by first | decide +kernel | omega | kernel_rfl) ?_); (try decide +kernel)
  refine .inl ⟨_, check_p m hd hg, ?_⟩; simp -implicitDefEqProofs [go_sem, hc]; (repeat refine And.intro (by first | decide +kernel | omega | kernel_rfl) ?_); (try decide +kernel)
/-- rows of fractions in normal form -/
def qrw (qs : List Rat) : List D := [.sl (qes (qs.map nq))]
def qrs (qss : List (List Rat)) : List (List D) := qss.map qrw
attribute [go_sem] qrw
@[go_sem] theorem qrs_len (l : List (List Rat)) : (qrs l).length = l.length := by simp [qrs]
@[go_sem] theorem qrs_ge {l : List (List Rat)} {i : Nat} (h : i < (qrs l).length) : (qrs l)[i] = qrw (l[i]'(by rw [qrs_len] at h; exact h)) := by simp [qrs]
def valR (d : Int) (r : List ZR) : List Rat := r.map fun z => ratv (ofR z) d
theorem valM_rows (m : MR) : valM m = m.2.map (valR (ofR m.1)) := by
  unfold valM fracs zz valR
  rw [List.map_map]
  refine List.map_congr_left fun r _ => ?_
  simp [Function.comp]
@[go_sem] theorem valR_len (d : Int) (r : List ZR) : (valR d r).length = r.length := by simp [valR]
@[go_sem] theorem valM_len (m : MR) : (valM m).length = m.2.length := by rw [valM_rows, List.length_map]
theorem rows_e (m : MR) (hd : Rz m.1) (hg : Grw m.2) (hc : checkE m ≠ 0) : PCall Tryz.prog 30 [.d (md m)] (.tup [.d (.sl []), .d (.v (.int .i64 (checkE m)))]) := by
  refine pcall_of hmo Tryz.func30 rfl (by kernel_rfl) (by simp [Tryz.ntmps30]) ?_; simp -implicitDefEqProofs [go_sem, Tryz.ntmps30]; (repeat refine And.intro (by first | decide +kernel | omega | kernel_rfl) ?_); (try decide +kernel)
  refine .inl ⟨_, check_p m hd hg, ?_⟩; simp -implicitDefEqProofs [go_sem, hc]; (repeat refine And.intro (by first | decide +kernel | omega | kernel_rfl) ?_); (try decide +kernel)
def flt (V : List (List Rat)) (i : Nat) : List Rat := (V.take i).flatten
def fltIn (V : List (List Rat)) (i : Nat) (r : List Rat) (j : Nat) : List Rat := flt V i ++ r.take j
theorem flt_zero (V : List (List Rat)) : flt V 0 = [] := by simp [flt]
theorem flt_succ {V : List (List Rat)} {i : Nat} (hi : i < V.length) : fltIn V i V[i] V[i].length = flt V (i + 1) := by
  unfold flt fltIn flt
  rw [List.take_add_one, List.getElem?_eq_getElem hi, List.flatten_append, List.take_length]
  simp
theorem flt_all (V : List (List Rat)) : flt V V.length = V.flatten := by unfold flt; rw [List.take_length]
theorem fltIn_le {V : List (List Rat)} {i : Nat} (hi : i < V.length) {j : Nat} (hj : j ≤ V[i].length) : (fltIn V i V[i] j).length ≤ V.flatten.length := by
  have e : V.flatten = (flt V i ++ V[i]) ++ (V.drop (i + 1)).flatten := by
    conv => lhs; rw [← List.take_append_drop i V, List.flatten_append, List.drop_eq_getElem_cons hi, List.flatten_cons]
    rw [List.append_assoc]; rfl
  rw [e]
  unfold fltIn
  simp
  omega
theorem valM_ql {m : MR} {K : Nat} (hm : Gm K m) : ∀ q ∈ (valM m).flatten, ql q ≤ K := fun q hq => by
  obtain ⟨r, hr, hq⟩ := List.mem_flatten.1 hq
  rw [valM_rows] at hr
  obtain ⟨r0, h1, rfl⟩ := List.mem_map.1 hr
  obtain ⟨z, h2, rfl⟩ := List.mem_map.1 hq
  have h := ql_ratv (ofR z) (ofR m.1) hm.ne
  have h3 := hm.k r0 h1 z h2
  have h4 := hm.kd
  omega
end Go.Mt
/-
  A part of the proof.
-/
set_option linter.unusedSimpArgs false
set_option linter.unusedVariables false
namespace Go.Mt
open Go Go.Pm Go.Proofs
theorem nm_len (V : List (List Rat)) : (nm V).2.length = V.length := by unfold nm nrmZ; simp
theorem colsOf_get {α : Type} {l : List (List α)} (h : 0 < l.length) : (l[0]'h).length = colsOf l := by
  cases l with
  | nil => simp at h
  | cons x l => rfl
end Go.Mt
