/-
  A part of the proof.
-/
import Derived.Test.YtpoocfmphcgmkaaGreatBre21
import Derived.Test.YtpoocfmphcgmkaaGreatBre17
set_option linter.unusedVariables false
set_option linter.unusedSimpArgs false
set_option linter.unusedSimpArgs false
set_option linter.unusedVariables false
namespace Go.Mt
open Go Go.Pm Go.Proofs
/-- a matrix of fractions in normal form; what a matrix says -/
def nm (qss : List (List Rat)) : MR := (nrm (nrmD qss : Int), (nrmZ qss).map fun r => r.map nrm)
def valM (m : MR) : List (List Rat) := fracs (ofR m.1) (zz m.2)
theorem zz_even {rows : List (List ZR)} (h : evenB rows = true) : ∀ zs ∈ zz rows, zs.length = colsOf (zz rows) := by
  intro zs hz
  obtain ⟨r, hr, rfl⟩ := List.mem_map.1 hz
  rw [zz_cols, List.length_map]
  exact even_row h hr
theorem mkM_nm {D : Int} (h0 : D ≠ 0) {rows : List (List ZR)} (h : evenB rows = true) : mkM D rows = nm (fracs D (zz rows)) := by
  obtain ⟨h1, h2⟩ := made_nrm D h0 (zz rows) (zz_even h)
  unfold nm
  rw [← h1, ← h2]
  unfold mkM mkD madeDen madeRows qrows qrow
  rw [zz_cols, ents_zz]
  congr 1
  unfold zz
  simp only [List.map_map, Function.comp_def]
theorem made_q (d : ZR) (rows : List (List ZR)) (hd : Rz d) (h0 : ofR d ≠ 0) (h : Grw rows) (hev : evenB rows = true) :
    PCall Tryz.prog 149 [.d (zd d), .d (.sl (rws rows))] (.one (.d (md (nm (fracs (ofR d) (zz rows)))))) := by
  rw [← mkM_nm h0 hev]; exact made_p d rows hd h0 h
theorem zz_nrm (zss : List (List Int)) : zz (zss.map fun r => r.map nrm) = zss := by
  unfold zz
  rw [List.map_map]
  conv => rhs; rw [← List.map_id zss]
  refine List.map_congr_left fun r _ => ?_
  simp only [Function.comp, List.map_map, id]
  conv => rhs; rw [← List.map_id r]
  exact List.map_congr_left fun z _ => ofR_nrm z
theorem zz_nm (qss : List (List Rat)) : zz (nm qss).2 = nrmZ qss := zz_nrm _
theorem nm_den (qss : List (List Rat)) : ofR (nm qss).1 = (nrmD qss : Int) := ofR_nrm _
theorem nrmD_pos (qss : List (List Rat)) : 0 < nrmD qss := comDen_pos _
theorem valM_nm (qss : List (List Rat)) : valM (nm qss) = qss := by
  unfold valM
  rw [nm_den, zz_nm]
  unfold fracs nrmZ
  rw [List.map_map]
  conv => rhs; rw [← List.map_id qss]
  refine List.map_congr_left fun qs hq => ?_
  simp only [Function.comp, List.map_map, id]
  conv => rhs; rw [← List.map_id qs]
  refine List.map_congr_left fun q h => ?_
  exact ratv_comNum _ (nrmD_pos qss) q (den_dvd_comDen _ _ (List.mem_flatten.2 ⟨qs, hq, h⟩))
theorem evenB_map {α : Type} (f : α → ZR) (qss : List (List α)) (h : ∀ qs ∈ qss, qs.length = colsOf qss) : evenB (qss.map fun qs => qs.map f) = true := by
  unfold evenB
  rw [List.all_eq_true]
  intro r hr
  obtain ⟨qs, hq, rfl⟩ := List.mem_map.1 hr
  have hc : colsOf (qss.map fun qs => qs.map f) = colsOf qss := by cases qss <;> simp [colsOf]
  rw [hc, List.length_map]
  exact decide_eq_true (h qs hq)
/-- the normal form's numbers are no greater than those over any denominator -/
theorem nm_bound {D : Int} (h0 : D ≠ 0) {rows : List (List ZR)} (hev : evenB rows = true) (hg : Grw rows) {K : Nat} (hK : K < 1099511627776) (hD : zl D ≤ K) (hr : ∀ r ∈ rows, ∀ z ∈ r, zl (ofR z) ≤ K) : Gm (max K 1) (nm (fracs D (zz rows))) := by
  rw [← mkM_nm h0 hev]
  have hd1 : zl (mkD D rows) ≤ max K 1 := by
    unfold mkD; split
    · have : zl 1 = 1 := by decide
      omega
    · have := zl_div (madeG_dvd D (ents rows)).1
      omega
  have hmem : ∀ r ∈ (mkM D rows).2, ∀ z ∈ r, ∃ r0 ∈ rows, ∃ z0 ∈ r0, z = nrm (ofR z0 / madeG D (ents rows)) := by
    intro r hr z hz
    obtain ⟨r0, h1, rfl⟩ := List.mem_map.1 hr
    obtain ⟨z0, h2, rfl⟩ := List.mem_map.1 hz
    exact ⟨r0, h1, z0, h2, rfl⟩
  have hk : ∀ r ∈ (mkM D rows).2, ∀ z ∈ r, zl (ofR z) ≤ K ∧ Rz z := by
    intro r h1 z h2
    obtain ⟨r0, h3, z0, h4, rfl⟩ := hmem r h1 z h2
    have hd := zl_div ((madeG_dvd D (ents rows)).2 (ofR z0) (List.mem_map.2 ⟨z0, List.mem_flatten.2 ⟨r0, h3, h4⟩, rfl⟩))
    have := hr r0 h3 z0 h4
    refine ⟨by rw [ofR_nrm]; omega, rz (by omega)⟩
  have hne : ofR (mkM D rows).1 ≠ 0 := by
    show ofR (nrm (mkD D rows)) ≠ 0
    rw [ofR_nrm]
    unfold mkD; split
    · decide
    · intro e
      have hd := (madeG_dvd D (ents rows)).1
      have hn := madeG_ne h0 (ents rows)
      generalize madeG D (ents rows) = G at *
      obtain ⟨t, rfl⟩ := hd
      rw [Int.mul_ediv_cancel_left _ hn] at e
      rw [e, Int.mul_zero] at h0
      exact h0 rfl
  refine ⟨rz (by omega), hne, ⟨fun r h1 z h2 => (hk r h1 z h2).2, ?_, fun r h1 => ?_⟩, evenB_map _ rows (fun r hr => even_row hev hr), fun r h1 z h2 => by have := (hk r h1 z h2).1; omega, by show zl (ofR (nrm _)) ≤ _; rw [ofR_nrm]; exact hd1⟩
  · show (qrows _ _).length < _; rw [qrows_len]; exact hg.nr
  · obtain ⟨r0, h3, rfl⟩ := List.mem_map.1 h1
    rw [qrow_len]; exact hg.nc r0 h3
theorem grw_tab {f : Nat → Nat → Int} {r c K : Nat} (hK : K < 1099511627776) (hr : r < 549755813888) (hc : c < 549755813888) (hf : ∀ i k, i < r → k < c → zl (f i k) ≤ K) : Grw (ztab f r c) ∧ evenB (ztab f r c) = true ∧ ∀ x ∈ ztab f r c, ∀ z ∈ x, zl (ofR z) ≤ K := by
  have hm : ∀ x ∈ ztab f r c, ∀ z ∈ x, ∃ i k, i < r ∧ k < c ∧ z = nrm (f i k) := by
    intro x hx z hz
    obtain ⟨i, hi, rfl⟩ := List.mem_map.1 hx
    obtain ⟨k, hk, rfl⟩ := List.mem_map.1 hz
    exact ⟨i, k, List.mem_range.1 hi, List.mem_range.1 hk, rfl⟩
  have hl : ∀ x ∈ ztab f r c, x.length = c := by
    intro x hx
    obtain ⟨i, hi, rfl⟩ := List.mem_map.1 hx
    exact zrow_len f c i
  refine ⟨⟨fun x hx z hz => ?_, by rw [ztab_len]; exact hr, fun x hx => by rw [hl x hx]; exact hc⟩, ?_, fun x hx z hz => ?_⟩
  · obtain ⟨i, k, h1, h2, rfl⟩ := hm x hx z hz
    exact rz (by have := hf i k h1 h2; omega)
  · unfold evenB
    rw [List.all_eq_true]
    intro x hx
    rw [hl x hx]
    refine decide_eq_true ?_
    cases h : ztab f r c with
    | nil => rw [h] at hx; simp at hx
    | cons y l => exact (hl y (by rw [h]; exact List.mem_cons_self ..)).symm
  · obtain ⟨i, k, h1, h2, rfl⟩ := hm x hx z hz
    rw [ofR_nrm]; exact hf i k h1 h2
end Go.Mt
/-
  A part of the proof.
-/
set_option linter.unusedSimpArgs false
set_option linter.unusedVariables false
namespace Go.Mt
open Go Go.Pm Go.Proofs
def ies (l : List Int) : List (List D) := l.map fun x => [.v (.int .i64 x)]
@[go_sem] theorem ies_len (l : List Int) : (ies l).length = l.length := by simp [ies]
@[go_sem] theorem ies_ge {l : List Int} {i : Nat} (h : i < (ies l).length) : (ies l)[i] = [.v (.int .i64 (l[i]'(by rw [ies_len] at h; exact h)))] := by simp [ies]
end Go.Mt
/-
  A part of the proof.
-/
set_option linter.unusedSimpArgs false
set_option linter.unusedVariables false
namespace Go.Mt
open Go Go.Pm Go.Proofs
def idZ (i k : Nat) : Int := if i = k then 1 else 0
def identQ (n : Nat) : List (List Rat) := tabQ (fun i k => if i = k then 1 else 0) n n
def zeroQ (r c : Nat) : List (List Rat) := tabQ (fun _ _ => 0) r c
theorem ratv_1 (z : Int) : ratv z 1 = (z : Rat) := ratv_one z
theorem frac_id (n : Nat) : fracs 1 (tableZ idZ n n) = identQ n := by
  rw [fracs_table]
  refine tabQ_congr fun i k _ _ => ?_
  rw [ratv_1]; unfold idZ; split <;> rfl
theorem frac_zero (r c : Nat) : fracs 1 (tableZ (fun _ _ => 0) r c) = zeroQ r c := by
  rw [fracs_table]
  exact tabQ_congr fun i k _ _ => ratv_z 1
end Go.Mt
/-
  A part of the proof.
-/
set_option linter.unusedSimpArgs false
set_option linter.unusedVariables false
namespace Go.Mt
open Go Go.Pm Go.Proofs
def mbx (m : MR) : List PV := [.d (.v (.bool m.1.1)), .d (.sl (les m.1.2)), .d (.sl (rws m.2))]
def hsJ (g : FuncId) (a b : MR) : Heap := [(8, .box [.fn g []]), (0, .box (mbx a)), (4, .box (mbx b))]
attribute [go_sem] mbx hsJ
end Go.Mt
/-
  A part of the proof.
-/
set_option linter.unusedSimpArgs false
set_option linter.unusedVariables false
namespace Go.Mt
open Go Go.Pm Go.Proofs
theorem gm_of {m : MR} (hd : Rz m.1) (hg : Grw m.2) (hc : checkE m = 0) : Gm 1099511627775 m := by
  unfold checkE at hc
  split at hc
  · simp at hc
  · rename_i h0
    split at hc
    · rename_i h1
      exact ⟨hd, h0, hg, h1, fun r hr z hz => by have := zl_lt (hg.rz r hr z hz); omega, by have := zl_lt hd; omega⟩
    · simp at hc
theorem normm_p (m : MR) (hd : Rz m.1) (hg : Grw m.2) (hc : checkE m = 0) : PCall Tryz.prog 99 [.d (md m)] (.tup [.d (md (nm (valM m))), .d (.v (.int .i64 0))]) := by
  have h := check_p m hd hg
  rw [hc] at h
  have hm := gm_of hd hg hc
  have hmd := made_q m.1 m.2 hd hm.ne hg hm.ev
  refine pcall_of hmo Tryz.func99 rfl (by kernel_rfl) (by simp [Tryz.ntmps99]) ?_; simp -implicitDefEqProofs [go_sem, Tryz.ntmps99]; (repeat refine And.intro (by first | decide +kernel | omega | kernel_rfl) ?_); (try decide +kernel)
  refine .inl ⟨_, h, ?_⟩; simp -implicitDefEqProofs [go_sem]; (repeat refine And.intro (by first | decide +kernel | omega | kernel_rfl) ?_); (try decide +kernel)
  refine .inl ⟨_, hmd, ?_⟩; simp -implicitDefEqProofs [go_sem]; (repeat refine And.intro (by first | decide +kernel | omega | kernel_rfl) ?_); (try decide +kernel)
  rfl
theorem normm_e (m : MR) (hd : Rz m.1) (hg : Grw m.2) (hc : checkE m ≠ 0) : PCall Tryz.prog 99 [.d (md m)] (.tup [.d mE, .d (.v (.int .i64 (checkE m)))]) := by
  refine pcall_of hmo Tryz.func99 rfl (by kernel_rfl) (by simp [Tryz.ntmps99]) ?_; simp -implicitDefEqProofs [go_sem, Tryz.ntmps99]; (repeat refine And.intro (by first | decide +kernel | omega | kernel_rfl) ?_); (try decide +kernel)
  refine .inl ⟨_, check_p m hd hg, ?_⟩; simp -implicitDefEqProofs [go_sem, hc]; (repeat refine And.intro (by first | decide +kernel | omega | kernel_rfl) ?_); (try decide +kernel)
/-- rows of fractions in normal form -/
def qrw (qs : List Rat) : List D := [.sl (qes (qs.map nq))]
def qrs (qss : List (List Rat)) : List (List D) := qss.map qrw
attribute [go_sem] qrw
@[go_sem] theorem qrs_len (l : List (List Rat)) : (qrs l).length = l.length := by simp [qrs]
@[go_sem] theorem qrs_ge {l : List (List Rat)} {i : Nat} (h : i < (qrs l).length) : (qrs l)[i] = qrw (l[i]'(by rw [qrs_len] at h; exact h)) := by simp [qrs]
def valR (d : Int) (r : List ZR) : List Rat := r.map fun z => ratv (ofR z) d
theorem valM_rows (m : MR) : valM m = m.2.map (valR (ofR m.1)) := by
  unfold valM fracs zz valR
  rw [List.map_map]
  refine List.map_congr_left fun r _ => ?_
  simp [Function.comp]
@[go_sem] theorem valR_len (d : Int) (r : List ZR) : (valR d r).length = r.length := by simp [valR]
@[go_sem] theorem valM_len (m : MR) : (valM m).length = m.2.length := by rw [valM_rows, List.length_map]
theorem eachR_h (qss : List (List Rat)) (n : Nat) : HCall Tryz.prog 189 [.d (.sl (qrs qss))] [] n (.fn 216 [.pr n 0 0 0]) [(n, .box [.d (.sl (qrs qss))])] := by
  refine hcall_of (L := [n]) hmo Tryz.func189 rfl (by kernel_rfl) (by simp [Tryz.ntmps189]) (by simp -implicitDefEqProofs [go_sem]) (by simp -implicitDefEqProofs [go_sem]) ?_
  simp -implicitDefEqProofs [go_sem, Tryz.ntmps189]
def flt (V : List (List Rat)) (i : Nat) : List Rat := (V.take i).flatten
def fltIn (V : List (List Rat)) (i : Nat) (r : List Rat) (j : Nat) : List Rat := flt V i ++ r.take j
theorem flt_zero (V : List (List Rat)) : flt V 0 = [] := by simp [flt]
theorem fltIn_zero (V : List (List Rat)) (i : Nat) (r : List Rat) : fltIn V i r 0 = flt V i := by simp [fltIn]
theorem flt_succ {V : List (List Rat)} {i : Nat} (hi : i < V.length) : fltIn V i V[i] V[i].length = flt V (i + 1) := by
  unfold flt fltIn flt
  rw [List.take_add_one, List.getElem?_eq_getElem hi, List.flatten_append, List.take_length]
  simp
theorem flt_all (V : List (List Rat)) : flt V V.length = V.flatten := by unfold flt; rw [List.take_length]
theorem fltIn_app {V : List (List Rat)} {i : Nat} {r : List Rat} {j : Nat} (hj : j < r.length) : fltIn V i r (j + 1) = fltIn V i r j ++ [r[j]] := by
  unfold fltIn
  rw [List.take_add_one, List.getElem?_eq_getElem hj, List.append_assoc]; rfl
theorem fltIn_succ {V : List (List Rat)} {i : Nat} {r : List Rat} {j : Nat} (hj : j < r.length) {e : List D} (he : e = qel (nq r[j])) : qes ((fltIn V i r j).map nq) ++ [e] = qes ((fltIn V i r (j + 1)).map nq) := by
  rw [fltIn_app hj, he]; simp [qes]
theorem fltIn_len {V : List (List Rat)} {i : Nat} {r : List Rat} {j : Nat} (hj : j < r.length) : (fltIn V i r (j + 1)).length = (fltIn V i r j).length + 1 := by
  rw [fltIn_app hj]; simp
theorem fltIn_le {V : List (List Rat)} {i : Nat} (hi : i < V.length) {j : Nat} (hj : j ≤ V[i].length) : (fltIn V i V[i] j).length ≤ V.flatten.length := by
  have e : V.flatten = (flt V i ++ V[i]) ++ (V.drop (i + 1)).flatten := by
    conv => lhs; rw [← List.take_append_drop i V, List.flatten_append, List.drop_eq_getElem_cons hi, List.flatten_cons]
    rw [List.append_assoc]; rfl
  rw [e]
  unfold fltIn
  simp
  omega
theorem valM_ql {m : MR} {K : Nat} (hm : Gm K m) : ∀ q ∈ (valM m).flatten, ql q ≤ K := fun q hq => by
  obtain ⟨r, hr, hq⟩ := List.mem_flatten.1 hq
  rw [valM_rows] at hr
  obtain ⟨r0, h1, rfl⟩ := List.mem_map.1 hr
  obtain ⟨z, h2, rfl⟩ := List.mem_map.1 hq
  have h := ql_ratv (ofR z) (ofR m.1) hm.ne
  have h3 := hm.k r0 h1 z h2
  have h4 := hm.kd
  omega
end Go.Mt
/-
  A part of the proof.
-/
set_option linter.unusedSimpArgs false
set_option linter.unusedVariables false
namespace Go.Mt
open Go Go.Pm Go.Proofs
theorem nm_len (V : List (List Rat)) : (nm V).2.length = V.length := by unfold nm nrmZ; simp
theorem colsOf_get {α : Type} {l : List (List α)} (h : 0 < l.length) : (l[0]'h).length = colsOf l := by
  cases l with
  | nil => simp at h
  | cons x l => rfl
end Go.Mt
/-
  A part of the proof.
-/
set_option linter.unusedSimpArgs false
set_option linter.unusedVariables false
namespace Go.Mt
open Go Go.Pm Go.Proofs
theorem gm_nm {m : MR} {K : Nat} (hm : Gm K m) (hK : K < 1099511627776) : Gm (max K 1) (nm (valM m)) := nm_bound hm.ne hm.ev hm.g hK hm.kd hm.k
end Go.Mt
/-
  A part of the proof.
-/
set_option linter.unusedSimpArgs false
set_option linter.unusedVariables false
namespace Go.Mt
open Go Go.Pm Go.Proofs
theorem colsOf_tab (f : Nat → Nat → Rat) {r c : Nat} (hr : 0 < r) : colsOf (tabQ f r c) = c := by
  unfold tabQ
  obtain ⟨s, rfl⟩ : ∃ s, r = s + 1 := ⟨r - 1, by omega⟩
  rw [List.range_succ_eq_map]
  simp [colsOf]
end Go.Mt
